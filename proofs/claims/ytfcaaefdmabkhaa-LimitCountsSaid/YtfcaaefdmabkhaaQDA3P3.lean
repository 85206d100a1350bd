/- Functions' values and contracts, as the print wrote them. -/
import Derived.Test.YtfcaaefdmabkhaaQDA3P0
import Derived.Test.YtfcaaefdmabkhaaQDA3P1
import Derived.Test.YtfcaaefdmabkhaaQDA3P2
namespace Go.Proofs.Ytfcaaefdmabkhaa.Pr
open Bool renaming true → T
open Bool renaming false → F
open Go.RowKit Go.Proofs.YtfcaaefdmabkhaaW.PrintWords Go.Proofs.YtfcaaefdmabkhaaW.PrintLast Go.Proofs.YtfcaaefdmabkhaaW.PrintMore
attribute [local go_sem] QaQ QaS Qa1 Qa2 QaJ QaK QaR QaT   -- for this text's walks alone
set_option linter.unusedVariables false
set_option linter.unusedSimpArgs false
set_option maxRecDepth 100000
def Qa3.l0 : Nat → List (S84) → List (S84) → Int → Int → Option (Int)
 | 0, _, _, _, _ => none
 | k + 1, x0, x9, x10, x11 => if x11 < x10 then (if 0 ≤ x11 then (if x11 < (x9.length : Int) then ((QaY.f k ((rd_T84 x9 x11).f0) ((rd_T84 x9 x11).f1) ((rd_T84 x9 x11).f2) ((rd_T84 x9 x11).f3) ((rd_T84 x9 x11).f4) ((rd_T84 x9 x11).f5)).bind fun t205 => (if t205 = 0 then (if x11 > 0 then (if 0 ≤ (wrap64 (x11 - 1)) then (if (wrap64 (x11 - 1)) < (x0.length : Int) then (if (Op.bytesLess (((rd_T84 x9 x11).f0).toList) (((rd_T84 x0 (wrap64 (x11 - 1))).f0).toList)) = T then (some 12) else (if (((rd_T84 x9 x11).f0).toList) = (((rd_T84 x0 (wrap64 (x11 - 1))).f0).toList) then (some 12) else (Qa3.l0 k x0 x9 x10 (wrap64 (x11 + 1))))) else (none)) else (none)) else (Qa3.l0 k x0 x9 x10 (wrap64 (x11 + 1)))) else (some t205))) else (none)) else (none)) else (some 0)
def Qa3.f (k : Nat) (l0 : List (S84)) : Option (Int) := if (l0.length : Int) > 1024 then (some 8) else (Qa3.l0 k l0 l0 (l0.length : Int) 0)
theorem Qa3.mono_l : ∀ k, (∀ y0 y1 y2 y3, LeO (Qa3.l0 k y0 y1 y2 y3) (Qa3.l0 (k + 1) y0 y1 y2 y3))
 | 0 => fun _ _ _ _ r h => by simp [Qa3.l0] at h
 | k + 1 => by
  have ih0 := Qa3.mono_l k
  intro y0 y1 y2 y3
  unfold Qa3.l0
  exact ZM2 ih0 QaY.mono
theorem Qa3.mono : ∀ a0 k, LeO (Qa3.f k a0) (Qa3.f (k + 1) a0) := by
 intro a0 k
 have ih0 := Qa3.mono_l k
 unfold Qa3.f
 exact ZM2 ih0 QaY.mono
set_option maxHeartbeats 8000000 in
theorem Qa3.calls (k : Nat) (A0 : Option Addr) (c0 : Nat) (l0 : List (S84)) (r : Int) (w : World) (hr0 : Kd.C k84 w A0 l0.length l0) (hc0 : l0.length ≤ c0) (h : Qa3.f k l0 = some r) :
  Calls Try.prog 116 #[.slice A0 l0.length c0] w fun e w' => e = .returned (.int .i64 r) ∧ Below w.heap.size w w' := by
 have hu84 := Try.underlying84
 have HR0 := Aside0.mk hr0
 have HC0 := Aside0.mk hc0
 clear hr0 hc0
 have HB := Aside0.mk (Below.refl w.heap.size w)
 have H : (if (l0.length : Int) > 1024 then (some 8) else (Qa3.l0 k l0 l0 (l0.length : Int) 0)) = some r := h
 clear h
 by_cases c2 : (l0.length : Int) > 1024
 ·rw [if_pos c2] at H
  have c2b0 : decide (1024 < (l0.length : Int)) = T := decide_eq_true c2
  have c2b1 : decide (1024 < l0.length) = T := decide_eq_true (by omega)
  clear c2
  obtain rfl := Option.some.inj H
  go_enter Try.func116, Try.ntmps116
  go_wp2
  repeat (go_quiet (fail); try go_wp2)
  go_ret
  exact ⟨Zq, Zb⟩
 rw [if_neg c2] at H
 have c2b0 : decide (1024 < (l0.length : Int)) = F := decide_eq_false c2
 have c2b1 : decide (1024 < l0.length) = F := decide_eq_false (by omega)
 clear c2
 have H' := Aside0.mk H
 clear H
 go_enter Try.func116, Try.ntmps116
 go_wp2
 repeat (go_quiet (fail); try go_wp2)
 go_loopg [11] k (fun kq v11 w' => ∃ (x11_1 : Int), v11 = .int .i64 x11_1 ∧ Aside0 (Qa3.l0 kq l0 l0 (l0.length : Int) x11_1 = some r) ∧ Aside0 (kq ≤ k) ∧ Aside0 (Below w.heap.size w w'))
 case atStart => exact ⟨(0), (Zs), H', ⟨Nat.le_refl _⟩, ⟨Zb⟩⟩
 case round =>
  clear H'
  try clear c1
  try clear c2
  try clear c2b0
  try clear c2b1
  try clear p2
  obtain ⟨x11_1, rfl, HA, HK1, HB⟩ := hrel
  cases gk with
  | zero => exact absurd HA.out (by simp [Qa3.l0])
  | succ k1 =>
   have H := HA.out
   clear HA
   simp only [Qa3.l0] at H
   by_cases c3 : x11_1 < (l0.length : Int)
   ·rw [if_pos c3] at H
    have c3b0 : decide (x11_1 < (l0.length : Int)) = T := decide_eq_true c3
    clear c3
    (try simp only [c3b0])
    by_cases c4 : 0 ≤ x11_1
    ·rw [if_pos c4] at H
     have c4b0 : decide (0 ≤ x11_1) = T := decide_eq_true c4
     clear c4
     by_cases c5 : x11_1 < (l0.length : Int)
     ·rw [if_pos c5] at H
      have c5b0 : decide (x11_1 < (l0.length : Int)) = T := decide_eq_true c5
      clear c5
      replace H := Option.bind_eq_some_iff.mp H
      obtain ⟨t205, A60, H⟩ := H
      replace H : (if t205 = 0 then (if x11_1 > 0 then (if 0 ≤ (wrap64 (x11_1 - 1)) then (if (wrap64 (x11_1 - 1)) < (l0.length : Int) then (if (Op.bytesLess (((rd_T84 l0 x11_1).f0).toList) (((rd_T84 l0 (wrap64 (x11_1 - 1))).f0).toList)) = T then (some 12) else (if (((rd_T84 l0 x11_1).f0).toList) = (((rd_T84 l0 (wrap64 (x11_1 - 1))).f0).toList) then (some 12) else (Qa3.l0 k1 l0 l0 (l0.length : Int) (wrap64 (x11_1 + 1))))) else (none)) else (none)) else (Qa3.l0 k1 l0 l0 (l0.length : Int) (wrap64 (x11_1 + 1)))) else (some t205)) = some r := H
      have A6 := Aside0.mk A60
      clear A60
      have p203 : 0 ≤ (x11_1 : Int) := Ze
      have q203 : x11_1 < (l0.length : Int) := Ze
      obtain ⟨ad203, e203, hx203_0, hx203_1, hx203_2, hx203_3, hx203_4, hx203_5⟩ := at_T84 HR0.out x11_1 p203 q203
      cases e203
      replace hx203_0 := Zx HB.out hx203_0
      replace hx203_1 := Zx HB.out hx203_1
      replace hx203_2 := Zx HB.out hx203_2
      replace hx203_3 := Zx HB.out hx203_3
      replace hx203_4 := Zx HB.out hx203_4
      replace hx203_5 := Zx HB.out hx203_5
      replace p203 := eq_true p203
      replace q203 := eq_true q203
      go_upto_if 19 with (first | ((with_reducible refine QaL (N := 4) rfl ?_); refine Zbx (N := 4) (cs := #[.string (⟨#[]⟩ : ByteArray), .int .i64 0, .int .i64 0, .int .i64 0, .int .i64 0, .int .i64 0]) (t := 84) ?_; intro gb204 hg w7 hbox hb; have BK204 := Aside0.mk (hbox); have GW204 := Aside0.mk (Zt w hg (Zb)); have GE204 := GW204; replace HB := Aside0.mk (Qan (Zb) hb); clear hb hbox hg; obtain ⟨hcz8_0, hfz8_0⟩ := Zy (v := (.string (⟨#[]⟩ : ByteArray))) BK204.out 0; obtain ⟨hcz8_1, hfz8_1⟩ := Zy (v := (.int .i64 0)) BK204.out 1; obtain ⟨hcz8_2, hfz8_2⟩ := Zy (v := (.int .i64 0)) BK204.out 2; obtain ⟨hcz8_3, hfz8_3⟩ := Zy (v := (.int .i64 0)) BK204.out 3; obtain ⟨hcz8_4, hfz8_4⟩ := Zy (v := (.int .i64 0)) BK204.out 4; obtain ⟨hcz8_5, hfz8_5⟩ := Zy (v := (.int .i64 0)) BK204.out 5) | (go_at_call 78; (with_reducible refine (QaY.calls k1 ((rd_T84 l0 x11_1).f0) ((rd_T84 l0 x11_1).f1) ((rd_T84 l0 x11_1).f2) ((rd_T84 l0 x11_1).f3) ((rd_T84 l0 x11_1).f4) ((rd_T84 l0 x11_1).f5) t205 _ A6.out).mono ?_); rintro e w9 ⟨rfl, hb⟩; replace BK204 := Aside0.mk (Zpi #[.string ((rd_T84 l0 x11_1).f0), .int .i64 ((rd_T84 l0 x11_1).f1), .int .i64 ((rd_T84 l0 x11_1).f2), .int .i64 ((rd_T84 l0 x11_1).f3), .int .i64 ((rd_T84 l0 x11_1).f4), .int .i64 ((rd_T84 l0 x11_1).f5)] BK204.out hb); replace HB := Aside0.mk (Qan (Zc1 GE204.out) hb); (try clear hb); (try clear hb2); (try clear hk); (try clear hi)))
      repeat (go_quiet (first | ((with_reducible refine QaL (N := 4) rfl ?_); refine Zbx (N := 4) (cs := #[.string (⟨#[]⟩ : ByteArray), .int .i64 0, .int .i64 0, .int .i64 0, .int .i64 0, .int .i64 0]) (t := 84) ?_; intro gb204 hg w7 hbox hb; have BK204 := Aside0.mk (hbox); have GW204 := Aside0.mk (Zt w hg (Zb)); have GE204 := GW204; replace HB := Aside0.mk (Qan (Zb) hb); clear hb hbox hg; obtain ⟨hcz8_0, hfz8_0⟩ := Zy (v := (.string (⟨#[]⟩ : ByteArray))) BK204.out 0; obtain ⟨hcz8_1, hfz8_1⟩ := Zy (v := (.int .i64 0)) BK204.out 1; obtain ⟨hcz8_2, hfz8_2⟩ := Zy (v := (.int .i64 0)) BK204.out 2; obtain ⟨hcz8_3, hfz8_3⟩ := Zy (v := (.int .i64 0)) BK204.out 3; obtain ⟨hcz8_4, hfz8_4⟩ := Zy (v := (.int .i64 0)) BK204.out 4; obtain ⟨hcz8_5, hfz8_5⟩ := Zy (v := (.int .i64 0)) BK204.out 5) | (go_at_call 78; (with_reducible refine (QaY.calls k1 ((rd_T84 l0 x11_1).f0) ((rd_T84 l0 x11_1).f1) ((rd_T84 l0 x11_1).f2) ((rd_T84 l0 x11_1).f3) ((rd_T84 l0 x11_1).f4) ((rd_T84 l0 x11_1).f5) t205 _ A6.out).mono ?_); rintro e w9 ⟨rfl, hb⟩; replace BK204 := Aside0.mk (Zpi #[.string ((rd_T84 l0 x11_1).f0), .int .i64 ((rd_T84 l0 x11_1).f1), .int .i64 ((rd_T84 l0 x11_1).f2), .int .i64 ((rd_T84 l0 x11_1).f3), .int .i64 ((rd_T84 l0 x11_1).f4), .int .i64 ((rd_T84 l0 x11_1).f5)] BK204.out hb); replace HB := Aside0.mk (Qan (Zc1 GE204.out) hb); (try clear hb); (try clear hb2); (try clear hk); (try clear hi))); go_upto_if 19 with (first | ((with_reducible refine QaL (N := 4) rfl ?_); refine Zbx (N := 4) (cs := #[.string (⟨#[]⟩ : ByteArray), .int .i64 0, .int .i64 0, .int .i64 0, .int .i64 0, .int .i64 0]) (t := 84) ?_; intro gb204 hg w7 hbox hb; have BK204 := Aside0.mk (hbox); have GW204 := Aside0.mk (Zt w hg (Zb)); have GE204 := GW204; replace HB := Aside0.mk (Qan (Zb) hb); clear hb hbox hg; obtain ⟨hcz8_0, hfz8_0⟩ := Zy (v := (.string (⟨#[]⟩ : ByteArray))) BK204.out 0; obtain ⟨hcz8_1, hfz8_1⟩ := Zy (v := (.int .i64 0)) BK204.out 1; obtain ⟨hcz8_2, hfz8_2⟩ := Zy (v := (.int .i64 0)) BK204.out 2; obtain ⟨hcz8_3, hfz8_3⟩ := Zy (v := (.int .i64 0)) BK204.out 3; obtain ⟨hcz8_4, hfz8_4⟩ := Zy (v := (.int .i64 0)) BK204.out 4; obtain ⟨hcz8_5, hfz8_5⟩ := Zy (v := (.int .i64 0)) BK204.out 5) | (go_at_call 78; (with_reducible refine (QaY.calls k1 ((rd_T84 l0 x11_1).f0) ((rd_T84 l0 x11_1).f1) ((rd_T84 l0 x11_1).f2) ((rd_T84 l0 x11_1).f3) ((rd_T84 l0 x11_1).f4) ((rd_T84 l0 x11_1).f5) t205 _ A6.out).mono ?_); rintro e w9 ⟨rfl, hb⟩; replace BK204 := Aside0.mk (Zpi #[.string ((rd_T84 l0 x11_1).f0), .int .i64 ((rd_T84 l0 x11_1).f1), .int .i64 ((rd_T84 l0 x11_1).f2), .int .i64 ((rd_T84 l0 x11_1).f3), .int .i64 ((rd_T84 l0 x11_1).f4), .int .i64 ((rd_T84 l0 x11_1).f5)] BK204.out hb); replace HB := Aside0.mk (Qan (Zc1 GE204.out) hb); (try clear hb); (try clear hb2); (try clear hk); (try clear hi))))
      (try simp only [Act.put, Zj, Zk, Zm])
      by_cases c10 : t205 = 0
      ·rw [if_pos c10] at H
       have c10b0 : (t205 == 0) = T := beq_iff_eq.mpr c10
       have c10b1 : (t205 != 0) = F := bne_eq_false_iff_eq.mpr c10
       clear c10
       (try simp only [c10b0, c10b1])
       by_cases c11 : x11_1 > 0
       ·rw [if_pos c11] at H
        have c11b0 : decide (0 < x11_1) = T := decide_eq_true c11
        clear c11
        obtain ⟨ji12, hji12⟩ : ∃ j_ : Int, (wrap64 (x11_1 - 1)) = j_ := ⟨_, rfl⟩
        replace H : (if 0 ≤ (ji12) then (if (ji12) < (l0.length : Int) then (if (Op.bytesLess (((rd_T84 l0 x11_1).f0).toList) (((rd_T84 l0 (ji12)).f0).toList)) = T then (some 12) else (if (((rd_T84 l0 x11_1).f0).toList) = (((rd_T84 l0 (ji12)).f0).toList) then (some 12) else (Qa3.l0 k1 l0 l0 (l0.length : Int) (wrap64 (x11_1 + 1))))) else (none)) else (none)) = some r := by first | (rw [hji12] at H; exact H) | (simp only [hji12] at H ⊢; exact H)
        have hji12w : (IntKind.i64.wrap (x11_1 - 1)) = ji12 := (i64_w _).trans hji12
        by_cases c13 : 0 ≤ (ji12)
        ·rw [if_pos c13] at H
         have c13b0 : decide (0 ≤ (ji12)) = T := decide_eq_true c13
         clear c13
         by_cases c14 : (ji12) < (l0.length : Int)
         ·rw [if_pos c14] at H
          have c14b0 : decide ((ji12) < (l0.length : Int)) = T := decide_eq_true c14
          clear c14
          by_cases c15 : (Op.bytesLess (((rd_T84 l0 x11_1).f0).toList) (((rd_T84 l0 (ji12)).f0).toList)) = T
          ·rw [if_pos c15] at H
           have c15b0 : (Op.bytesLess (((rd_T84 l0 x11_1).f0).toList) (((rd_T84 l0 (ji12)).f0).toList)) = T := c15
           clear c15
           obtain rfl := Option.some.inj H
           obtain ⟨hcz16_0, hfz16_0⟩ := Zy (v := (.string ((rd_T84 l0 x11_1).f0))) BK204.out 0
           obtain ⟨hcz16_1, hfz16_1⟩ := Zy (v := (.int .i64 ((rd_T84 l0 x11_1).f1))) BK204.out 1
           obtain ⟨hcz16_2, hfz16_2⟩ := Zy (v := (.int .i64 ((rd_T84 l0 x11_1).f2))) BK204.out 2
           obtain ⟨hcz16_3, hfz16_3⟩ := Zy (v := (.int .i64 ((rd_T84 l0 x11_1).f3))) BK204.out 3
           obtain ⟨hcz16_4, hfz16_4⟩ := Zy (v := (.int .i64 ((rd_T84 l0 x11_1).f4))) BK204.out 4
           obtain ⟨hcz16_5, hfz16_5⟩ := Zy (v := (.int .i64 ((rd_T84 l0 x11_1).f5))) BK204.out 5
           have p206 : 0 ≤ ((ji12) : Int) := Ze
           have q206 : (ji12) < (l0.length : Int) := Ze
           obtain ⟨ad206, e206, hx206_0, hx206_1, hx206_2, hx206_3, hx206_4, hx206_5⟩ := at_T84 HR0.out (ji12) p206 q206
           obtain rfl : ad203 = ad206 := (by injection e206)
           replace hx206_0 := Zx HB.out hx206_0
           replace hx206_1 := Zx HB.out hx206_1
           replace hx206_2 := Zx HB.out hx206_2
           replace hx206_3 := Zx HB.out hx206_3
           replace hx206_4 := Zx HB.out hx206_4
           replace hx206_5 := Zx HB.out hx206_5
           replace p206 := eq_true p206
           replace q206 := eq_true q206
           go_wp2
           repeat (go_quiet (fail); try go_wp2)
           go_ret
           exact ⟨by first | rfl | (simp [Qaj, Qak] <;> rfl) | (simp only [← hji12]; first | rfl | (simp [Qaj, Qak] <;> rfl)) | (simp [*, Qaj, Qak] <;> rfl), Zc1 GE204.out⟩
          rw [if_neg c15] at H
          have c15b0 : (Op.bytesLess (((rd_T84 l0 x11_1).f0).toList) (((rd_T84 l0 (ji12)).f0).toList)) = F := by simpa using c15
          clear c15
          by_cases c17 : (((rd_T84 l0 x11_1).f0).toList) = (((rd_T84 l0 (ji12)).f0).toList)
          ·rw [if_pos c17] at H
           have c17b0 : ((((rd_T84 l0 x11_1).f0).toList) == (((rd_T84 l0 (ji12)).f0).toList)) = T := beq_iff_eq.mpr c17
           have c17b1 : ((((rd_T84 l0 x11_1).f0).toList) != (((rd_T84 l0 (ji12)).f0).toList)) = F := bne_eq_false_iff_eq.mpr c17
           clear c17
           obtain rfl := Option.some.inj H
           obtain ⟨hcz18_0, hfz18_0⟩ := Zy (v := (.string ((rd_T84 l0 x11_1).f0))) BK204.out 0
           obtain ⟨hcz18_1, hfz18_1⟩ := Zy (v := (.int .i64 ((rd_T84 l0 x11_1).f1))) BK204.out 1
           obtain ⟨hcz18_2, hfz18_2⟩ := Zy (v := (.int .i64 ((rd_T84 l0 x11_1).f2))) BK204.out 2
           obtain ⟨hcz18_3, hfz18_3⟩ := Zy (v := (.int .i64 ((rd_T84 l0 x11_1).f3))) BK204.out 3
           obtain ⟨hcz18_4, hfz18_4⟩ := Zy (v := (.int .i64 ((rd_T84 l0 x11_1).f4))) BK204.out 4
           obtain ⟨hcz18_5, hfz18_5⟩ := Zy (v := (.int .i64 ((rd_T84 l0 x11_1).f5))) BK204.out 5
           have p206 : 0 ≤ ((ji12) : Int) := Ze
           have q206 : (ji12) < (l0.length : Int) := Ze
           obtain ⟨ad206, e206, hx206_0, hx206_1, hx206_2, hx206_3, hx206_4, hx206_5⟩ := at_T84 HR0.out (ji12) p206 q206
           obtain rfl : ad203 = ad206 := (by injection e206)
           replace hx206_0 := Zx HB.out hx206_0
           replace hx206_1 := Zx HB.out hx206_1
           replace hx206_2 := Zx HB.out hx206_2
           replace hx206_3 := Zx HB.out hx206_3
           replace hx206_4 := Zx HB.out hx206_4
           replace hx206_5 := Zx HB.out hx206_5
           replace p206 := eq_true p206
           replace q206 := eq_true q206
           go_wp2
           repeat (go_quiet (fail); try go_wp2)
           go_ret
           exact ⟨by first | rfl | (simp [Qaj, Qak] <;> rfl) | (simp only [← hji12]; first | rfl | (simp [Qaj, Qak] <;> rfl)) | (simp [*, Qaj, Qak] <;> rfl), Zc1 GE204.out⟩
          rw [if_neg c17] at H
          have c17b0 : ((((rd_T84 l0 x11_1).f0).toList) == (((rd_T84 l0 (ji12)).f0).toList)) = F := beq_eq_false_iff_ne.mpr c17
          have c17b1 : ((((rd_T84 l0 x11_1).f0).toList) != (((rd_T84 l0 (ji12)).f0).toList)) = T := bne_iff_ne.mpr c17
          have H' := Aside0.mk H
          clear H
          obtain ⟨hcz19_0, hfz19_0⟩ := Zy (v := (.string ((rd_T84 l0 x11_1).f0))) BK204.out 0
          obtain ⟨hcz19_1, hfz19_1⟩ := Zy (v := (.int .i64 ((rd_T84 l0 x11_1).f1))) BK204.out 1
          obtain ⟨hcz19_2, hfz19_2⟩ := Zy (v := (.int .i64 ((rd_T84 l0 x11_1).f2))) BK204.out 2
          obtain ⟨hcz19_3, hfz19_3⟩ := Zy (v := (.int .i64 ((rd_T84 l0 x11_1).f3))) BK204.out 3
          obtain ⟨hcz19_4, hfz19_4⟩ := Zy (v := (.int .i64 ((rd_T84 l0 x11_1).f4))) BK204.out 4
          obtain ⟨hcz19_5, hfz19_5⟩ := Zy (v := (.int .i64 ((rd_T84 l0 x11_1).f5))) BK204.out 5
          have p206 : 0 ≤ ((ji12) : Int) := Ze
          have q206 : (ji12) < (l0.length : Int) := Ze
          obtain ⟨ad206, e206, hx206_0, hx206_1, hx206_2, hx206_3, hx206_4, hx206_5⟩ := at_T84 HR0.out (ji12) p206 q206
          obtain rfl : ad203 = ad206 := (by injection e206)
          replace hx206_0 := Zx HB.out hx206_0
          replace hx206_1 := Zx HB.out hx206_1
          replace hx206_2 := Zx HB.out hx206_2
          replace hx206_3 := Zx HB.out hx206_3
          replace hx206_4 := Zx HB.out hx206_4
          replace hx206_5 := Zx HB.out hx206_5
          replace p206 := eq_true p206
          replace q206 := eq_true q206
          go_wp2
          repeat (go_quiet (fail); try go_wp2)
          go_roundg k1
          case measure => have := HK1.out; omega
          case rel => exact ⟨(wrap64 (x11_1 + 1)), (Zs), H', ⟨by have := HK1.out; omega⟩, ⟨Zc1 GE204.out⟩⟩
         rw [if_neg c14] at H
         exact absurd H (by simp)
        rw [if_neg c13] at H
        exact absurd H (by simp)
       rw [if_neg c11] at H
       have c11b0 : decide (0 < x11_1) = F := decide_eq_false c11
       clear c11
       have H' := Aside0.mk H
       clear H
       go_wp2
       repeat (go_quiet (fail); try go_wp2)
       go_roundg k1
       case measure => have := HK1.out; omega
       case rel => exact ⟨(wrap64 (x11_1 + 1)), (Zs), H', ⟨by have := HK1.out; omega⟩, ⟨Zc1 GE204.out⟩⟩
      rw [if_neg c10] at H
      have c10b0 : (t205 == 0) = F := beq_eq_false_iff_ne.mpr c10
      have c10b1 : (t205 != 0) = T := bne_iff_ne.mpr c10
      (try simp only [c10b0, c10b1])
      obtain rfl := Option.some.inj H
      go_wp2
      repeat (go_quiet (fail); try go_wp2)
      go_ret
      exact ⟨Zq, Zc1 GE204.out⟩
     rw [if_neg c5] at H
     exact absurd H (by simp)
    rw [if_neg c4] at H
    exact absurd H (by simp)
   rw [if_neg c3] at H
   have c3b0 : decide (x11_1 < (l0.length : Int)) = F := decide_eq_false c3
   clear c3
   (try simp only [c3b0])
   obtain rfl := Option.some.inj H
   go_wp2
   repeat (go_quiet (fail); try go_wp2)
   go_ret
   exact ⟨Zq, Zb⟩
def QaW.l0 : Nat → List (S84) → List (S98) → List Int → List (S46) → Int → Int → Option (Int × Int)
 | 0, _, _, _, _, _, _ => none
 | k + 1, x2, x3, x10, x29, x30, x31 => if x31 < x30 then (if 0 ≤ x31 then (if x31 < (x29.length : Int) then ((Qbf.f k x2 ((rd_T46 x29 x31).f1)).bind fun bt217 => (if bt217.2.2.2.2.2.2 = T then ((Qbh.f k bt217.1 bt217.2.1 bt217.2.2.1 bt217.2.2.2.1 bt217.2.2.2.2.1 bt217.2.2.2.2.2.1 ((rd_T46 x29 x31).f2) x3).bind fun bt225 => (if bt225.2 = 0 then (if x10.length < 17592186044416 then (QaW.l0 k x2 x3 (x10 ++ [bt225.1]) x29 x30 (wrap64 (x31 + 1))) else (none)) else (some (0, bt225.2)))) else (some (0, 11)))) else (none)) else (none)) else ((Qbl.f k x10).bind fun bt213 => (some (bt213.1, bt213.2)))
def QaW.f (k : Nat) (l0 : List (S46)) (a1_0 : ByteArray) (a1_1 : ByteArray) (l2 : List (S84)) (l3 : List (S98)) : Option (Int × Int) := (QaF.f k l0).bind fun t208 => (if t208 = 0 then ((Qa3.f k l2).bind fun t209 => (if t209 = 0 then ((Qa4.f k l0 a1_0 a1_1).bind fun t210 => (QaW.l0 k l2 l3 ([] : List Int) t210 (t210.length : Int) 0)) else (some (0, t209)))) else (some (0, t208)))
theorem QaW.mono_l : ∀ k, (∀ y0 y1 y2 y3 y4 y5, LeO (QaW.l0 k y0 y1 y2 y3 y4 y5) (QaW.l0 (k + 1) y0 y1 y2 y3 y4 y5))
 | 0 => fun _ _ _ _ _ _ r h => by simp [QaW.l0] at h
 | k + 1 => by
  have ih0 := QaW.mono_l k
  intro y0 y1 y2 y3 y4 y5
  unfold QaW.l0
  exact ZM7 ih0 Qa3.mono Qbf.mono Qbh.mono Qbl.mono QaF.mono Qa4.mono
theorem QaW.mono : ∀ a0 a1 a2 a3 a4 k, LeO (QaW.f k a0 a1 a2 a3 a4) (QaW.f (k + 1) a0 a1 a2 a3 a4) := by
 intro a0 a1 a2 a3 a4 k
 have ih0 := QaW.mono_l k
 unfold QaW.f
 exact ZM7 ih0 Qa3.mono Qbf.mono Qbh.mono Qbl.mono QaF.mono Qa4.mono
set_option maxHeartbeats 8000000 in
theorem QaW.calls (k : Nat) (A0 : Option Addr) (c0 : Nat) (l0 : List (S46)) (a1_0 : ByteArray) (a1_1 : ByteArray) (A2 : Option Addr) (c2 : Nat) (l2 : List (S84)) (A3 : Option Addr) (c3 : Nat) (l3 : List (S98)) (r1 : Int) (r2 : Int) (w : World) (hr0 : Kd.C k46 w A0 l0.length l0) (hc0 : l0.length ≤ c0) (hr2 : Kd.C k84 w A2 l2.length l2) (hc2 : l2.length ≤ c2) (hr3 : Kd.C k98 w A3 l3.length l3) (hc3 : l3.length ≤ c3) (h : QaW.f k l0 a1_0 a1_1 l2 l3 = some (r1, r2)) :
  Calls Try.prog 85 #[.slice A0 l0.length c0, .agg #[.string a1_0, .string a1_1], .slice A2 l2.length c2, .slice A3 l3.length c3] w fun e w' => e = .returned (.tuple #[.int .i64 r1, .int .i64 r2]) ∧ Below w.heap.size w w' := by
 have hu44 := Try.underlying44
 have hu46 := Try.underlying46
 have hu84 := Try.underlying84
 have HR0 := Aside0.mk hr0
 have HC0 := Aside0.mk hc0
 clear hr0 hc0
 have HR2 := Aside0.mk hr2
 have HC2 := Aside0.mk hc2
 clear hr2 hc2
 have HR3 := Aside0.mk hr3
 have HC3 := Aside0.mk hc3
 clear hr3 hc3
 have HB := Aside0.mk (Below.refl w.heap.size w)
 have H : ((QaF.f k l0).bind fun t208 => (if t208 = 0 then ((Qa3.f k l2).bind fun t209 => (if t209 = 0 then ((Qa4.f k l0 a1_0 a1_1).bind fun t210 => (QaW.l0 k l2 l3 ([] : List Int) t210 (t210.length : Int) 0)) else (some (0, t209)))) else (some (0, t208)))) = some (r1, r2) := h
 clear h
 replace H := Option.bind_eq_some_iff.mp H
 obtain ⟨t208, A50, H⟩ := H
 replace H : (if t208 = 0 then ((Qa3.f k l2).bind fun t209 => (if t209 = 0 then ((Qa4.f k l0 a1_0 a1_1).bind fun t210 => (QaW.l0 k l2 l3 ([] : List Int) t210 (t210.length : Int) 0)) else (some (0, t209)))) else (some (0, t208))) = some (r1, r2) := H
 have A5 := Aside0.mk A50
 clear A50
 go_enter Try.func85, Try.ntmps85
 go_upto_if 20 with (first | ((with_reducible refine QaL (N := 5) rfl ?_); refine Zbx (N := 5) (cs := #[.string a1_0, .string a1_1]) (t := 44) ?_; intro gb207 hg w6 hbox hb; have BK207 := Aside0.mk (hbox); have GW207 := Aside0.mk (Zt w hg (Zb)); have GE207 := GW207; replace HB := Aside0.mk (Qan (Zb) hb); clear hb hbox hg) | ((with_reducible refine Qaw (f := 71) rfl ?_); refine goesL_ (some 18) rfl rfl Try.func71 (by kernel_rfl) rfl #[.slice A0 l0.length c0] rfl (Zl) ?_; (with_reducible refine (QaF.calls k _ _ l0 t208 _ ?side1 ?side2 A5.out).mono ?_); (case side1 => exact Zv (Kd.C_below HR0.out HB.out)); (case side2 => exact HC0.out); rintro e w7 ⟨rfl, hb⟩; refine ⟨_, rfl, ?_⟩; replace BK207 := Aside0.mk (Zi BK207.out hb); replace HB := Aside0.mk (Qan (Zc1 GE207.out) hb); (try clear hb); (try clear hb2); (try clear hk); (try clear hi)))
 (try simp only [Act.put, Zj, Zk, Zm])
 by_cases c8 : t208 = 0
 ·rw [if_pos c8] at H
  have c8b0 : (t208 == 0) = T := beq_iff_eq.mpr c8
  have c8b1 : (t208 != 0) = F := bne_eq_false_iff_eq.mpr c8
  clear c8
  (try simp only [c8b0, c8b1])
  replace H := Option.bind_eq_some_iff.mp H
  obtain ⟨t209, A90, H⟩ := H
  replace H : (if t209 = 0 then ((Qa4.f k l0 a1_0 a1_1).bind fun t210 => (QaW.l0 k l2 l3 ([] : List Int) t210 (t210.length : Int) 0)) else (some (0, t209))) = some (r1, r2) := H
  have A9 := Aside0.mk A90
  clear A90
  go_upto_if 25 with (first | ((with_reducible refine Qaw (f := 116) rfl ?_); refine goesL_ (some 23) rfl rfl Try.func116 (by kernel_rfl) rfl #[.slice A2 l2.length c2] rfl (Zl) ?_; (with_reducible refine (Qa3.calls k _ _ l2 t209 _ ?side1 ?side2 A9.out).mono ?_); (case side1 => exact Zv (Kd.C_below HR2.out HB.out)); (case side2 => exact HC2.out); rintro e w10 ⟨rfl, hb⟩; refine ⟨_, rfl, ?_⟩; replace BK207 := Aside0.mk (Zi BK207.out hb); replace HB := Aside0.mk (Qan (Zc1 GE207.out) hb); (try clear hb); (try clear hb2); (try clear hk); (try clear hi)))
  (try simp only [Act.put, Zj, Zk, Zm])
  by_cases c11 : t209 = 0
  ·rw [if_pos c11] at H
   have c11b0 : (t209 == 0) = T := beq_iff_eq.mpr c11
   have c11b1 : (t209 != 0) = F := bne_eq_false_iff_eq.mpr c11
   clear c11
   (try simp only [c11b0, c11b1])
   replace H := Option.bind_eq_some_iff.mp H
   obtain ⟨t210, A120, H⟩ := H
   replace H : (QaW.l0 k l2 l3 ([] : List Int) t210 (t210.length : Int) 0) = some (r1, r2) := H
   have A12 := Aside0.mk A120
   clear A120
   have H' := Aside0.mk H
   clear H
   obtain ⟨hcz13_0, hfz13_0⟩ := Zy (v := (.string a1_0)) BK207.out 0
   obtain ⟨hcz13_1, hfz13_1⟩ := Zy (v := (.string a1_1)) BK207.out 1
   go_wp2_with (first | ((with_reducible refine Qaw (f := 86) rfl ?_); refine goesL_ (some 29) rfl rfl Try.func86 (by kernel_rfl) rfl #[.slice A0 l0.length c0, .agg #[.string a1_0, .string a1_1]] rfl (Zl) ?_; (with_reducible refine (Qa4.calls k _ _ l0 a1_0 a1_1 t210 _ ?side1 ?side2 A12.out).mono ?_); (case side1 => exact Zv (Kd.C_below HR0.out HB.out)); (case side2 => exact HC0.out); rintro e w14 ⟨v211, rfl, ho0, hb⟩; refine ⟨_, rfl, ?_⟩; have HO212 := Aside0.mk (Kd.R_lower ho0 (Qam (Zc1 GE207.out))); replace BK207 := Aside0.mk (Zi BK207.out hb); replace HB := Aside0.mk (Qan (Zc1 GE207.out) hb); (try clear hb); (try clear hb2); (try clear hk); (try clear hi); (try clear ho0); obtain ⟨Ao15, co15, eo15⟩ := Kd.R_slice HO212.out; subst eo15))
   go_loopg [10, 31] k (fun kq v10 v31 w' => ∃ (x10_1 : List Int) (x31_1 : Int), v31 = .int .i64 x31_1 ∧ Aside0 (QaW.l0 kq l2 l3 x10_1 t210 (t210.length : Int) x31_1 = some (r1, r2)) ∧ Aside0 (kq ≤ k) ∧ Aside0 (Kd.R (Kd.int .i64) 3 w' w.heap.size (fun _ => True) v10 x10_1) ∧ Aside0 (Kd.R k46 46 w' w.heap.size (fun _ => True) (.slice Ao15 t210.length co15) t210) ∧ Aside0 (w'.heap[gb207]? = some (.cells #[.string a1_0, .string a1_1] 44 (0, 0))) ∧ Aside0 (Below w.heap.size w w'))
   case atStart => exact ⟨(([] : List Int)), (0), (Zs), H', ⟨Nat.le_refl _⟩, ⟨by first | exact Kd.R_nil _ _ _ _ _ | exact Kd.N_nil _ _ _ _ _ | exact Kd.V_nil _ _ _ _ _ | exact Kd.Q_nil _ _ _ _ _ | exact Kd.S_nil _ _ _ _ _⟩, ⟨Zr HO212.out⟩, ⟨Zu BK207.out⟩, ⟨Zc1 GE207.out⟩⟩
   case round =>
    clear H'
    try clear c1
    try clear c2
    try clear p2
    try clear c3
    try clear c7
    try clear c8
    try clear c8b0
    try clear c8b1
    try clear c11
    try clear c11b0
    try clear c11b1
    try clear hcz13_0
    try clear hcz13_1
    try clear hfz13_0
    try clear hfz13_1
    obtain ⟨x10_1, x31_1, rfl, HA, HK1, HO_10, HO_29, BK207, HB⟩ := hrel
    cases gk with
    | zero => exact absurd HA.out (by simp [QaW.l0])
    | succ k1 =>
     have H := HA.out
     clear HA
     simp only [QaW.l0] at H
     by_cases c16 : x31_1 < (t210.length : Int)
     ·rw [if_pos c16] at H
      have c16b0 : decide (x31_1 < (t210.length : Int)) = T := decide_eq_true c16
      clear c16
      (try simp only [c16b0])
      by_cases c17 : 0 ≤ x31_1
      ·rw [if_pos c17] at H
       have c17b0 : decide (0 ≤ x31_1) = T := decide_eq_true c17
       clear c17
       by_cases c18 : x31_1 < (t210.length : Int)
       ·rw [if_pos c18] at H
        have c18b0 : decide (x31_1 < (t210.length : Int)) = T := decide_eq_true c18
        clear c18
        replace H := Option.bind_eq_some_iff.mp H
        obtain ⟨⟨t217, t218, t219, t220, t221, t222, t223⟩, A190, H⟩ := H
        replace H : (if t223 = T then ((Qbh.f k1 t217 t218 t219 t220 t221 t222 ((rd_T46 t210 x31_1).f2) l3).bind fun bt225 => (if bt225.2 = 0 then (if x10_1.length < 17592186044416 then (QaW.l0 k1 l2 l3 (x10_1 ++ [bt225.1]) t210 (t210.length : Int) (wrap64 (x31_1 + 1))) else (none)) else (some (0, bt225.2)))) else (some (0, 11))) = some (r1, r2) := H
        have A19 := Aside0.mk A190
        clear A190
        have p215 : 0 ≤ (x31_1 : Int) := Ze
        have q215 : x31_1 < (t210.length : Int) := Ze
        obtain ⟨ad215, e215, hx215_0, hx215_1, hx215_2, hx215_3⟩ := at_T46 (Kd.R_reads' HO_29.out).2.2 x31_1 p215 q215
        cases e215
        replace p215 := eq_true p215
        replace q215 := eq_true q215
        go_upto_if 43 with (first | ((with_reducible refine QaL (N := 12) rfl ?_); refine Zbx (N := 12) (cs := #[.string (⟨#[]⟩ : ByteArray), .string (⟨#[]⟩ : ByteArray), .string (⟨#[]⟩ : ByteArray), .int .i64 0]) (t := 46) ?_; intro gb216 hg w20 hbox hb; have BK216 := Aside0.mk (hbox); have GW216 := Aside0.mk (Zt w hg (Zc1 GE207.out)); have GE216 := GW216; have NB207_216 := Aside0.mk (Zn hg BK207.out); have NB216_207 := Aside0.mk NB207_216.out.symm; replace HO_10 := Aside0.mk (Kd.R_below (Zr HO_10.out) hb); replace HO_29 := Aside0.mk (Kd.R_below (Kd.R_elderB (Zr HO_29.out) gb216 (Nat.le_of_eq hg.symm)) hb); replace BK207 := Aside0.mk (Zi BK207.out hb); replace HB := Aside0.mk (Qan (Zc1 GE207.out) hb); clear hb hbox hg; have hnb21 := NB216_207.out; have hnc21 := NB207_216.out; obtain ⟨hcz22_0, hfz22_0⟩ := Zy (v := (.string (⟨#[]⟩ : ByteArray))) BK216.out 0; obtain ⟨hcz22_1, hfz22_1⟩ := Zy (v := (.string (⟨#[]⟩ : ByteArray))) BK216.out 1; obtain ⟨hcz22_2, hfz22_2⟩ := Zy (v := (.string (⟨#[]⟩ : ByteArray))) BK216.out 2; obtain ⟨hcz22_3, hfz22_3⟩ := Zy (v := (.int .i64 0)) BK216.out 3) | ((with_reducible refine Qaw (f := 48) rfl ?_); refine goesL_ (some 39) rfl rfl Try.func48 (by kernel_rfl) rfl #[.slice A2 l2.length c2, .string ((rd_T46 t210 x31_1).f1)] rfl (Zl) ?_; (with_reducible refine (Qbf.calls k1 _ _ l2 ((rd_T46 t210 x31_1).f1) t217 t218 t219 t220 t221 t222 t223 _ ?side1 ?side2 A19.out).mono ?_); (case side1 => exact Kd.C_below HR2.out (Zc2 GE207.out GE216.out)); (case side2 => exact HC2.out); rintro e w23 ⟨rfl, hb⟩; refine ⟨_, rfl, ?_⟩; replace HO_10 := Aside0.mk (Kd.R_below (by (with_reducible repeat (first | apply Kd.R_alloc | apply Kd.R_drewN | apply Kd.R_drew)); exact (Kd.R_mono (Zf gb216 3 (Zf gb216 2 (Zf gb216 1 (Zf gb216 0 (Kd.R_types HO_10.out BK216.out (by decide)) (.string ((rd_T46 t210 x31_1).f0.f0))) (.string ((rd_T46 t210 x31_1).f0.f1))) (.string ((rd_T46 t210 x31_1).f1))) (.int .i64 ((rd_T46 t210 x31_1).f2))) (fun _ h_ => h_.1))) hb); replace HO_29 := Aside0.mk (Kd.R_below (by (with_reducible repeat (first | apply Kd.R_alloc | apply Kd.R_drewN | apply Kd.R_drew)); exact (Kd.R_mono (Zf gb216 3 (Zf gb216 2 (Zf gb216 1 (Zf gb216 0 (Kd.R_mono HO_29.out (fun k_ hk => (⟨hk, hk.2⟩ : _ ∧ k_ ≠ gb216))) (.string ((rd_T46 t210 x31_1).f0.f0))) (.string ((rd_T46 t210 x31_1).f0.f1))) (.string ((rd_T46 t210 x31_1).f1))) (.int .i64 ((rd_T46 t210 x31_1).f2))) (fun _ h_ => h_.1))) hb); replace BK207 := Aside0.mk (Qal (g := gb207) (o := .cells #[.string a1_0, .string a1_1] 44 (0, 0)) (Zg4 BK207.out NB207_216.out NB207_216.out NB207_216.out NB207_216.out) hb); replace BK216 := Aside0.mk (Zpi #[.string ((rd_T46 t210 x31_1).f0.f0), .string ((rd_T46 t210 x31_1).f0.f1), .string ((rd_T46 t210 x31_1).f1), .int .i64 ((rd_T46 t210 x31_1).f2)] BK216.out hb); replace HB := Aside0.mk (Qan (Zc2 GE207.out GE216.out) hb); (try clear hb); (try clear hb2); (try clear hk); (try clear hi)) | ((with_reducible refine QaL (N := 13) rfl ?_); refine Zbx (N := 13) (cs := #[.string (⟨#[]⟩ : ByteArray), .int .i64 0, .int .i64 0, .int .i64 0, .int .i64 0, .int .i64 0]) (t := 84) ?_; intro gb224 hg w24 hbox hb; have BK224 := Aside0.mk (hbox); have GW224 := Aside0.mk (Zt w hg (Zc2 GE207.out GE216.out)); have GE224 := GW224; have NB207_224 := Aside0.mk (Zn hg BK207.out); have NB224_207 := Aside0.mk NB207_224.out.symm; have NB216_224 := Aside0.mk (Zn hg BK216.out); have NB224_216 := Aside0.mk NB216_224.out.symm; replace HO_10 := Aside0.mk (Kd.R_below (Zr HO_10.out) hb); replace HO_29 := Aside0.mk (Kd.R_below (Zr HO_29.out) hb); replace BK207 := Aside0.mk (Zi BK207.out hb); replace BK216 := Aside0.mk (Zi BK216.out hb); replace HB := Aside0.mk (Qan (Zc2 GE207.out GE216.out) hb); clear hb hbox hg; have hnb25 := NB224_207.out; have hnc25 := NB207_224.out; have hnb26 := NB224_216.out; have hnc26 := NB216_224.out; obtain ⟨hcz27_0, hfz27_0⟩ := Zy (v := (.string (⟨#[]⟩ : ByteArray))) BK224.out 0; obtain ⟨hcz27_1, hfz27_1⟩ := Zy (v := (.int .i64 0)) BK224.out 1; obtain ⟨hcz27_2, hfz27_2⟩ := Zy (v := (.int .i64 0)) BK224.out 2; obtain ⟨hcz27_3, hfz27_3⟩ := Zy (v := (.int .i64 0)) BK224.out 3; obtain ⟨hcz27_4, hfz27_4⟩ := Zy (v := (.int .i64 0)) BK224.out 4; obtain ⟨hcz27_5, hfz27_5⟩ := Zy (v := (.int .i64 0)) BK224.out 5))
        (try simp only [Act.put, Zj, Zk, Zm])
        by_cases c28 : t223 = T
        ·subst c28
         have H1 : ((Qbh.f k1 t217 t218 t219 t220 t221 t222 ((rd_T46 t210 x31_1).f2) l3).bind fun bt225 => (if bt225.2 = 0 then (if x10_1.length < 17592186044416 then (QaW.l0 k1 l2 l3 (x10_1 ++ [bt225.1]) t210 (t210.length : Int) (wrap64 (x31_1 + 1))) else (none)) else (some (0, bt225.2)))) = some (r1, r2) := by rw [if_pos rfl] at H; exact H
         clear H
         have H := H1
         clear H1
         replace H := Option.bind_eq_some_iff.mp H
         obtain ⟨⟨t225, t226⟩, A290, H⟩ := H
         replace H : (if t226 = 0 then (if x10_1.length < 17592186044416 then (QaW.l0 k1 l2 l3 (x10_1 ++ [t225]) t210 (t210.length : Int) (wrap64 (x31_1 + 1))) else (none)) else (some (0, t226))) = some (r1, r2) := H
         have A29 := Aside0.mk A290
         clear A290
         have hnb30 := NB224_207.out
         have hnc30 := NB207_224.out
         have hnb31 := NB224_216.out
         have hnc31 := NB216_224.out
         obtain ⟨hcz32_0, hfz32_0⟩ := Zy (v := (.string (⟨#[]⟩ : ByteArray))) BK224.out 0
         obtain ⟨hcz32_1, hfz32_1⟩ := Zy (v := (.int .i64 0)) BK224.out 1
         obtain ⟨hcz32_2, hfz32_2⟩ := Zy (v := (.int .i64 0)) BK224.out 2
         obtain ⟨hcz32_3, hfz32_3⟩ := Zy (v := (.int .i64 0)) BK224.out 3
         obtain ⟨hcz32_4, hfz32_4⟩ := Zy (v := (.int .i64 0)) BK224.out 4
         obtain ⟨hcz32_5, hfz32_5⟩ := Zy (v := (.int .i64 0)) BK224.out 5
         have hnb33 := NB216_207.out
         have hnc33 := NB207_216.out
         obtain ⟨hcz34_0, hfz34_0⟩ := Zy (v := (.string ((rd_T46 t210 x31_1).f0.f0))) BK216.out 0
         obtain ⟨hcz34_1, hfz34_1⟩ := Zy (v := (.string ((rd_T46 t210 x31_1).f0.f1))) BK216.out 1
         obtain ⟨hcz34_2, hfz34_2⟩ := Zy (v := (.string ((rd_T46 t210 x31_1).f1))) BK216.out 2
         obtain ⟨hcz34_3, hfz34_3⟩ := Zy (v := (.int .i64 ((rd_T46 t210 x31_1).f2))) BK216.out 3
         go_upto_if 53 with (first | ((with_reducible refine Qaw (f := 82) rfl ?_); refine goesL_ (some 49) rfl rfl Try.func82 (by kernel_rfl) rfl #[.agg #[.string t217, .int .i64 t218, .int .i64 t219, .int .i64 t220, .int .i64 t221, .int .i64 t222], .int .i64 ((rd_T46 t210 x31_1).f2), .slice A3 l3.length c3] rfl (Zl) ?_; (with_reducible refine (Qbh.calls k1 t217 t218 t219 t220 t221 t222 ((rd_T46 t210 x31_1).f2) _ _ l3 t225 t226 _ ?side1 ?side2 A29.out).mono ?_); (case side1 => exact Kd.C_below HR3.out (Zc3 GE207.out GE216.out GE224.out)); (case side2 => exact HC3.out); rintro e w35 ⟨rfl, hb⟩; refine ⟨_, rfl, ?_⟩; replace HO_10 := Aside0.mk (Kd.R_below (by (with_reducible repeat (first | apply Kd.R_alloc | apply Kd.R_drewN | apply Kd.R_drew)); exact (Kd.R_mono (Zf gb224 5 (Zf gb224 4 (Zf gb224 3 (Zf gb224 2 (Zf gb224 1 (Zf gb224 0 (Kd.R_types HO_10.out BK224.out (by decide)) (.string t217)) (.int .i64 t218)) (.int .i64 t219)) (.int .i64 t220)) (.int .i64 t221)) (.int .i64 t222)) (fun _ h_ => h_.1))) hb); replace HO_29 := Aside0.mk (Kd.R_below (by (with_reducible repeat (first | apply Kd.R_alloc | apply Kd.R_drewN | apply Kd.R_drew)); exact (Kd.R_mono (Zf gb224 5 (Zf gb224 4 (Zf gb224 3 (Zf gb224 2 (Zf gb224 1 (Zf gb224 0 (Kd.R_types HO_29.out BK224.out (by decide)) (.string t217)) (.int .i64 t218)) (.int .i64 t219)) (.int .i64 t220)) (.int .i64 t221)) (.int .i64 t222)) (fun _ h_ => h_.1))) hb); replace BK207 := Aside0.mk (Qal (g := gb207) (o := .cells #[.string a1_0, .string a1_1] 44 (0, 0)) (Zg6 BK207.out NB207_224.out NB207_224.out NB207_224.out NB207_224.out NB207_224.out NB207_224.out) hb); replace BK216 := Aside0.mk (Qal (g := gb216) (o := .cells #[.string ((rd_T46 t210 x31_1).f0.f0), .string ((rd_T46 t210 x31_1).f0.f1), .string ((rd_T46 t210 x31_1).f1), .int .i64 ((rd_T46 t210 x31_1).f2)] 46 (0, 0)) (Zg6 BK216.out NB216_224.out NB216_224.out NB216_224.out NB216_224.out NB216_224.out NB216_224.out) hb); replace BK224 := Aside0.mk (Zpi #[.string t217, .int .i64 t218, .int .i64 t219, .int .i64 t220, .int .i64 t221, .int .i64 t222] BK224.out hb); replace HB := Aside0.mk (Qan (Zc3 GE207.out GE216.out GE224.out) hb); (try clear hb); (try clear hb2); (try clear hk); (try clear hi)))
         (try simp only [Act.put, Zj, Zk, Zm])
         by_cases c36 : t226 = 0
         ·rw [if_pos c36] at H
          have c36b0 : (t226 == 0) = T := beq_iff_eq.mpr c36
          have c36b1 : (t226 != 0) = F := bne_eq_false_iff_eq.mpr c36
          clear c36
          (try simp only [c36b0, c36b1])
          by_cases c37 : x10_1.length < 17592186044416
          ·rw [if_pos c37] at H
           have LMc37 := Aside0.mk c37
           clear c37
           obtain ⟨y227, hy227⟩ : ∃ y_ : List Int, y_ = (x10_1 ++ [t225]) := ⟨_, rfl⟩
           replace H : (QaW.l0 k1 l2 l3 y227 t210 (t210.length : Int) (wrap64 (x31_1 + 1))) = some (r1, r2) := by first | (rw [hy227]; with_reducible exact H) | (have H2_ := (Option.bind_some _ _).symm.trans H; rw [hy227]; with_reducible exact H2_) | (have H2_ := (Option.bind_some _ _).symm.trans H; with_reducible exact H2_) | with_reducible exact H | (rw [hy227]; exact H) | exact H
           have Ny227 := Aside0.mk hy227
           clear hy227
           have H' := Aside0.mk H
           clear H
           go_wp2_with (first | ((with_reducible refine QbO (b := .append) (xs := #[.tmp 55, .tmp 57]) rfl ?_); at_builtin; refine Kd.R_append (Kd.int .i64) (w0 := w) w.heap.size rfl (.tmp 55) (.tmp 57) 63 3 (.int .i64 0) 8 rfl Try.underlying63 info3 rfl (by decide) (by omega) u10 x10_1 t225 [.int .i64 t225] (fun _ => True) (fun _ => False) rfl rfl ?aP (fun _ hk => hk.elim) ?aF ?aO ?aB ?aS ?aL ?_; (case aP => exact rfl); (case aB => exact (Zc3 GE207.out GE216.out GE224.out)); (case aF => exact (fun _ _ => trivial)); (case aO => exact (Zr HO_10.out)); (case aS => exact (Qam (Zc3 GE207.out GE216.out GE224.out))); (case aL => have := LMc37.out; omega); intro v228 w38 ho hb hg hat; rw [← Ny227.out] at ho; have HO229 := Aside0.mk (ho); replace HO_29 := Aside0.mk (Kd.R_over' (Zr HO_29.out) (Kd.R_typed (Zr HO_10.out)) (by decide) hg); replace BK207 := Aside0.mk (Qbg (g := gb207) (o := .cells #[.string a1_0, .string a1_1] 44 (0, 0)) (Zu BK207.out) hg (Kd.R_ne HO_10.out BK207.out (by decide))); replace BK216 := Aside0.mk (Qbg (g := gb216) (o := .cells #[.string ((rd_T46 t210 x31_1).f0.f0), .string ((rd_T46 t210 x31_1).f0.f1), .string ((rd_T46 t210 x31_1).f1), .int .i64 ((rd_T46 t210 x31_1).f2)] 46 (0, 0)) (Zu BK216.out) hg (Kd.R_ne HO_10.out BK216.out (by decide))); replace BK224 := Aside0.mk (Qbg (g := gb224) (o := .cells #[.string t217, .int .i64 t218, .int .i64 t219, .int .i64 t220, .int .i64 t221, .int .i64 t222] 84 (0, 0)) (Zu BK224.out) hg (Kd.R_ne HO_10.out BK224.out (by decide))); replace HB := Aside0.mk (hb); clear HO_10; clear ho hb hg hat))
           go_roundg k1
           case measure => have := HK1.out; omega
           case rel => exact ⟨(y227), (wrap64 (x31_1 + 1)), (Zs), H', ⟨by have := HK1.out; omega⟩, ⟨Zr HO229.out⟩, ⟨by (with_reducible repeat (first | apply Kd.R_alloc | apply Kd.R_drewN | apply Kd.R_drew)); exact Kd.R_mono HO_29.out (fun _ hk => trivial)⟩, ⟨Zu BK207.out⟩, ⟨Zc3 GE207.out GE216.out GE224.out⟩⟩
          rw [if_neg c37] at H
          exact absurd H (by simp)
         rw [if_neg c36] at H
         have c36b0 : (t226 == 0) = F := beq_eq_false_iff_ne.mpr c36
         have c36b1 : (t226 != 0) = T := bne_iff_ne.mpr c36
         (try simp only [c36b0, c36b1])
         simp only [Option.some.injEq, Prod.mk.injEq] at H
         obtain ⟨rfl, rfl⟩ := H
         go_wp2
         go_ret2
         exact ⟨Zq, Zc3 GE207.out GE216.out GE224.out⟩
        replace c28 := Bool.eq_false_iff.mpr c28
        subst c28
        have H1 : (some (0, 11)) = some (r1, r2) := by rw [if_neg (show ¬ (F = T) by decide)] at H; exact H
        clear H
        have H := H1
        clear H1
        simp only [Option.some.injEq, Prod.mk.injEq] at H
        obtain ⟨rfl, rfl⟩ := H
        go_wp2
        go_ret2
        exact ⟨Zq, Zc3 GE207.out GE216.out GE224.out⟩
       rw [if_neg c18] at H
       exact absurd H (by simp)
      rw [if_neg c17] at H
      exact absurd H (by simp)
     rw [if_neg c16] at H
     have c16b0 : decide (x31_1 < (t210.length : Int)) = F := decide_eq_false c16
     clear c16
     (try simp only [c16b0])
     replace H := Option.bind_eq_some_iff.mp H
     obtain ⟨⟨t213, t214⟩, A390, H⟩ := H
     replace H : (some (t213, t214)) = some (r1, r2) := H
     have A39 := Aside0.mk A390
     clear A390
     simp only [Option.some.injEq, Prod.mk.injEq] at H
     obtain ⟨rfl, rfl⟩ := H
     obtain ⟨Ao40, co40, eo40⟩ := Kd.R_slice HO_10.out
     subst eo40
     go_wp2_with (first | ((with_reducible refine Qaw (f := 59) rfl ?_); refine goesL_ (some 61) rfl rfl Try.func59 (by kernel_rfl) rfl #[.slice Ao40 x10_1.length co40] rfl (Zl) ?_; (with_reducible refine (Qbl.calls k1 _ _ x10_1 t213 t214 _ ?side1 ?side2 A39.out).mono ?_); (case side1 => exact Zv (Kd.R_reads' HO_10.out).2.2); (case side2 => exact (Kd.R_reads' HO_10.out).2.1); rintro e w' ⟨rfl, ⟨nd, rfl⟩⟩; refine ⟨_, rfl, ?_⟩))
     go_ret2
     exact ⟨Zq, Zc1 GE207.out⟩
  rw [if_neg c11] at H
  have c11b0 : (t209 == 0) = F := beq_eq_false_iff_ne.mpr c11
  have c11b1 : (t209 != 0) = T := bne_iff_ne.mpr c11
  (try simp only [c11b0, c11b1])
  simp only [Option.some.injEq, Prod.mk.injEq] at H
  obtain ⟨rfl, rfl⟩ := H
  go_wp2
  go_ret2
  exact ⟨Zq, Zc1 GE207.out⟩
 rw [if_neg c8] at H
 have c8b0 : (t208 == 0) = F := beq_eq_false_iff_ne.mpr c8
 have c8b1 : (t208 != 0) = T := bne_iff_ne.mpr c8
 (try simp only [c8b0, c8b1])
 simp only [Option.some.injEq, Prod.mk.injEq] at H
 obtain ⟨rfl, rfl⟩ := H
 go_wp2
 go_ret2
 exact ⟨Zq, Zc1 GE207.out⟩
def QaM.l0 : Nat → List (S84) → ByteArray → Int → Option (ByteArray × Int × Int × Int × Int × Int × Bool)
 | 0, _, _, _ => none
 | k + 1, x0, x1, x6 => if x6 < (x0.length : Int) then (if 0 ≤ x6 then (if ((rd_T84 x0 x6).f0).toList = x1.toList then (some ((rd_T84 x0 x6).f0, (rd_T84 x0 x6).f1, (rd_T84 x0 x6).f2, (rd_T84 x0 x6).f3, (rd_T84 x0 x6).f4, (rd_T84 x0 x6).f5, T)) else (QaM.l0 k x0 x1 (wrap64 (x6 + 1)))) else (none)) else (some ((⟨#[]⟩ : ByteArray), 0, 0, 0, 0, 0, F))
def QaM.f (k : Nat) (l0 : List (S84)) (a1 : ByteArray) : Option (ByteArray × Int × Int × Int × Int × Int × Bool) := QaM.l0 k l0 a1 0
theorem QaM.mono_l : ∀ k, (∀ y0 y1 y2, LeO (QaM.l0 k y0 y1 y2) (QaM.l0 (k + 1) y0 y1 y2))
 | 0 => fun _ _ _ r h => by simp [QaM.l0] at h
 | k + 1 => by
  have ih0 := QaM.mono_l k
  intro y0 y1 y2
  unfold QaM.l0
  exact ZM1 ih0
theorem QaM.mono : ∀ a0 a1 k, LeO (QaM.f k a0 a1) (QaM.f (k + 1) a0 a1) := by
 intro a0 a1 k
 have ih0 := QaM.mono_l k
 unfold QaM.f
 exact ZM1 ih0
set_option maxHeartbeats 8000000 in
theorem QaM.calls (k : Nat) (A0 : Option Addr) (c0 : Nat) (l0 : List (S84)) (a1 : ByteArray) (r1 : ByteArray) (r2 : Int) (r3 : Int) (r4 : Int) (r5 : Int) (r6 : Int) (r7 : Bool) (w : World) (hr0 : Kd.C k84 w A0 l0.length l0) (hc0 : l0.length ≤ c0) (h : QaM.f k l0 a1 = some (r1, r2, r3, r4, r5, r6, r7)) :
  Calls Try.prog 41 #[.slice A0 l0.length c0, .string a1] w fun e w' => e = .returned (.tuple #[.agg #[.string r1, .int .i64 r2, .int .i64 r3, .int .i64 r4, .int .i64 r5, .int .i64 r6], .bool r7]) ∧ Below w.heap.size w w' := by
 have hu84 := Try.underlying84
 have HR0 := Aside0.mk hr0
 have HC0 := Aside0.mk hc0
 clear hr0 hc0
 have HB := Aside0.mk (Below.refl w.heap.size w)
 have H : (QaM.l0 k l0 a1 0) = some (r1, r2, r3, r4, r5, r6, r7) := h
 clear h
 have H' := Aside0.mk H
 clear H
 go_enter Try.func41, Try.ntmps41
 go_wp2_with (first | ((with_reducible refine QaL (N := 4) rfl ?_); refine Zbx (N := 4) (cs := #[.string (⟨#[]⟩ : ByteArray), .int .i64 0, .int .i64 0, .int .i64 0, .int .i64 0, .int .i64 0]) (t := 84) ?_; intro gb338 hg w3 hbox hb; have BK338 := Aside0.mk (hbox); have GW338 := Aside0.mk (Zt w hg (Zb)); have GE338 := GW338; replace HB := Aside0.mk (Qan (Zb) hb); clear hb hbox hg))
 go_loopg [6] k (fun kq v6 w' => ∃ (x6_1 : Int) (x339000_1 : ByteArray) (x339001_1 : Int) (x339002_1 : Int) (x339003_1 : Int) (x339004_1 : Int) (x339005_1 : Int), v6 = .int .i64 x6_1 ∧ Aside0 (QaM.l0 kq l0 a1 x6_1 = some (r1, r2, r3, r4, r5, r6, r7)) ∧ Aside0 (kq ≤ k) ∧ Aside0 (w'.heap[gb338]? = some (.cells #[.string x339000_1, .int .i64 x339001_1, .int .i64 x339002_1, .int .i64 x339003_1, .int .i64 x339004_1, .int .i64 x339005_1] 84 (0, 0))) ∧ Aside0 (Below w.heap.size w w'))
 case atStart => exact ⟨(0), ((⟨#[]⟩ : ByteArray)), (0), (0), (0), (0), (0), (Zs), H', ⟨Nat.le_refl _⟩, ⟨Zu BK338.out⟩, ⟨Zc1 GE338.out⟩⟩
 case round =>
  clear H'
  try clear p2
  obtain ⟨x6_1, x339000_1, x339001_1, x339002_1, x339003_1, x339004_1, x339005_1, rfl, HA, HK1, BK338, HB⟩ := hrel
  cases gk with
  | zero => exact absurd HA.out (by simp [QaM.l0])
  | succ k1 =>
   have H := HA.out
   clear HA
   simp only [QaM.l0] at H
   by_cases c4 : x6_1 < (l0.length : Int)
   ·rw [if_pos c4] at H
    have c4b0 : decide (x6_1 < (l0.length : Int)) = T := decide_eq_true c4
    clear c4
    (try simp only [c4b0])
    by_cases c5 : 0 ≤ x6_1
    ·rw [if_pos c5] at H
     have c5b0 : decide (0 ≤ x6_1) = T := decide_eq_true c5
     clear c5
     have p339 : 0 ≤ (x6_1 : Int) := Ze
     have q339 : x6_1 < (l0.length : Int) := Ze
     obtain ⟨ad339, e339, hx339_0, hx339_1, hx339_2, hx339_3, hx339_4, hx339_5⟩ := at_T84 HR0.out x6_1 p339 q339
     cases e339
     replace hx339_0 := Zx HB.out hx339_0
     replace hx339_1 := Zx HB.out hx339_1
     replace hx339_2 := Zx HB.out hx339_2
     replace hx339_3 := Zx HB.out hx339_3
     replace hx339_4 := Zx HB.out hx339_4
     replace hx339_5 := Zx HB.out hx339_5
     replace p339 := eq_true p339
     replace q339 := eq_true q339
     go_upto_if 19 with (fail)
     by_cases c6 : ((rd_T84 l0 x6_1).f0).toList = a1.toList
     ·rw [if_pos c6] at H
      have c6b0 : (((rd_T84 l0 x6_1).f0).toList == a1.toList) = T := beq_iff_eq.mpr c6
      have c6b1 : (((rd_T84 l0 x6_1).f0).toList != a1.toList) = F := bne_eq_false_iff_eq.mpr c6
      clear c6
      (try simp only [c6b0, c6b1])
      simp only [Option.some.injEq, Prod.mk.injEq] at H
      obtain ⟨rfl, rfl, rfl, rfl, rfl, rfl, rfl⟩ := H
      have p340 : 0 ≤ (x6_1 : Int) := Ze
      have q340 : x6_1 < (l0.length : Int) := Ze
      obtain ⟨ad340, e340, hx340_0, hx340_1, hx340_2, hx340_3, hx340_4, hx340_5⟩ := at_T84 HR0.out x6_1 p340 q340
      obtain rfl : ad339 = ad340 := (by injection e340)
      replace hx340_0 := Zx HB.out hx340_0
      replace hx340_1 := Zx HB.out hx340_1
      replace hx340_2 := Zx HB.out hx340_2
      replace hx340_3 := Zx HB.out hx340_3
      replace hx340_4 := Zx HB.out hx340_4
      replace hx340_5 := Zx HB.out hx340_5
      replace p340 := eq_true p340
      replace q340 := eq_true q340
      obtain ⟨hcz7_0, hfz7_0⟩ := Zy (v := (.string x339000_1)) BK338.out 0
      obtain ⟨hcz7_1, hfz7_1⟩ := Zy (v := (.int .i64 x339001_1)) BK338.out 1
      obtain ⟨hcz7_2, hfz7_2⟩ := Zy (v := (.int .i64 x339002_1)) BK338.out 2
      obtain ⟨hcz7_3, hfz7_3⟩ := Zy (v := (.int .i64 x339003_1)) BK338.out 3
      obtain ⟨hcz7_4, hfz7_4⟩ := Zy (v := (.int .i64 x339004_1)) BK338.out 4
      obtain ⟨hcz7_5, hfz7_5⟩ := Zy (v := (.int .i64 x339005_1)) BK338.out 5
      go_wp2
      refine bodyPost_ret (Qb7 rfl _ _ gb338 84 #[.string ((rd_T84 l0 x6_1).f0), .int .i64 ((rd_T84 l0 x6_1).f1), .int .i64 ((rd_T84 l0 x6_1).f2), .int .i64 ((rd_T84 l0 x6_1).f3), .int .i64 ((rd_T84 l0 x6_1).f4), .int .i64 ((rd_T84 l0 x6_1).f5)] (0, 0) _ rfl (Zp2 BK338.out) Try.underlying84 rfl (by kernel_rfl)) rfl ?_
      exact ⟨Zq, Zc1 GE338.out⟩
     rw [if_neg c6] at H
     have c6b0 : (((rd_T84 l0 x6_1).f0).toList == a1.toList) = F := beq_eq_false_iff_ne.mpr c6
     have c6b1 : (((rd_T84 l0 x6_1).f0).toList != a1.toList) = T := bne_iff_ne.mpr c6
     (try simp only [c6b0, c6b1])
     have H' := Aside0.mk H
     clear H
     go_wp2
     go_roundg k1
     case measure => have := HK1.out; omega
     case rel => exact ⟨(wrap64 (x6_1 + 1)), (x339000_1), (x339001_1), (x339002_1), (x339003_1), (x339004_1), (x339005_1), (Zs), H', ⟨by have := HK1.out; omega⟩, ⟨Zu BK338.out⟩, ⟨Zc1 GE338.out⟩⟩
    rw [if_neg c5] at H
    exact absurd H (by simp)
   rw [if_neg c4] at H
   have c4b0 : decide (x6_1 < (l0.length : Int)) = F := decide_eq_false c4
   clear c4
   (try simp only [c4b0])
   simp only [Option.some.injEq, Prod.mk.injEq] at H
   obtain ⟨rfl, rfl, rfl, rfl, rfl, rfl, rfl⟩ := H
   obtain ⟨hcz8_0, hfz8_0⟩ := Zy (v := (.string x339000_1)) BK338.out 0
   obtain ⟨hcz8_1, hfz8_1⟩ := Zy (v := (.int .i64 x339001_1)) BK338.out 1
   obtain ⟨hcz8_2, hfz8_2⟩ := Zy (v := (.int .i64 x339002_1)) BK338.out 2
   obtain ⟨hcz8_3, hfz8_3⟩ := Zy (v := (.int .i64 x339003_1)) BK338.out 3
   obtain ⟨hcz8_4, hfz8_4⟩ := Zy (v := (.int .i64 x339004_1)) BK338.out 4
   obtain ⟨hcz8_5, hfz8_5⟩ := Zy (v := (.int .i64 x339005_1)) BK338.out 5
   go_wp2
   refine bodyPost_ret (Qb7 rfl _ _ gb338 84 #[.string (⟨#[]⟩ : ByteArray), .int .i64 0, .int .i64 0, .int .i64 0, .int .i64 0, .int .i64 0] (0, 0) _ rfl (Zp2 BK338.out) Try.underlying84 rfl (by kernel_rfl)) rfl ?_
   exact ⟨Zq, Zc1 GE338.out⟩
def QaD.l0 : Nat → Int → Int → Int → Int → Int → Int → Option (Int × Int)
 | 0, _, _, _, _, _, _ => none
 | k + 1, x0, x1, x2, x8, x9, x10 => if x10 ≥ 0 then (if 0 ≤ (IntKind.u64.wrap (x10)) then (if (Int.tmod (shr .i64 x0 (IntKind.u64.wrap (x10))) 2) = 1 then (if x2 = 0 then (none) else (if (wrap64 ((wrap64 (2 * x8)) + (wrap64 (Int.tdiv (wrap64 ((wrap64 (2 * x9)) + x1)) x2)))) > 2305843009213693952 then (QaD.l0 k x0 x1 x2 2305843009213693952 (Int.tmod (wrap64 ((wrap64 (2 * x9)) + x1)) x2) (wrap64 (x10 - 1))) else (QaD.l0 k x0 x1 x2 (wrap64 ((wrap64 (2 * x8)) + (wrap64 (Int.tdiv (wrap64 ((wrap64 (2 * x9)) + x1)) x2)))) (Int.tmod (wrap64 ((wrap64 (2 * x9)) + x1)) x2) (wrap64 (x10 - 1))))) else (if x2 = 0 then (none) else (if (wrap64 ((wrap64 (2 * x8)) + (wrap64 (Int.tdiv (wrap64 (2 * x9)) x2)))) > 2305843009213693952 then (QaD.l0 k x0 x1 x2 2305843009213693952 (Int.tmod (wrap64 (2 * x9)) x2) (wrap64 (x10 - 1))) else (QaD.l0 k x0 x1 x2 (wrap64 ((wrap64 (2 * x8)) + (wrap64 (Int.tdiv (wrap64 (2 * x9)) x2)))) (Int.tmod (wrap64 (2 * x9)) x2) (wrap64 (x10 - 1)))))) else (none)) else (some (x8, x9))
def QaD.f (k : Nat) (a0 : Int) (a1 : Int) (a2 : Int) : Option (Int × Int) := QaD.l0 k a0 a1 a2 0 0 60
theorem QaD.mono_l : ∀ k, (∀ y0 y1 y2 y3 y4 y5, LeO (QaD.l0 k y0 y1 y2 y3 y4 y5) (QaD.l0 (k + 1) y0 y1 y2 y3 y4 y5))
 | 0 => fun _ _ _ _ _ _ r h => by simp [QaD.l0] at h
 | k + 1 => by
  have ih0 := QaD.mono_l k
  intro y0 y1 y2 y3 y4 y5
  unfold QaD.l0
  exact ZM1 ih0
theorem QaD.mono : ∀ a0 a1 a2 k, LeO (QaD.f k a0 a1 a2) (QaD.f (k + 1) a0 a1 a2) := by
 intro a0 a1 a2 k
 have ih0 := QaD.mono_l k
 unfold QaD.f
 exact ZM1 ih0
set_option maxHeartbeats 8000000 in
theorem QaD.calls (k : Nat) (a0 : Int) (a1 : Int) (a2 : Int) (r1 : Int) (r2 : Int) (w : World) (h : QaD.f k a0 a1 a2 = some (r1, r2)) :
  Calls Try.prog 94 #[.int .i64 a0, .int .i64 a1, .int .i64 a2] w fun e w' => e = .returned (.tuple #[.int .i64 r1, .int .i64 r2]) ∧ Drawn0 w w' := by
 have H : (QaD.l0 k a0 a1 a2 0 0 60) = some (r1, r2) := h
 clear h
 have H' := Aside0.mk H
 clear H
 go_enter Try.func94, Try.ntmps94
 go_wp2
 go_loopg [8, 9, 10] k (fun kq v8 v9 v10 w' => ∃ (x8_1 : Int) (x9_1 : Int) (x10_1 : Int), v8 = .int .i64 x8_1 ∧ v9 = .int .i64 x9_1 ∧ v10 = .int .i64 x10_1 ∧ Aside0 (QaD.l0 kq a0 a1 a2 x8_1 x9_1 x10_1 = some (r1, r2)) ∧ Aside0 (kq ≤ k) ∧ Drawn0 w w')
 case atStart => exact ⟨(0), (0), (60), (Zs), (Zs), (Zs), H', ⟨Nat.le_refl _⟩, Zd⟩
 case round =>
  clear H'
  try clear p2
  obtain ⟨x8_1, x9_1, x10_1, rfl, rfl, rfl, HA, HK1, ⟨m1, rfl⟩⟩ := hrel
  cases gk with
  | zero => exact absurd HA.out (by simp [QaD.l0])
  | succ k1 =>
   have H := HA.out
   clear HA
   simp only [QaD.l0] at H
   by_cases c4 : x10_1 ≥ 0
   ·rw [if_pos c4] at H
    have c4b0 : decide (0 ≤ x10_1) = T := decide_eq_true c4
    clear c4
    (try simp only [c4b0])
    obtain ⟨ji5, hji5⟩ : ∃ j_ : Int, (IntKind.u64.wrap (x10_1)) = j_ := ⟨_, rfl⟩
    replace H : (if 0 ≤ (ji5) then (if (Int.tmod (shr .i64 a0 (ji5)) 2) = 1 then (if a2 = 0 then (none) else (if (wrap64 ((wrap64 (2 * x8_1)) + (wrap64 (Int.tdiv (wrap64 ((wrap64 (2 * x9_1)) + a1)) a2)))) > 2305843009213693952 then (QaD.l0 k1 a0 a1 a2 2305843009213693952 (Int.tmod (wrap64 ((wrap64 (2 * x9_1)) + a1)) a2) (wrap64 (x10_1 - 1))) else (QaD.l0 k1 a0 a1 a2 (wrap64 ((wrap64 (2 * x8_1)) + (wrap64 (Int.tdiv (wrap64 ((wrap64 (2 * x9_1)) + a1)) a2)))) (Int.tmod (wrap64 ((wrap64 (2 * x9_1)) + a1)) a2) (wrap64 (x10_1 - 1))))) else (if a2 = 0 then (none) else (if (wrap64 ((wrap64 (2 * x8_1)) + (wrap64 (Int.tdiv (wrap64 (2 * x9_1)) a2)))) > 2305843009213693952 then (QaD.l0 k1 a0 a1 a2 2305843009213693952 (Int.tmod (wrap64 (2 * x9_1)) a2) (wrap64 (x10_1 - 1))) else (QaD.l0 k1 a0 a1 a2 (wrap64 ((wrap64 (2 * x8_1)) + (wrap64 (Int.tdiv (wrap64 (2 * x9_1)) a2)))) (Int.tmod (wrap64 (2 * x9_1)) a2) (wrap64 (x10_1 - 1)))))) else (none)) = some (r1, r2) := by first | (rw [hji5] at H; exact H) | (simp only [hji5] at H ⊢; exact H)
    by_cases c6 : 0 ≤ (ji5)
    ·rw [if_pos c6] at H
     have c6b0 := eq_true c6
     have c6b1 : decide (0 ≤ (ji5)) = T := decide_eq_true c6
     clear c6
     obtain ⟨ji7, hji7⟩ : ∃ j_ : Int, (shr .i64 a0 (ji5)) = j_ := ⟨_, rfl⟩
     replace H : (if (Int.tmod (ji7) 2) = 1 then (if a2 = 0 then (none) else (if (wrap64 ((wrap64 (2 * x8_1)) + (wrap64 (Int.tdiv (wrap64 ((wrap64 (2 * x9_1)) + a1)) a2)))) > 2305843009213693952 then (QaD.l0 k1 a0 a1 a2 2305843009213693952 (Int.tmod (wrap64 ((wrap64 (2 * x9_1)) + a1)) a2) (wrap64 (x10_1 - 1))) else (QaD.l0 k1 a0 a1 a2 (wrap64 ((wrap64 (2 * x8_1)) + (wrap64 (Int.tdiv (wrap64 ((wrap64 (2 * x9_1)) + a1)) a2)))) (Int.tmod (wrap64 ((wrap64 (2 * x9_1)) + a1)) a2) (wrap64 (x10_1 - 1))))) else (if a2 = 0 then (none) else (if (wrap64 ((wrap64 (2 * x8_1)) + (wrap64 (Int.tdiv (wrap64 (2 * x9_1)) a2)))) > 2305843009213693952 then (QaD.l0 k1 a0 a1 a2 2305843009213693952 (Int.tmod (wrap64 (2 * x9_1)) a2) (wrap64 (x10_1 - 1))) else (QaD.l0 k1 a0 a1 a2 (wrap64 ((wrap64 (2 * x8_1)) + (wrap64 (Int.tdiv (wrap64 (2 * x9_1)) a2)))) (Int.tmod (wrap64 (2 * x9_1)) a2) (wrap64 (x10_1 - 1)))))) = some (r1, r2) := by first | (rw [hji7] at H; exact H) | (simp only [hji7] at H ⊢; exact H)
     have hji7_ : (a0 / 2 ^ min (ji5).toNat 64) = ji7 := hji7
     have hji7z : (ji5) ≤ 64 → (a0 / 2 ^ (ji5).toNat) = ji7 := QcD hji7
     by_cases c8 : (Int.tmod (ji7) 2) = 1
     ·rw [if_pos c8] at H
      have c8b0 : ((Int.tmod (ji7) 2) == 1) = T := beq_iff_eq.mpr c8
      have c8b1 : ((Int.tmod (ji7) 2) != 1) = F := bne_eq_false_iff_eq.mpr c8
      clear c8
      (try simp only [c8b0, c8b1])
      by_cases c9 : a2 = 0
      ·rw [if_pos c9] at H
       exact absurd H (by simp)
      rw [if_neg c9] at H
      have c9b0 : (a2 == 0) = F := beq_eq_false_iff_ne.mpr c9
      have c9b1 : (a2 != 0) = T := bne_iff_ne.mpr c9
      by_cases c10 : (wrap64 ((wrap64 (2 * x8_1)) + (wrap64 (Int.tdiv (wrap64 ((wrap64 (2 * x9_1)) + a1)) a2)))) > 2305843009213693952
      ·rw [if_pos c10] at H
       have c10b0 : decide (2305843009213693952 < (wrap64 ((wrap64 (2 * x8_1)) + (wrap64 (Int.tdiv (wrap64 ((wrap64 (2 * x9_1)) + a1)) a2))))) = T := decide_eq_true c10
       clear c10
       (try simp only [c10b0])
       have H' := Aside0.mk H
       clear H
       go_wp2
       go_roundg k1
       case measure => have := HK1.out; omega
       case rel => exact ⟨(2305843009213693952), (Int.tmod (wrap64 ((wrap64 (2 * x9_1)) + a1)) a2), (wrap64 (x10_1 - 1)), (Zs), (Zs), (Zs), H', ⟨by have := HK1.out; omega⟩, Zd⟩
      rw [if_neg c10] at H
      have c10b0 : decide (2305843009213693952 < (wrap64 ((wrap64 (2 * x8_1)) + (wrap64 (Int.tdiv (wrap64 ((wrap64 (2 * x9_1)) + a1)) a2))))) = F := decide_eq_false c10
      clear c10
      (try simp only [c10b0])
      have H' := Aside0.mk H
      clear H
      go_wp2
      go_roundg k1
      case measure => have := HK1.out; omega
      case rel => exact ⟨(wrap64 ((wrap64 (2 * x8_1)) + (wrap64 (Int.tdiv (wrap64 ((wrap64 (2 * x9_1)) + a1)) a2)))), (Int.tmod (wrap64 ((wrap64 (2 * x9_1)) + a1)) a2), (wrap64 (x10_1 - 1)), (Zs), (Zs), (Zs), H', ⟨by have := HK1.out; omega⟩, Zd⟩
     rw [if_neg c8] at H
     have c8b0 : ((Int.tmod (ji7) 2) == 1) = F := beq_eq_false_iff_ne.mpr c8
     have c8b1 : ((Int.tmod (ji7) 2) != 1) = T := bne_iff_ne.mpr c8
     (try simp only [c8b0, c8b1])
     by_cases c11 : a2 = 0
     ·rw [if_pos c11] at H
      exact absurd H (by simp)
     rw [if_neg c11] at H
     have c11b0 : (a2 == 0) = F := beq_eq_false_iff_ne.mpr c11
     have c11b1 : (a2 != 0) = T := bne_iff_ne.mpr c11
     by_cases c12 : (wrap64 ((wrap64 (2 * x8_1)) + (wrap64 (Int.tdiv (wrap64 (2 * x9_1)) a2)))) > 2305843009213693952
     ·rw [if_pos c12] at H
      have c12b0 : decide (2305843009213693952 < (wrap64 ((wrap64 (2 * x8_1)) + (wrap64 (Int.tdiv (wrap64 (2 * x9_1)) a2))))) = T := decide_eq_true c12
      clear c12
      (try simp only [c12b0])
      have H' := Aside0.mk H
      clear H
      go_wp2
      go_roundg k1
      case measure => have := HK1.out; omega
      case rel => exact ⟨(2305843009213693952), (Int.tmod (wrap64 (2 * x9_1)) a2), (wrap64 (x10_1 - 1)), (Zs), (Zs), (Zs), H', ⟨by have := HK1.out; omega⟩, Zd⟩
     rw [if_neg c12] at H
     have c12b0 : decide (2305843009213693952 < (wrap64 ((wrap64 (2 * x8_1)) + (wrap64 (Int.tdiv (wrap64 (2 * x9_1)) a2))))) = F := decide_eq_false c12
     clear c12
     (try simp only [c12b0])
     have H' := Aside0.mk H
     clear H
     go_wp2
     go_roundg k1
     case measure => have := HK1.out; omega
     case rel => exact ⟨(wrap64 ((wrap64 (2 * x8_1)) + (wrap64 (Int.tdiv (wrap64 (2 * x9_1)) a2)))), (Int.tmod (wrap64 (2 * x9_1)) a2), (wrap64 (x10_1 - 1)), (Zs), (Zs), (Zs), H', ⟨by have := HK1.out; omega⟩, Zd⟩
    rw [if_neg c6] at H
    exact absurd H (by simp)
   rw [if_neg c4] at H
   have c4b0 : decide (0 ≤ x10_1) = F := decide_eq_false c4
   clear c4
   (try simp only [c4b0])
   simp only [Option.some.injEq, Prod.mk.injEq] at H
   obtain ⟨rfl, rfl⟩ := H
   go_wp2
   go_ret2
   exact ⟨Zs, Zd⟩
theorem Qgg (N c x : Int) (hc : 0 < c) : (2 * N + x) / c = 2 * (N / c) + (2 * (N % c) + x) / c ∧ (2 * N + x) % c = (2 * (N % c) + x) % c := by
 have h := Int.mul_ediv_add_emod N c
 have e : 2 * N + x = (2 * (N % c) + x) + c * (2 * (N / c)) := by grind
 rw [e]
 exact ⟨by rw [Int.add_mul_ediv_left _ _ (by omega)]; omega, by rw [Int.add_mul_emod_self_left]⟩
theorem Qgf (Q s q : Int) (hQ : 0 ≤ Q) (hs : 0 ≤ s) (hs' : s ≤ 2305843009213693952) (hq : q = if Q ≤ 2305843009213693952 then Q else 2305843009213693952) :
  (if wrap64 (wrap64 (2 * q) + wrap64 s) > 2305843009213693952 then 2305843009213693952 else wrap64 (wrap64 (2 * q) + wrap64 s)) = if 2 * Q + s ≤ 2305843009213693952 then 2 * Q + s else 2305843009213693952 := by
 unfold wrap64
 subst hq
 split <;> split <;> split <;> omega
theorem QfH (a b c : Int) (ha : 0 ≤ a) (ha' : a ≤ 1152921504606846976) (hb : 0 ≤ b) (hb' : b ≤ 1152921504606846976) (hc : 0 < c) (hc' : c ≤ 1152921504606846976) :
    ∀ (n : Nat) (k : Nat) (q r : Int), n ≤ 61 → n < k → q = (if a / 2 ^ n * b / c ≤ 2305843009213693952 then a / 2 ^ n * b / c else 2305843009213693952) → r = a / 2 ^ n * b % c →
      QaD.l0 k a b c q r ((n : Int) - 1) = some (if a * b / c ≤ 2305843009213693952 then a * b / c else 2305843009213693952, a * b % c) := by
  intro n
  induction n with
  | zero =>
    intro k q r _ hk hq hr
    obtain ⟨k, rfl⟩ : ∃ m, k = m + 1 := ⟨k - 1, by omega⟩
    simp only [QaD.l0]
    rw [if_neg (by omega), hq, hr]
    simp
  | succ n ih =>
    intro k q r hn hk hq hr
    obtain ⟨k, rfl⟩ : ∃ m, k = m + 1 := ⟨k - 1, by omega⟩
    have e0 : ((n + 1 : Nat) : Int) - 1 = (n : Int) := by omega
    have w0 : IntKind.u64.wrap (n : Int) = (n : Int) := by rw [IntKind.wrap_u64]; omega
    have hp : (0 : Int) < 2 ^ n := Int.pow_pos (by omega)
    have hA : 0 ≤ a / 2 ^ n := Int.ediv_nonneg ha (by omega)
    have hA2 : a / 2 ^ (n + 1) = a / 2 ^ n / 2 := by
      rw [Int.pow_succ, Int.ediv_ediv_of_nonneg (by omega)]
    have hAle : a / 2 ^ n ≤ a := Int.ediv_le_self _ ha
    have esh : shr .i64 a (n : Int) = a / 2 ^ n := by
      unfold shr
      rw [Int.toNat_natCast, Nat.min_eq_left (show n ≤ IntKind.i64.bits by show n ≤ 64; omega)]
    have hr0 := Int.emod_nonneg (a / 2 ^ (n + 1) * b) (b := c) (by omega)
    have hr1 := Int.emod_lt_of_pos (a / 2 ^ (n + 1) * b) hc
    have hQ0 : 0 ≤ a / 2 ^ (n + 1) * b / c := Int.ediv_nonneg (Int.mul_nonneg (by rw [hA2]; omega) hb) (by omega)
    generalize hA' : a / 2 ^ n = A at *
    generalize hN : a / 2 ^ (n + 1) * b = N at *
    have wr : wrap64 (2 * r) = 2 * r := by unfold wrap64; omega
    have wrb : wrap64 (wrap64 (2 * r) + b) = 2 * r + b := by unfold wrap64; omega
    have wn : wrap64 ((n : Int) - 1) = (n : Int) - 1 := by unfold wrap64; omega
    have step : ∀ x : Int, 0 ≤ x → x ≤ 1152921504606846976 → A * b = 2 * N + x → 
        (if wrap64 (wrap64 (2 * q) + wrap64 ((2 * r + x) / c)) > 2305843009213693952 then QaD.l0 k a b c 2305843009213693952 ((2 * r + x) % c) ((n : Int) - 1)
         else QaD.l0 k a b c (wrap64 (wrap64 (2 * q) + wrap64 ((2 * r + x) / c))) ((2 * r + x) % c) ((n : Int) - 1)) = some (if a * b / c ≤ 2305843009213693952 then a * b / c else 2305843009213693952, a * b % c) := by
      intro x hx0 hx1 hx
      obtain ⟨d1, d2⟩ := Qgg N c x hc
      rw [← hr] at d1 d2
      have s0 : 0 ≤ (2 * r + x) / c := Int.ediv_nonneg (by omega) (by omega)
      have s1 : (2 * r + x) / c ≤ 2305843009213693952 := by
        have : (2 * r + x) / c < 2305843009213693953 := (Int.ediv_lt_iff_lt_mul hc).2 (by omega)
        omega
      have cap := Qgf (N / c) ((2 * r + x) / c) q hQ0 s0 s1 hq
      rw [← d1, ← hx] at cap
      rw [← hx] at d2
      have := ih k (if wrap64 (wrap64 (2 * q) + wrap64 ((2 * r + x) / c)) > 2305843009213693952 then 2305843009213693952 else wrap64 (wrap64 (2 * q) + wrap64 ((2 * r + x) / c))) ((2 * r + x) % c) (by omega) (by omega) cap d2.symm
      split at this
      · rw [if_pos (by assumption)]; exact this
      · rw [if_neg (by assumption)]; exact this
    simp only [QaD.l0]
    rw [e0, if_pos (by omega), w0, if_pos (by omega), esh, Int.tmod_eq_emod_of_nonneg hA, if_neg (show ¬ c = 0 by omega), if_neg (show ¬ c = 0 by omega), wrb, wr, wn]
    rw [Int.tdiv_eq_ediv_of_nonneg (show 0 ≤ 2 * r + b by omega), Int.tmod_eq_emod_of_nonneg (show 0 ≤ 2 * r + b by omega), Int.tdiv_eq_ediv_of_nonneg (show 0 ≤ 2 * r by omega), Int.tmod_eq_emod_of_nonneg (show 0 ≤ 2 * r by omega)]
    by_cases hbit : A % 2 = 1
    · rw [if_pos hbit]
      refine step b hb hb' ?_
      rw [← hN, hA2]
      have : A = 2 * (A / 2) + 1 := by omega
      grind
    · rw [if_neg hbit]
      have := step 0 (by omega) (by omega) (by
        rw [← hN, hA2]
        have : A = 2 * (A / 2) := by omega
        grind)
      rw [Int.add_zero] at this
      exact this
theorem QaD.eq (a b c : Int) (ha : 0 ≤ a) (ha' : a ≤ 1152921504606846976) (hb : 0 ≤ b) (hb' : b ≤ 1152921504606846976) (hc : 0 < c) (hc' : c ≤ 1152921504606846976) (k : Nat) (hk : 70 ≤ k) :
  QaD.f k a b c = some (if a * b / c ≤ 2305843009213693952 then a * b / c else 2305843009213693952, a * b % c) := by
 unfold QaD.f
 have h0 : a / 2 ^ 61 = 0 := Int.ediv_eq_zero_of_lt ha (by omega)
 exact QfH a b c ha ha' hb hb' hc hc' 61 k 0 0 (by omega) (by omega) (by rw [h0]; simp) (by rw [h0]; simp)
set_option maxHeartbeats 4000000 in
theorem Qa9.bad (a0 a1 a2 a3 : Int) (w : World) (h : ¬ (mdFits a0 ∧ mdFits a1 ∧ mdFits a2 ∧ 1 ≤ a3 ∧ a3 ≤ 5)) :
  Calls Try.prog 58 #[.int .i64 a0, .int .i64 a1, .int .i64 a2, .int .i64 a3] w fun e w' => e = .returned (.tuple #[.int .i64 0, .int .i64 2]) ∧ w' = w := by
 rcases QcX a0 a1 a2 a3 h with h1 | h1 | ⟨⟨h1, h2⟩, h3⟩ | ⟨⟨h1, h2⟩, h3⟩ | ⟨⟨h1, h2⟩, ⟨h3, h4⟩, h5⟩ | ⟨⟨h1, h2⟩, ⟨h3, h4⟩, h5⟩ | ⟨⟨h1, h2⟩, ⟨h3, h4⟩, ⟨h5, h6⟩, h7⟩ | ⟨⟨h1, h2⟩, ⟨h3, h4⟩, ⟨h5, h6⟩, h7⟩
 all_goals
  clear h
  go_enter Try.func58, Try.ntmps58
  go_wp2
  go_ret2
  exact ⟨rfl, rfl⟩
set_option maxHeartbeats 4000000 in
theorem Qa9.z (a0 a1 a2 a3 : Int) (w : World) (h1 : -1152921504606846976 ≤ a0) (h2 : a0 ≤ 1152921504606846976) (h3 : -1152921504606846976 ≤ a1) (h4 : a1 ≤ 1152921504606846976)
  (h5 : -1152921504606846976 ≤ a2) (h6 : a2 ≤ 1152921504606846976) (hc : (a2 == 0) = T) (m1 : 1 ≤ a3) (m2 : a3 ≤ 5) :
  Calls Try.prog 58 #[.int .i64 a0, .int .i64 a1, .int .i64 a2, .int .i64 a3] w fun e w' => e = .returned (.tuple #[.int .i64 0, .int .i64 4]) ∧ Below w.heap.size w w' := by
 go_enter Try.func58, Try.ntmps58
 go_wp2_with (go_at_call 93; go_in)
 go_ret2
 exact ⟨rfl, Below.refl _ _⟩
theorem QcQ (a : Int) (h1 : -1152921504606846976 ≤ a) : Qbr.f a = some (a.natAbs : Int) := by
 unfold Qbr.f wrap64
 split <;> (congr 1; omega)
def rmQ (Q R : Int) (av : Bool) : Int := if 0 < R ∧ av = T then Q + 1 else Q
def rmRes (q : Int) (bl : Bool) : Int × Int := if 1152921504606846976 < q then (0, 3) else (if bl = T then -q else q, 0)
theorem rm_end {q n er : Int} {bl : Bool} (h : rmRes q bl = (n, er)) : Ending.returned (.tuple #[.int .i64 n, .int .i64 er]) = .returned (.tuple #[.int .i64 (rmRes q bl).1, .int .i64 (rmRes q bl).2]) := by rw [h]
set_option maxHeartbeats 4000000 in
theorem Qa9.main (a0 a1 a2 a3 : Int) (w : World) (h1 : -1152921504606846976 ≤ a0) (h2 : a0 ≤ 1152921504606846976) (h3 : -1152921504606846976 ≤ a1) (h4 : a1 ≤ 1152921504606846976)
  (h5 : -1152921504606846976 ≤ a2) (h6 : a2 ≤ 1152921504606846976) (hc : (a2 == 0) = F) (m1 : 1 ≤ a3) (m2 : a3 ≤ 5) (Q R : Int) (bl av : Bool)
  (fb : (!((!(decide (a0 < 0) == decide (a1 < 0))) == decide (a2 < 0))) = bl) (hQ : Aside0 (QaD.f 70 a0.natAbs a1.natAbs a2.natAbs = some (Q, R)))
  (hav : Aside0 (QbI.f Q R a2.natAbs a3 bl = some av)) (hQ0 : 0 ≤ Q) (hQ1 : Q ≤ 2305843009213693952) :
  Calls Try.prog 58 #[.int .i64 a0, .int .i64 a1, .int .i64 a2, .int .i64 a3] w fun e w' => e = .returned (.tuple #[.int .i64 (rmRes (rmQ Q R av) bl).1, .int .i64 (rmRes (rmQ Q R av) bl).2]) ∧ Below w.heap.size w w' := by
 by_cases hR : 0 < R
 ·cases av
  ·have eq : rmQ Q R F = Q := by unfold rmQ; rw [if_neg (by simp)]
   rw [eq]; clear eq
   go_enter Try.func58, Try.ntmps58
   go_wp2_with (first | (go_at_call 93; go_in) | (go_at_call 95; refine (Qbr.calls _ _ _ (QcQ _ (by omega))).mono ?_; rintro e w1 ⟨rfl, ⟨nd, rfl⟩⟩) | (go_at_call 94; refine (QaD.calls 70 _ _ _ _ _ _ hQ.out).mono ?_; rintro e w1 ⟨rfl, ⟨nd, rfl⟩⟩) | (go_at_call 96; refine (QbI.calls _ _ _ _ _ _ _ hav.out).mono ?_; rintro e w1 ⟨rfl, ⟨nd, rfl⟩⟩))
   all_goals go_ret2
   all_goals refine ⟨rm_end ?_, by repeat (first | exact Below.refl _ _ | apply Qae | apply Qb6)⟩
   all_goals go_light
   ·exact if_pos (by omega)
   ·exact (if_neg (by omega)).trans (by rw [if_pos (by first | rfl | assumption)])
   exact (if_neg (by omega)).trans (by rw [if_neg (by first | (simp; done) | (simp; assumption))])
  have eq : rmQ Q R T = Q + 1 := by unfold rmQ; rw [if_pos ⟨hR, rfl⟩]
  rw [eq]; clear eq
  go_enter Try.func58, Try.ntmps58
  go_wp2_with (first | (go_at_call 93; go_in) | (go_at_call 95; refine (Qbr.calls _ _ _ (QcQ _ (by omega))).mono ?_; rintro e w1 ⟨rfl, ⟨nd, rfl⟩⟩) | (go_at_call 94; refine (QaD.calls 70 _ _ _ _ _ _ hQ.out).mono ?_; rintro e w1 ⟨rfl, ⟨nd, rfl⟩⟩) | (go_at_call 96; refine (QbI.calls _ _ _ _ _ _ _ hav.out).mono ?_; rintro e w1 ⟨rfl, ⟨nd, rfl⟩⟩))
  all_goals go_ret2
  all_goals refine ⟨rm_end ?_, by repeat (first | exact Below.refl _ _ | apply Qae | apply Qb6)⟩
  all_goals go_light
  ·exact if_pos (by omega)
  ·exact (if_neg (by omega)).trans (by rw [if_pos (by first | rfl | assumption)])
  exact (if_neg (by omega)).trans (by rw [if_neg (by first | (simp; done) | (simp; assumption))])
 have eq : rmQ Q R av = Q := by unfold rmQ; rw [if_neg (fun h => hR h.1)]
 rw [eq]; clear eq
 have hR' : R ≤ 0 := by omega
 clear hR
 go_enter Try.func58, Try.ntmps58
 go_wp2_with (first | (go_at_call 93; go_in) | (go_at_call 95; refine (Qbr.calls _ _ _ (QcQ _ (by omega))).mono ?_; rintro e w1 ⟨rfl, ⟨nd, rfl⟩⟩) | (go_at_call 94; refine (QaD.calls 70 _ _ _ _ _ _ hQ.out).mono ?_; rintro e w1 ⟨rfl, ⟨nd, rfl⟩⟩) | (go_at_call 96; refine (QbI.calls _ _ _ _ _ _ _ hav.out).mono ?_; rintro e w1 ⟨rfl, ⟨nd, rfl⟩⟩))
 all_goals go_ret2
 all_goals refine ⟨rm_end ?_, by repeat (first | exact Below.refl _ _ | apply Qae | apply Qb6)⟩
 all_goals go_light
 ·exact if_pos (by omega)
 ·exact (if_neg (by omega)).trans (by rw [if_pos (by first | rfl | assumption)])
 exact (if_neg (by omega)).trans (by rw [if_neg (by first | (simp; done) | (simp; assumption))])
theorem QfI (Q R c mode : Int) (bl : Bool) (h0 : 0 ≤ Q) (hR : 0 ≤ R) (hc : R < c) (hc' : c ≤ 1152921504606846976) (m1 : 1 ≤ mode) (m2 : mode ≤ 5) : QbI.f Q R c mode bl = some (mdAway mode bl Q R c) := by
 have hw : wrap64 (c - R) = c - R := by unfold wrap64; omega
 have ht : Int.tmod Q 2 = Q % 2 := Int.tmod_eq_emod_of_nonneg h0
 unfold QbI.f mdAway
 rw [hw, ht]
 obtain rfl | rfl | rfl | rfl | rfl : mode = 1 ∨ mode = 2 ∨ mode = 3 ∨ mode = 4 ∨ mode = 5 := by omega
 ·rfl
 ·rfl
 ·cases bl <;> rfl
 ·cases bl <;> rfl
 by_cases g1 : R > c - R
 ·rw [if_neg (by omega), if_neg (by omega), if_neg (by omega), if_pos rfl, if_pos g1, decide_eq_true (show c - R < R from g1)]; rfl
 rw [if_neg (by omega), if_neg (by omega), if_neg (by omega), if_pos rfl, if_neg g1, decide_eq_false (show ¬ c - R < R from g1)]
 by_cases g2 : R = c - R
 ·rw [if_pos g2, decide_eq_true g2]
  by_cases g3 : Q % 2 = 1
  ·rw [g3]; rfl
  rw [decide_eq_false g3, beq_eq_false_iff_ne.mpr g3]; rfl
 rw [if_neg g2, decide_eq_false g2]; rfl
def Qa9.f (a0 a1 a2 a3 : Int) : Option (Int × Int) := Qa0.f a0 a1 a2 a3
theorem Qa9.calls (a0 a1 a2 a3 r1 r2 : Int) (w : World) (h : Qa9.f a0 a1 a2 a3 = some (r1, r2)) :
  Calls Try.prog 58 #[.int .i64 a0, .int .i64 a1, .int .i64 a2, .int .i64 a3] w fun e w' => e = .returned (.tuple #[.int .i64 r1, .int .i64 r2]) ∧ Below w.heap.size w w' := by
 unfold Qa9.f Qa0.f at h
 by_cases c : mdFits a0 ∧ mdFits a1 ∧ mdFits a2 ∧ 1 ≤ a3 ∧ a3 ≤ 5
 ·rw [if_pos c] at h
  obtain ⟨⟨c1, c2⟩, ⟨c3, c4⟩, ⟨c5, c6⟩, c7, c8⟩ := c
  by_cases d : a2 = 0
  ·rw [if_pos d] at h
   have h' := Option.some.inj h
   simp only [Prod.mk.injEq] at h'
   obtain ⟨rfl, rfl⟩ := h'
   exact Qa9.z a0 a1 a2 a3 w c1 c2 c3 c4 c5 c6 (by simpa using d) c7 c8
  rw [if_neg d] at h
  have h' := Option.some.inj h
  have e1 : (mdRes a0 a1 a2 a3).1 = r1 := by rw [h']
  have e2 : (mdRes a0 a1 a2 a3).2 = r2 := by rw [h']
  rw [← e1, ← e2]
  have hq0 : 0 ≤ (a0.natAbs : Int) * a1.natAbs / a2.natAbs := Int.ediv_nonneg (Int.mul_nonneg (by omega) (by omega)) (by omega)
  have hr0 := Int.emod_nonneg ((a0.natAbs : Int) * a1.natAbs) (b := (a2.natAbs : Int)) (by omega)
  have hr1 := Int.emod_lt_of_pos ((a0.natAbs : Int) * a1.natAbs) (b := (a2.natAbs : Int)) (by omega)
  have eq := QaD.eq a0.natAbs a1.natAbs a2.natAbs (by omega) (by omega) (by omega) (by omega) (by omega) (by omega) 70 (by omega)
  have em : rmRes (rmQ (if (a0.natAbs : Int) * a1.natAbs / a2.natAbs ≤ 2305843009213693952 then (a0.natAbs : Int) * a1.natAbs / a2.natAbs else 2305843009213693952) ((a0.natAbs : Int) * a1.natAbs % a2.natAbs)
    (mdAway a3 (QbL a0 a1 a2) (if (a0.natAbs : Int) * a1.natAbs / a2.natAbs ≤ 2305843009213693952 then (a0.natAbs : Int) * a1.natAbs / a2.natAbs else 2305843009213693952) ((a0.natAbs : Int) * a1.natAbs % a2.natAbs) a2.natAbs)) (QbL a0 a1 a2) = mdRes a0 a1 a2 a3 := by
   by_cases g : (a0.natAbs : Int) * a1.natAbs / a2.natAbs ≤ 2305843009213693952
   ·rw [if_pos g]; rfl
   rw [if_neg g]
   unfold rmRes mdRes
   rw [if_pos (by unfold rmQ; split <;> omega), if_pos (by unfold mdQ; split <;> omega)]
  rw [← em]
  refine Qa9.main a0 a1 a2 a3 w c1 c2 c3 c4 c5 c6 (by simpa using d) c7 c8 _ _ _ _ rfl (Aside0.mk eq) (Aside0.mk (QfI _ _ _ _ _ ?_ hr0 hr1 (by omega) c7 c8)) ?_ ?_
  ·split <;> omega
  ·split <;> omega
  split <;> omega
 rw [if_neg c] at h
 have h' := Option.some.inj h
 simp only [Prod.mk.injEq] at h'
 obtain ⟨rfl, rfl⟩ := h'
 refine (Qa9.bad a0 a1 a2 a3 w c).mono ?_
 rintro e w' ⟨rfl, rfl⟩
 exact ⟨rfl, Below.refl _ _⟩
def Qay.l0 : Nat → ByteArray → Int → Option (Bool)
 | 0, _, _ => none
 | k + 1, x0, x3 => if x3 < (x0.size : Int) then (if 0 ≤ x3 then (if (bt x0 x3) ≥ 97 then (if ((bt x0 x3) ≤ 122) then (Qay.l0 k x0 (wrap64 (x3 + 1))) else (if x3 = 0 then (some F) else (if (bt x0 x3) < 48 then (some F) else (if (bt x0 x3) > 57 then (some F) else (Qay.l0 k x0 (wrap64 (x3 + 1))))))) else (if x3 = 0 then (some F) else (if (bt x0 x3) < 48 then (some F) else (if (bt x0 x3) > 57 then (some F) else (Qay.l0 k x0 (wrap64 (x3 + 1))))))) else (none)) else (if (x0.size : Int) > 0 then (some (decide ((x0.size : Int) ≤ 12))) else (some F))
def Qay.f (k : Nat) (a0 : ByteArray) : Option (Bool) := Qay.l0 k a0 0
theorem Qay.mono_l : ∀ k, (∀ y0 y1, LeO (Qay.l0 k y0 y1) (Qay.l0 (k + 1) y0 y1))
 | 0 => fun _ _ r h => by simp [Qay.l0] at h
 | k + 1 => by
  have ih0 := Qay.mono_l k
  intro y0 y1
  unfold Qay.l0
  exact ZM1 ih0
theorem Qay.mono : ∀ a0 k, LeO (Qay.f k a0) (Qay.f (k + 1) a0) := by
 intro a0 k
 have ih0 := Qay.mono_l k
 unfold Qay.f
 exact ZM1 ih0
set_option maxHeartbeats 8000000 in
theorem Qay.calls (k : Nat) (a0 : ByteArray) (r : Bool) (w : World) (h : Qay.f k a0 = some r) :
  Calls Try.prog 99 #[.string a0] w fun e w' => e = .returned (.bool r) ∧ Drawn0 w w' := by
 have H : (Qay.l0 k a0 0) = some r := h
 clear h
 have H' := Aside0.mk H
 clear H
 go_enter Try.func99, Try.ntmps99
 go_wp2
 go_loopg [3] k (fun kq v3 w' => ∃ (x3_1 : Int), v3 = .int .i64 x3_1 ∧ Aside0 (Qay.l0 kq a0 x3_1 = some r) ∧ Aside0 (kq ≤ k) ∧ Drawn0 w w')
 case atStart => exact ⟨(0), (Zs), H', ⟨Nat.le_refl _⟩, Zd⟩
 case round =>
  clear H'
  obtain ⟨x3_1, rfl, HA, HK1, ⟨m1, rfl⟩⟩ := hrel
  cases gk with
  | zero => exact absurd HA.out (by simp [Qay.l0])
  | succ k1 =>
   have H := HA.out
   clear HA
   simp only [Qay.l0] at H
   by_cases c2 : x3_1 < (a0.size : Int)
   ·rw [if_pos c2] at H
    have c2b0 : decide (x3_1 < (a0.size : Int)) = T := decide_eq_true c2
    clear c2
    (try simp only [c2b0])
    by_cases c3 : 0 ≤ x3_1
    ·rw [if_pos c3] at H
     have c3b0 : decide (0 ≤ x3_1) = T := decide_eq_true c3
     clear c3
     by_cases c5 : (bt a0 x3_1) ≥ 97
     ·rw [if_pos c5] at H
      have c5b0 : decide (97 ≤ (bt a0 x3_1)) = T := decide_eq_true c5
      clear c5
      have p4 : 0 ≤ (x3_1 : Int) := Ze
      have q4 : x3_1 < (a0.size : Int) := Ze
      have hx4 := bt_at a0 x3_1
      replace p4 := eq_true p4
      replace q4 := eq_true q4
      have p6 : 0 ≤ (x3_1 : Int) := Ze
      have q6 : x3_1 < (a0.size : Int) := Ze
      have hx6 := bt_at a0 x3_1
      replace p6 := eq_true p6
      replace q6 := eq_true q6
      go_upto_region 5 with (fail)
      by_cases c7 : ((bt a0 x3_1) ≤ 122)
      ·rw [if_pos c7] at H
       have c7b0 : decide ((bt a0 x3_1) ≤ 122) = T := decide_eq_true c7
       clear c7
       (try simp only [c7b0])
       have H' := Aside0.mk H
       clear H
       go_wp2
       go_roundg k1
       case measure => have := HK1.out; omega
       case rel => exact ⟨(wrap64 (x3_1 + 1)), (Zs), H', ⟨by have := HK1.out; omega⟩, Zd⟩
      rw [if_neg c7] at H
      have c7b0 : decide ((bt a0 x3_1) ≤ 122) = F := decide_eq_false c7
      clear c7
      (try simp only [c7b0])
      by_cases c8 : x3_1 = 0
      ·rw [if_pos c8] at H
       have c8b0 : (x3_1 == 0) = T := beq_iff_eq.mpr c8
       have c8b1 : (x3_1 != 0) = F := bne_eq_false_iff_eq.mpr c8
       clear c8
       obtain rfl := Option.some.inj H
       go_wp2
       go_ret
       exact ⟨Zs, Zd⟩
      rw [if_neg c8] at H
      have c8b0 : (x3_1 == 0) = F := beq_eq_false_iff_ne.mpr c8
      have c8b1 : (x3_1 != 0) = T := bne_iff_ne.mpr c8
      by_cases c10 : (bt a0 x3_1) < 48
      ·rw [if_pos c10] at H
       have c10b0 : decide ((bt a0 x3_1) < 48) = T := decide_eq_true c10
       clear c10
       obtain rfl := Option.some.inj H
       have p9 : 0 ≤ (x3_1 : Int) := Ze
       have q9 : x3_1 < (a0.size : Int) := Ze
       have hx9 := bt_at a0 x3_1
       replace p9 := eq_true p9
       replace q9 := eq_true q9
       go_wp2
       go_ret
       exact ⟨Zs, Zd⟩
      rw [if_neg c10] at H
      have c10b0 : decide ((bt a0 x3_1) < 48) = F := decide_eq_false c10
      clear c10
      have p9 : 0 ≤ (x3_1 : Int) := Ze
      have q9 : x3_1 < (a0.size : Int) := Ze
      have hx9 := bt_at a0 x3_1
      replace p9 := eq_true p9
      replace q9 := eq_true q9
      have p11 : 0 ≤ (x3_1 : Int) := Ze
      have q11 : x3_1 < (a0.size : Int) := Ze
      have hx11 := bt_at a0 x3_1
      replace p11 := eq_true p11
      replace q11 := eq_true q11
      go_upto_if 38 with (fail)
      by_cases c12 : (bt a0 x3_1) > 57
      ·rw [if_pos c12] at H
       have c12b0 : decide (57 < (bt a0 x3_1)) = T := decide_eq_true c12
       clear c12
       (try simp only [c12b0])
       obtain rfl := Option.some.inj H
       go_wp2
       go_ret
       exact ⟨Zs, Zd⟩
      rw [if_neg c12] at H
      have c12b0 : decide (57 < (bt a0 x3_1)) = F := decide_eq_false c12
      clear c12
      (try simp only [c12b0])
      have H' := Aside0.mk H
      clear H
      go_wp2
      go_roundg k1
      case measure => have := HK1.out; omega
      case rel => exact ⟨(wrap64 (x3_1 + 1)), (Zs), H', ⟨by have := HK1.out; omega⟩, Zd⟩
     rw [if_neg c5] at H
     have c5b0 : decide (97 ≤ (bt a0 x3_1)) = F := decide_eq_false c5
     clear c5
     have p4 : 0 ≤ (x3_1 : Int) := Ze
     have q4 : x3_1 < (a0.size : Int) := Ze
     have hx4 := bt_at a0 x3_1
     replace p4 := eq_true p4
     replace q4 := eq_true q4
     go_upto_region 5 with (fail)
     by_cases c13 : x3_1 = 0
     ·rw [if_pos c13] at H
      have c13b0 : (x3_1 == 0) = T := beq_iff_eq.mpr c13
      have c13b1 : (x3_1 != 0) = F := bne_eq_false_iff_eq.mpr c13
      clear c13
      (try simp only [c13b0, c13b1])
      obtain rfl := Option.some.inj H
      go_wp2
      go_ret
      exact ⟨Zs, Zd⟩
     rw [if_neg c13] at H
     have c13b0 : (x3_1 == 0) = F := beq_eq_false_iff_ne.mpr c13
     have c13b1 : (x3_1 != 0) = T := bne_iff_ne.mpr c13
     (try simp only [c13b0, c13b1])
     by_cases c15 : (bt a0 x3_1) < 48
     ·rw [if_pos c15] at H
      have c15b0 : decide ((bt a0 x3_1) < 48) = T := decide_eq_true c15
      clear c15
      obtain rfl := Option.some.inj H
      have p14 : 0 ≤ (x3_1 : Int) := Ze
      have q14 : x3_1 < (a0.size : Int) := Ze
      have hx14 := bt_at a0 x3_1
      replace p14 := eq_true p14
      replace q14 := eq_true q14
      go_wp2
      go_ret
      exact ⟨Zs, Zd⟩
     rw [if_neg c15] at H
     have c15b0 : decide ((bt a0 x3_1) < 48) = F := decide_eq_false c15
     clear c15
     have p14 : 0 ≤ (x3_1 : Int) := Ze
     have q14 : x3_1 < (a0.size : Int) := Ze
     have hx14 := bt_at a0 x3_1
     replace p14 := eq_true p14
     replace q14 := eq_true q14
     have p16 : 0 ≤ (x3_1 : Int) := Ze
     have q16 : x3_1 < (a0.size : Int) := Ze
     have hx16 := bt_at a0 x3_1
     replace p16 := eq_true p16
     replace q16 := eq_true q16
     go_upto_if 38 with (fail)
     by_cases c17 : (bt a0 x3_1) > 57
     ·rw [if_pos c17] at H
      have c17b0 : decide (57 < (bt a0 x3_1)) = T := decide_eq_true c17
      clear c17
      (try simp only [c17b0])
      obtain rfl := Option.some.inj H
      go_wp2
      go_ret
      exact ⟨Zs, Zd⟩
     rw [if_neg c17] at H
     have c17b0 : decide (57 < (bt a0 x3_1)) = F := decide_eq_false c17
     clear c17
     (try simp only [c17b0])
     have H' := Aside0.mk H
     clear H
     go_wp2
     go_roundg k1
     case measure => have := HK1.out; omega
     case rel => exact ⟨(wrap64 (x3_1 + 1)), (Zs), H', ⟨by have := HK1.out; omega⟩, Zd⟩
    rw [if_neg c3] at H
    exact absurd H (by simp)
   rw [if_neg c2] at H
   have c2b0 : decide (x3_1 < (a0.size : Int)) = F := decide_eq_false c2
   clear c2
   (try simp only [c2b0])
   by_cases c18 : (a0.size : Int) > 0
   ·rw [if_pos c18] at H
    have c18b0 : decide (0 < (a0.size : Int)) = T := decide_eq_true c18
    have c18b1 : decide (0 < a0.size) = T := decide_eq_true (by omega)
    clear c18
    obtain rfl := Option.some.inj H
    go_wp2
    go_ret
    exact ⟨Zs, Zd⟩
   rw [if_neg c18] at H
   have c18b0 : decide (0 < (a0.size : Int)) = F := decide_eq_false c18
   have c18b1 : decide (0 < a0.size) = F := decide_eq_false (by omega)
   clear c18
   obtain rfl := Option.some.inj H
   go_wp2
   go_ret
   exact ⟨Zs, Zd⟩
def Qbd.f (k : Nat) (a0_0 : ByteArray) (a0_1 : Int) (a0_2 : Int) (a0_3 : Int) (a0_4 : Int) (a0_5 : Int) : Option (Int) := (Qay.f k a0_0).bind fun t342 => (if t342 = T then ((Qao.f a0_1 1 3).bind fun t343 => (if t343 = T then ((Qao.f a0_2 0 7).bind fun t344 => (if t344 = T then ((Qao.f a0_3 1 68719476736).bind fun t345 => (if t345 = T then (if a0_1 = 1 then (if a0_3 = 1 then ((Qao.f a0_4 0 1000).bind fun t346 => (if t346 = T then ((Qao.f a0_5 0 1000).bind fun t347 => (if t347 = T then (some 0) else (some 2))) else (some 2))) else (some 2)) else ((Qao.f a0_4 0 1000).bind fun t348 => (if t348 = T then ((Qao.f a0_5 0 1000).bind fun t349 => (if t349 = T then (some 0) else (some 2))) else (some 2)))) else (some 2))) else (some 25))) else (some 2))) else (some 10))
theorem Qbd.mono : ∀ a0 a1 a2 a3 a4 a5 k, LeO (Qbd.f k a0 a1 a2 a3 a4 a5) (Qbd.f (k + 1) a0 a1 a2 a3 a4 a5) := by
 intro a0 a1 a2 a3 a4 a5 k
 unfold Qbd.f
 exact ZM1 Qay.mono
set_option maxHeartbeats 8000000 in
theorem Qbd.calls (k : Nat) (a0_0 : ByteArray) (a0_1 : Int) (a0_2 : Int) (a0_3 : Int) (a0_4 : Int) (a0_5 : Int) (r : Int) (w : World) (h : Qbd.f k a0_0 a0_1 a0_2 a0_3 a0_4 a0_5 = some r) :
  Calls Try.prog 102 #[.agg #[.string a0_0, .int .i64 a0_1, .int .i64 a0_2, .int .i64 a0_3, .int .i64 a0_4, .int .i64 a0_5]] w fun e w' => e = .returned (.int .i64 r) ∧ Below w.heap.size w w' := by
 have hu84 := Try.underlying84
 have HB := Aside0.mk (Below.refl w.heap.size w)
 have H : ((Qay.f k a0_0).bind fun t342 => (if t342 = T then ((Qao.f a0_1 1 3).bind fun t343 => (if t343 = T then ((Qao.f a0_2 0 7).bind fun t344 => (if t344 = T then ((Qao.f a0_3 1 68719476736).bind fun t345 => (if t345 = T then (if a0_1 = 1 then (if a0_3 = 1 then ((Qao.f a0_4 0 1000).bind fun t346 => (if t346 = T then ((Qao.f a0_5 0 1000).bind fun t347 => (if t347 = T then (some 0) else (some 2))) else (some 2))) else (some 2)) else ((Qao.f a0_4 0 1000).bind fun t348 => (if t348 = T then ((Qao.f a0_5 0 1000).bind fun t349 => (if t349 = T then (some 0) else (some 2))) else (some 2)))) else (some 2))) else (some 25))) else (some 2))) else (some 10))) = some r := h
 clear h
 replace H := Option.bind_eq_some_iff.mp H
 obtain ⟨t342, A20, H⟩ := H
 replace H : (if t342 = T then ((Qao.f a0_1 1 3).bind fun t343 => (if t343 = T then ((Qao.f a0_2 0 7).bind fun t344 => (if t344 = T then ((Qao.f a0_3 1 68719476736).bind fun t345 => (if t345 = T then (if a0_1 = 1 then (if a0_3 = 1 then ((Qao.f a0_4 0 1000).bind fun t346 => (if t346 = T then ((Qao.f a0_5 0 1000).bind fun t347 => (if t347 = T then (some 0) else (some 2))) else (some 2))) else (some 2)) else ((Qao.f a0_4 0 1000).bind fun t348 => (if t348 = T then ((Qao.f a0_5 0 1000).bind fun t349 => (if t349 = T then (some 0) else (some 2))) else (some 2)))) else (some 2))) else (some 25))) else (some 2))) else (some 10)) = some r := H
 have A2 := Aside0.mk A20
 clear A20
 go_enter Try.func102, Try.ntmps102
 go_upto_if 3 with (first | ((with_reducible refine QaL (N := 1) rfl ?_); refine Zbx (N := 1) (cs := #[.string a0_0, .int .i64 a0_1, .int .i64 a0_2, .int .i64 a0_3, .int .i64 a0_4, .int .i64 a0_5]) (t := 84) ?_; intro gb341 hg w3 hbox hb; have BK341 := Aside0.mk (hbox); have GW341 := Aside0.mk (Zt w hg (Zb)); have GE341 := GW341; replace HB := Aside0.mk (Qan (Zb) hb); clear hb hbox hg; obtain ⟨hcz4_0, hfz4_0⟩ := Zy (v := (.string a0_0)) BK341.out 0; obtain ⟨hcz4_1, hfz4_1⟩ := Zy (v := (.int .i64 a0_1)) BK341.out 1; obtain ⟨hcz4_2, hfz4_2⟩ := Zy (v := (.int .i64 a0_2)) BK341.out 2; obtain ⟨hcz4_3, hfz4_3⟩ := Zy (v := (.int .i64 a0_3)) BK341.out 3; obtain ⟨hcz4_4, hfz4_4⟩ := Zy (v := (.int .i64 a0_4)) BK341.out 4; obtain ⟨hcz4_5, hfz4_5⟩ := Zy (v := (.int .i64 a0_5)) BK341.out 5) | ((with_reducible refine Qaw (f := 99) rfl ?_); refine goesL_ (some 6) rfl rfl Try.func99 (by kernel_rfl) rfl #[.string a0_0] rfl (Zl) ?_; (with_reducible refine (Qay.calls k a0_0 t342 _ A2.out).mono ?_); rintro e w' ⟨rfl, ⟨nd, rfl⟩⟩; refine ⟨_, rfl, ?_⟩))
 (try simp only [Act.put, Zj, Zk, Zm])
 by_cases c5 : t342 = T
 ·subst c5
  have H1 : ((Qao.f a0_1 1 3).bind fun t343 => (if t343 = T then ((Qao.f a0_2 0 7).bind fun t344 => (if t344 = T then ((Qao.f a0_3 1 68719476736).bind fun t345 => (if t345 = T then (if a0_1 = 1 then (if a0_3 = 1 then ((Qao.f a0_4 0 1000).bind fun t346 => (if t346 = T then ((Qao.f a0_5 0 1000).bind fun t347 => (if t347 = T then (some 0) else (some 2))) else (some 2))) else (some 2)) else ((Qao.f a0_4 0 1000).bind fun t348 => (if t348 = T then ((Qao.f a0_5 0 1000).bind fun t349 => (if t349 = T then (some 0) else (some 2))) else (some 2)))) else (some 2))) else (some 25))) else (some 2))) = some r := by rw [if_pos rfl] at H; exact H
  clear H
  have H := H1
  clear H1
  replace H := Option.bind_eq_some_iff.mp H
  obtain ⟨t343, A60, H⟩ := H
  replace H : (if t343 = T then ((Qao.f a0_2 0 7).bind fun t344 => (if t344 = T then ((Qao.f a0_3 1 68719476736).bind fun t345 => (if t345 = T then (if a0_1 = 1 then (if a0_3 = 1 then ((Qao.f a0_4 0 1000).bind fun t346 => (if t346 = T then ((Qao.f a0_5 0 1000).bind fun t347 => (if t347 = T then (some 0) else (some 2))) else (some 2))) else (some 2)) else ((Qao.f a0_4 0 1000).bind fun t348 => (if t348 = T then ((Qao.f a0_5 0 1000).bind fun t349 => (if t349 = T then (some 0) else (some 2))) else (some 2)))) else (some 2))) else (some 25))) else (some 2)) = some r := H
  have A6 := Aside0.mk A60
  clear A60
  obtain ⟨hcz7_0, hfz7_0⟩ := Zy (v := (.string a0_0)) BK341.out 0
  obtain ⟨hcz7_1, hfz7_1⟩ := Zy (v := (.int .i64 a0_1)) BK341.out 1
  obtain ⟨hcz7_2, hfz7_2⟩ := Zy (v := (.int .i64 a0_2)) BK341.out 2
  obtain ⟨hcz7_3, hfz7_3⟩ := Zy (v := (.int .i64 a0_3)) BK341.out 3
  obtain ⟨hcz7_4, hfz7_4⟩ := Zy (v := (.int .i64 a0_4)) BK341.out 4
  obtain ⟨hcz7_5, hfz7_5⟩ := Zy (v := (.int .i64 a0_5)) BK341.out 5
  go_upto_if 8 with (first | ((with_reducible refine Qaw (f := 104) rfl ?_); refine goesL_ (some 11) rfl rfl Try.func104 (by kernel_rfl) rfl #[.int .i64 a0_1, .int .i64 1, .int .i64 3] rfl (Zl) ?_; (with_reducible refine (Qao.calls a0_1 1 3 t343 _ A6.out).mono ?_); rintro e w' ⟨rfl, ⟨nd, rfl⟩⟩; refine ⟨_, rfl, ?_⟩))
  (try simp only [Act.put, Zj, Zk, Zm])
  by_cases c8 : t343 = T
  ·subst c8
   have H1 : ((Qao.f a0_2 0 7).bind fun t344 => (if t344 = T then ((Qao.f a0_3 1 68719476736).bind fun t345 => (if t345 = T then (if a0_1 = 1 then (if a0_3 = 1 then ((Qao.f a0_4 0 1000).bind fun t346 => (if t346 = T then ((Qao.f a0_5 0 1000).bind fun t347 => (if t347 = T then (some 0) else (some 2))) else (some 2))) else (some 2)) else ((Qao.f a0_4 0 1000).bind fun t348 => (if t348 = T then ((Qao.f a0_5 0 1000).bind fun t349 => (if t349 = T then (some 0) else (some 2))) else (some 2)))) else (some 2))) else (some 25))) = some r := by rw [if_pos rfl] at H; exact H
   clear H
   have H := H1
   clear H1
   replace H := Option.bind_eq_some_iff.mp H
   obtain ⟨t344, A90, H⟩ := H
   replace H : (if t344 = T then ((Qao.f a0_3 1 68719476736).bind fun t345 => (if t345 = T then (if a0_1 = 1 then (if a0_3 = 1 then ((Qao.f a0_4 0 1000).bind fun t346 => (if t346 = T then ((Qao.f a0_5 0 1000).bind fun t347 => (if t347 = T then (some 0) else (some 2))) else (some 2))) else (some 2)) else ((Qao.f a0_4 0 1000).bind fun t348 => (if t348 = T then ((Qao.f a0_5 0 1000).bind fun t349 => (if t349 = T then (some 0) else (some 2))) else (some 2)))) else (some 2))) else (some 25)) = some r := H
   have A9 := Aside0.mk A90
   clear A90
   obtain ⟨hcz10_0, hfz10_0⟩ := Zy (v := (.string a0_0)) BK341.out 0
   obtain ⟨hcz10_1, hfz10_1⟩ := Zy (v := (.int .i64 a0_1)) BK341.out 1
   obtain ⟨hcz10_2, hfz10_2⟩ := Zy (v := (.int .i64 a0_2)) BK341.out 2
   obtain ⟨hcz10_3, hfz10_3⟩ := Zy (v := (.int .i64 a0_3)) BK341.out 3
   obtain ⟨hcz10_4, hfz10_4⟩ := Zy (v := (.int .i64 a0_4)) BK341.out 4
   obtain ⟨hcz10_5, hfz10_5⟩ := Zy (v := (.int .i64 a0_5)) BK341.out 5
   go_upto_if 13 with (first | ((with_reducible refine Qaw (f := 104) rfl ?_); refine goesL_ (some 16) rfl rfl Try.func104 (by kernel_rfl) rfl #[.int .i64 a0_2, .int .i64 0, .int .i64 7] rfl (Zl) ?_; (with_reducible refine (Qao.calls a0_2 0 7 t344 _ A9.out).mono ?_); rintro e w' ⟨rfl, ⟨nd, rfl⟩⟩; refine ⟨_, rfl, ?_⟩))
   (try simp only [Act.put, Zj, Zk, Zm])
   by_cases c11 : t344 = T
   ·subst c11
    have H1 : ((Qao.f a0_3 1 68719476736).bind fun t345 => (if t345 = T then (if a0_1 = 1 then (if a0_3 = 1 then ((Qao.f a0_4 0 1000).bind fun t346 => (if t346 = T then ((Qao.f a0_5 0 1000).bind fun t347 => (if t347 = T then (some 0) else (some 2))) else (some 2))) else (some 2)) else ((Qao.f a0_4 0 1000).bind fun t348 => (if t348 = T then ((Qao.f a0_5 0 1000).bind fun t349 => (if t349 = T then (some 0) else (some 2))) else (some 2)))) else (some 2))) = some r := by rw [if_pos rfl] at H; exact H
    clear H
    have H := H1
    clear H1
    replace H := Option.bind_eq_some_iff.mp H
    obtain ⟨t345, A120, H⟩ := H
    replace H : (if t345 = T then (if a0_1 = 1 then (if a0_3 = 1 then ((Qao.f a0_4 0 1000).bind fun t346 => (if t346 = T then ((Qao.f a0_5 0 1000).bind fun t347 => (if t347 = T then (some 0) else (some 2))) else (some 2))) else (some 2)) else ((Qao.f a0_4 0 1000).bind fun t348 => (if t348 = T then ((Qao.f a0_5 0 1000).bind fun t349 => (if t349 = T then (some 0) else (some 2))) else (some 2)))) else (some 2)) = some r := H
    have A12 := Aside0.mk A120
    clear A120
    by_cases c13 : t345 = T
    ·subst c13
     have H1 : (if a0_1 = 1 then (if a0_3 = 1 then ((Qao.f a0_4 0 1000).bind fun t346 => (if t346 = T then ((Qao.f a0_5 0 1000).bind fun t347 => (if t347 = T then (some 0) else (some 2))) else (some 2))) else (some 2)) else ((Qao.f a0_4 0 1000).bind fun t348 => (if t348 = T then ((Qao.f a0_5 0 1000).bind fun t349 => (if t349 = T then (some 0) else (some 2))) else (some 2)))) = some r := by rw [if_pos rfl] at H; exact H
     clear H
     have H := H1
     clear H1
     by_cases c14 : a0_1 = 1
     ·rw [if_pos c14] at H
      have c14b0 : (a0_1 == 1) = T := beq_iff_eq.mpr c14
      have c14b1 : (a0_1 != 1) = F := bne_eq_false_iff_eq.mpr c14
      clear c14
      by_cases c15 : a0_3 = 1
      ·rw [if_pos c15] at H
       have c15b0 : (a0_3 == 1) = T := beq_iff_eq.mpr c15
       have c15b1 : (a0_3 != 1) = F := bne_eq_false_iff_eq.mpr c15
       clear c15
       replace H := Option.bind_eq_some_iff.mp H
       obtain ⟨t346, A160, H⟩ := H
       replace H : (if t346 = T then ((Qao.f a0_5 0 1000).bind fun t347 => (if t347 = T then (some 0) else (some 2))) else (some 2)) = some r := H
       have A16 := Aside0.mk A160
       clear A160
       by_cases c17 : t346 = T
       ·subst c17
        have H1 : ((Qao.f a0_5 0 1000).bind fun t347 => (if t347 = T then (some 0) else (some 2))) = some r := by rw [if_pos rfl] at H; exact H
        clear H
        have H := H1
        clear H1
        replace H := Option.bind_eq_some_iff.mp H
        obtain ⟨t347, A180, H⟩ := H
        replace H : (if t347 = T then (some 0) else (some 2)) = some r := H
        have A18 := Aside0.mk A180
        clear A180
        obtain ⟨hcz19_0, hfz19_0⟩ := Zy (v := (.string a0_0)) BK341.out 0
        obtain ⟨hcz19_1, hfz19_1⟩ := Zy (v := (.int .i64 a0_1)) BK341.out 1
        obtain ⟨hcz19_2, hfz19_2⟩ := Zy (v := (.int .i64 a0_2)) BK341.out 2
        obtain ⟨hcz19_3, hfz19_3⟩ := Zy (v := (.int .i64 a0_3)) BK341.out 3
        obtain ⟨hcz19_4, hfz19_4⟩ := Zy (v := (.int .i64 a0_4)) BK341.out 4
        obtain ⟨hcz19_5, hfz19_5⟩ := Zy (v := (.int .i64 a0_5)) BK341.out 5
        go_upto_if 18 with (first | ((with_reducible refine Qaw (f := 104) rfl ?_); refine goesL_ (some 21) rfl rfl Try.func104 (by kernel_rfl) rfl #[.int .i64 a0_3, .int .i64 1, .int .i64 68719476736] rfl (Zl) ?_; (with_reducible refine (Qao.calls a0_3 1 68719476736 T _ A12.out).mono ?_); rintro e w' ⟨rfl, ⟨nd, rfl⟩⟩; refine ⟨_, rfl, ?_⟩) | (go_at_call 104; (with_reducible refine (Qao.calls a0_4 0 1000 T _ A16.out).mono ?_); rintro e w' ⟨rfl, ⟨nd, rfl⟩⟩) | (go_at_call 104; (with_reducible refine (Qao.calls a0_5 0 1000 t347 _ A18.out).mono ?_); rintro e w' ⟨rfl, ⟨nd, rfl⟩⟩))
        (try simp only [Act.put, Zj, Zk, Zm])
        by_cases c20 : t347 = T
        ·subst c20
         have H1 : (some 0) = some r := by rw [if_pos rfl] at H; exact H
         clear H
         have H := H1
         clear H1
         obtain rfl := Option.some.inj H
         go_wp2
         go_ret
         exact ⟨Zq, Zc1 GE341.out⟩
        replace c20 := Bool.eq_false_iff.mpr c20
        subst c20
        have H1 : (some 2) = some r := by rw [if_neg (show ¬ (F = T) by decide)] at H; exact H
        clear H
        have H := H1
        clear H1
        obtain rfl := Option.some.inj H
        go_wp2
        go_ret
        exact ⟨Zq, Zc1 GE341.out⟩
       replace c17 := Bool.eq_false_iff.mpr c17
       subst c17
       have H1 : (some 2) = some r := by rw [if_neg (show ¬ (F = T) by decide)] at H; exact H
       clear H
       have H := H1
       clear H1
       obtain rfl := Option.some.inj H
       obtain ⟨hcz21_0, hfz21_0⟩ := Zy (v := (.string a0_0)) BK341.out 0
       obtain ⟨hcz21_1, hfz21_1⟩ := Zy (v := (.int .i64 a0_1)) BK341.out 1
       obtain ⟨hcz21_2, hfz21_2⟩ := Zy (v := (.int .i64 a0_2)) BK341.out 2
       obtain ⟨hcz21_3, hfz21_3⟩ := Zy (v := (.int .i64 a0_3)) BK341.out 3
       obtain ⟨hcz21_4, hfz21_4⟩ := Zy (v := (.int .i64 a0_4)) BK341.out 4
       obtain ⟨hcz21_5, hfz21_5⟩ := Zy (v := (.int .i64 a0_5)) BK341.out 5
       go_wp2_with (first | ((with_reducible refine Qaw (f := 104) rfl ?_); refine goesL_ (some 21) rfl rfl Try.func104 (by kernel_rfl) rfl #[.int .i64 a0_3, .int .i64 1, .int .i64 68719476736] rfl (Zl) ?_; (with_reducible refine (Qao.calls a0_3 1 68719476736 T _ A12.out).mono ?_); rintro e w' ⟨rfl, ⟨nd, rfl⟩⟩; refine ⟨_, rfl, ?_⟩) | (go_at_call 104; (with_reducible refine (Qao.calls a0_4 0 1000 F _ A16.out).mono ?_); rintro e w' ⟨rfl, ⟨nd, rfl⟩⟩))
       go_ret
       exact ⟨Zq, Zc1 GE341.out⟩
      rw [if_neg c15] at H
      have c15b0 : (a0_3 == 1) = F := beq_eq_false_iff_ne.mpr c15
      have c15b1 : (a0_3 != 1) = T := bne_iff_ne.mpr c15
      obtain rfl := Option.some.inj H
      obtain ⟨hcz22_0, hfz22_0⟩ := Zy (v := (.string a0_0)) BK341.out 0
      obtain ⟨hcz22_1, hfz22_1⟩ := Zy (v := (.int .i64 a0_1)) BK341.out 1
      obtain ⟨hcz22_2, hfz22_2⟩ := Zy (v := (.int .i64 a0_2)) BK341.out 2
      obtain ⟨hcz22_3, hfz22_3⟩ := Zy (v := (.int .i64 a0_3)) BK341.out 3
      obtain ⟨hcz22_4, hfz22_4⟩ := Zy (v := (.int .i64 a0_4)) BK341.out 4
      obtain ⟨hcz22_5, hfz22_5⟩ := Zy (v := (.int .i64 a0_5)) BK341.out 5
      go_wp2_with (first | ((with_reducible refine Qaw (f := 104) rfl ?_); refine goesL_ (some 21) rfl rfl Try.func104 (by kernel_rfl) rfl #[.int .i64 a0_3, .int .i64 1, .int .i64 68719476736] rfl (Zl) ?_; (with_reducible refine (Qao.calls a0_3 1 68719476736 T _ A12.out).mono ?_); rintro e w' ⟨rfl, ⟨nd, rfl⟩⟩; refine ⟨_, rfl, ?_⟩))
      go_ret
      exact ⟨Zq, Zc1 GE341.out⟩
     rw [if_neg c14] at H
     have c14b0 : (a0_1 == 1) = F := beq_eq_false_iff_ne.mpr c14
     have c14b1 : (a0_1 != 1) = T := bne_iff_ne.mpr c14
     replace H := Option.bind_eq_some_iff.mp H
     obtain ⟨t348, A230, H⟩ := H
     replace H : (if t348 = T then ((Qao.f a0_5 0 1000).bind fun t349 => (if t349 = T then (some 0) else (some 2))) else (some 2)) = some r := H
     have A23 := Aside0.mk A230
     clear A230
     by_cases c24 : t348 = T
     ·subst c24
      have H1 : ((Qao.f a0_5 0 1000).bind fun t349 => (if t349 = T then (some 0) else (some 2))) = some r := by rw [if_pos rfl] at H; exact H
      clear H
      have H := H1
      clear H1
      replace H := Option.bind_eq_some_iff.mp H
      obtain ⟨t349, A250, H⟩ := H
      replace H : (if t349 = T then (some 0) else (some 2)) = some r := H
      have A25 := Aside0.mk A250
      clear A250
      obtain ⟨hcz26_0, hfz26_0⟩ := Zy (v := (.string a0_0)) BK341.out 0
      obtain ⟨hcz26_1, hfz26_1⟩ := Zy (v := (.int .i64 a0_1)) BK341.out 1
      obtain ⟨hcz26_2, hfz26_2⟩ := Zy (v := (.int .i64 a0_2)) BK341.out 2
      obtain ⟨hcz26_3, hfz26_3⟩ := Zy (v := (.int .i64 a0_3)) BK341.out 3
      obtain ⟨hcz26_4, hfz26_4⟩ := Zy (v := (.int .i64 a0_4)) BK341.out 4
      obtain ⟨hcz26_5, hfz26_5⟩ := Zy (v := (.int .i64 a0_5)) BK341.out 5
      go_upto_if 18 with (first | ((with_reducible refine Qaw (f := 104) rfl ?_); refine goesL_ (some 21) rfl rfl Try.func104 (by kernel_rfl) rfl #[.int .i64 a0_3, .int .i64 1, .int .i64 68719476736] rfl (Zl) ?_; (with_reducible refine (Qao.calls a0_3 1 68719476736 T _ A12.out).mono ?_); rintro e w' ⟨rfl, ⟨nd, rfl⟩⟩; refine ⟨_, rfl, ?_⟩) | (go_at_call 104; (with_reducible refine (Qao.calls a0_4 0 1000 T _ A23.out).mono ?_); rintro e w' ⟨rfl, ⟨nd, rfl⟩⟩) | (go_at_call 104; (with_reducible refine (Qao.calls a0_5 0 1000 t349 _ A25.out).mono ?_); rintro e w' ⟨rfl, ⟨nd, rfl⟩⟩))
      (try simp only [Act.put, Zj, Zk, Zm])
      by_cases c27 : t349 = T
      ·subst c27
       have H1 : (some 0) = some r := by rw [if_pos rfl] at H; exact H
       clear H
       have H := H1
       clear H1
       obtain rfl := Option.some.inj H
       go_wp2
       go_ret
       exact ⟨Zq, Zc1 GE341.out⟩
      replace c27 := Bool.eq_false_iff.mpr c27
      subst c27
      have H1 : (some 2) = some r := by rw [if_neg (show ¬ (F = T) by decide)] at H; exact H
      clear H
      have H := H1
      clear H1
      obtain rfl := Option.some.inj H
      go_wp2
      go_ret
      exact ⟨Zq, Zc1 GE341.out⟩
     replace c24 := Bool.eq_false_iff.mpr c24
     subst c24
     have H1 : (some 2) = some r := by rw [if_neg (show ¬ (F = T) by decide)] at H; exact H
     clear H
     have H := H1
     clear H1
     obtain rfl := Option.some.inj H
     obtain ⟨hcz28_0, hfz28_0⟩ := Zy (v := (.string a0_0)) BK341.out 0
     obtain ⟨hcz28_1, hfz28_1⟩ := Zy (v := (.int .i64 a0_1)) BK341.out 1
     obtain ⟨hcz28_2, hfz28_2⟩ := Zy (v := (.int .i64 a0_2)) BK341.out 2
     obtain ⟨hcz28_3, hfz28_3⟩ := Zy (v := (.int .i64 a0_3)) BK341.out 3
     obtain ⟨hcz28_4, hfz28_4⟩ := Zy (v := (.int .i64 a0_4)) BK341.out 4
     obtain ⟨hcz28_5, hfz28_5⟩ := Zy (v := (.int .i64 a0_5)) BK341.out 5
     go_wp2_with (first | ((with_reducible refine Qaw (f := 104) rfl ?_); refine goesL_ (some 21) rfl rfl Try.func104 (by kernel_rfl) rfl #[.int .i64 a0_3, .int .i64 1, .int .i64 68719476736] rfl (Zl) ?_; (with_reducible refine (Qao.calls a0_3 1 68719476736 T _ A12.out).mono ?_); rintro e w' ⟨rfl, ⟨nd, rfl⟩⟩; refine ⟨_, rfl, ?_⟩) | (go_at_call 104; (with_reducible refine (Qao.calls a0_4 0 1000 F _ A23.out).mono ?_); rintro e w' ⟨rfl, ⟨nd, rfl⟩⟩))
     go_ret
     exact ⟨Zq, Zc1 GE341.out⟩
    replace c13 := Bool.eq_false_iff.mpr c13
    subst c13
    have H1 : (some 2) = some r := by rw [if_neg (show ¬ (F = T) by decide)] at H; exact H
    clear H
    have H := H1
    clear H1
    obtain rfl := Option.some.inj H
    obtain ⟨hcz29_0, hfz29_0⟩ := Zy (v := (.string a0_0)) BK341.out 0
    obtain ⟨hcz29_1, hfz29_1⟩ := Zy (v := (.int .i64 a0_1)) BK341.out 1
    obtain ⟨hcz29_2, hfz29_2⟩ := Zy (v := (.int .i64 a0_2)) BK341.out 2
    obtain ⟨hcz29_3, hfz29_3⟩ := Zy (v := (.int .i64 a0_3)) BK341.out 3
    obtain ⟨hcz29_4, hfz29_4⟩ := Zy (v := (.int .i64 a0_4)) BK341.out 4
    obtain ⟨hcz29_5, hfz29_5⟩ := Zy (v := (.int .i64 a0_5)) BK341.out 5
    go_wp2_with (first | ((with_reducible refine Qaw (f := 104) rfl ?_); refine goesL_ (some 21) rfl rfl Try.func104 (by kernel_rfl) rfl #[.int .i64 a0_3, .int .i64 1, .int .i64 68719476736] rfl (Zl) ?_; (with_reducible refine (Qao.calls a0_3 1 68719476736 F _ A12.out).mono ?_); rintro e w' ⟨rfl, ⟨nd, rfl⟩⟩; refine ⟨_, rfl, ?_⟩))
    go_ret
    exact ⟨Zq, Zc1 GE341.out⟩
   replace c11 := Bool.eq_false_iff.mpr c11
   subst c11
   have H1 : (some 25) = some r := by rw [if_neg (show ¬ (F = T) by decide)] at H; exact H
   clear H
   have H := H1
   clear H1
   obtain rfl := Option.some.inj H
   go_wp2
   go_ret
   exact ⟨Zq, Zc1 GE341.out⟩
  replace c8 := Bool.eq_false_iff.mpr c8
  subst c8
  have H1 : (some 2) = some r := by rw [if_neg (show ¬ (F = T) by decide)] at H; exact H
  clear H
  have H := H1
  clear H1
  obtain rfl := Option.some.inj H
  go_wp2
  go_ret
  exact ⟨Zq, Zc1 GE341.out⟩
 replace c5 := Bool.eq_false_iff.mpr c5
 subst c5
 have H1 : (some 10) = some r := by rw [if_neg (show ¬ (F = T) by decide)] at H; exact H
 clear H
 have H := H1
 clear H1
 obtain rfl := Option.some.inj H
 go_wp2
 go_ret
 exact ⟨Zq, Zc1 GE341.out⟩
def Qbo.f (a0 : Int) : Option (Bool) := if a0 ≥ (-1152921504606846976) then (some (decide (a0 ≤ 1152921504606846976))) else (some F)
set_option maxHeartbeats 8000000 in
theorem Qbo.calls (a0 : Int) (r : Bool) (w : World) (h : Qbo.f a0 = some r) :
  Calls Try.prog 93 #[.int .i64 a0] w fun e w' => e = .returned (.bool r) ∧ Drawn0 w w' := by
 have H : (if a0 ≥ (-1152921504606846976) then (some (decide (a0 ≤ 1152921504606846976))) else (some F)) = some r := h
 clear h
 by_cases c2 : a0 ≥ (-1152921504606846976)
 ·rw [if_pos c2] at H
  have c2b0 : decide ((-1152921504606846976) ≤ a0) = T := decide_eq_true c2
  clear c2
  obtain rfl := Option.some.inj H
  go_enter Try.func93, Try.ntmps93
  go_wp2
  go_ret
  exact ⟨Zs, Zd⟩
 rw [if_neg c2] at H
 have c2b0 : decide ((-1152921504606846976) ≤ a0) = F := decide_eq_false c2
 clear c2
 obtain rfl := Option.some.inj H
 go_enter Try.func93, Try.ntmps93
 go_wp2
 go_ret
 exact ⟨Zs, Zd⟩
def QaX.j0 : Nat → Int → Int → Bool → Option (Int × Int)
 | 0, _, _, _ => none
 | k + 1, x0, x1, x13 => if x13 = T then (some (0, 2)) else (if x0 = 0 then (some (wrap64 (x0 * x1), 0)) else ((Qbr.f x1).bind fun t352 => ((Qbr.f x0).bind fun t353 => (if t353 = 0 then (none) else (if t352 > (wrap64 (Int.tdiv (1152921504606846976 : Int) t353)) then (some (0, 3)) else (some (wrap64 (x0 * x1), 0)))))))
def QaX.f (k : Nat) (a0 : Int) (a1 : Int) : Option (Int × Int) := (Qbo.f a0).bind fun t350 => (if t350 = T then ((Qbo.f a1).bind fun t351 => (QaX.j0 k a0 a1 (!t351))) else (QaX.j0 k a0 a1 T))
theorem QaX.mono_l : ∀ k, (∀ y0 y1 y2, LeO (QaX.j0 k y0 y1 y2) (QaX.j0 (k + 1) y0 y1 y2))
 | 0 => fun _ _ _ r h => by simp [QaX.j0] at h
 | k + 1 => by
  have ih0 := QaX.mono_l k
  intro y0 y1 y2
  unfold QaX.j0
  exact ZM1 ih0
theorem QaX.mono : ∀ a0 a1 k, LeO (QaX.f k a0 a1) (QaX.f (k + 1) a0 a1) := by
 intro a0 a1 k
 have ih0 := QaX.mono_l k
 unfold QaX.f
 exact ZM1 ih0
set_option maxHeartbeats 8000000 in
theorem QaX.calls (k : Nat) (a0 : Int) (a1 : Int) (r1 : Int) (r2 : Int) (w : World) (h : QaX.f k a0 a1 = some (r1, r2)) :
  Calls Try.prog 105 #[.int .i64 a0, .int .i64 a1] w fun e w' => e = .returned (.tuple #[.int .i64 r1, .int .i64 r2]) ∧ Drawn0 w w' := by
 have H : ((Qbo.f a0).bind fun t350 => (if t350 = T then ((Qbo.f a1).bind fun t351 => (QaX.j0 k a0 a1 (!t351))) else (QaX.j0 k a0 a1 T))) = some (r1, r2) := h
 clear h
 have HC3 := Aside0.mk H
 clear H
 go_enter Try.func105, Try.ntmps105
 go_upto_region 1 with (fail)
 go_cut [13] (fun v13 wc => ∃ (kq : Nat) (x13_2 : Bool), v13 = .bool x13_2 ∧ Aside0 (QaX.j0 kq a0 a1 x13_2 = some (r1, r2)) ∧ Aside0 (kq ≤ k) ∧ Drawn0 w wc)
 case first =>
  have H := HC3.out
  clear HC3
  replace H := Option.bind_eq_some_iff.mp H
  obtain ⟨t350, A40, H⟩ := H
  replace H : (if t350 = T then ((Qbo.f a1).bind fun t351 => (QaX.j0 k a0 a1 (!t351))) else (QaX.j0 k a0 a1 T)) = some (r1, r2) := H
  have A4 := Aside0.mk A40
  clear A40
  by_cases c5 : t350 = T
  ·subst c5
   have H1 : ((Qbo.f a1).bind fun t351 => (QaX.j0 k a0 a1 (!t351))) = some (r1, r2) := by rw [if_pos rfl] at H; exact H
   clear H
   have H := H1
   clear H1
   replace H := Option.bind_eq_some_iff.mp H
   obtain ⟨t351, A60, H⟩ := H
   replace H : (QaX.j0 k a0 a1 (!t351)) = some (r1, r2) := H
   have A6 := Aside0.mk A60
   clear A60
   have H' := Aside0.mk H
   clear H
   go_wp2_with (first | ((with_reducible refine Qaw (f := 93) rfl ?_); refine goesL_ (some 7) rfl rfl Try.func93 (by kernel_rfl) rfl #[.int .i64 a0] rfl (Zl) ?_; (with_reducible refine (Qbo.calls a0 T _ A4.out).mono ?_); rintro e w' ⟨rfl, ⟨nd, rfl⟩⟩; refine ⟨_, rfl, ?_⟩) | (go_at_call 93; (with_reducible refine (Qbo.calls a1 t351 _ A6.out).mono ?_); rintro e w' ⟨rfl, ⟨nd, rfl⟩⟩))
   go_meet
   case rel => exact ⟨_, (!t351), (Zs), H', ⟨by first | omega | exact Nat.le_refl _⟩, Zd⟩
  replace c5 := Bool.eq_false_iff.mpr c5
  subst c5
  have H1 : (QaX.j0 k a0 a1 T) = some (r1, r2) := by rw [if_neg (show ¬ (F = T) by decide)] at H; exact H
  clear H
  have H := H1
  clear H1
  have H' := Aside0.mk H
  clear H
  go_wp2_with (first | ((with_reducible refine Qaw (f := 93) rfl ?_); refine goesL_ (some 7) rfl rfl Try.func93 (by kernel_rfl) rfl #[.int .i64 a0] rfl (Zl) ?_; (with_reducible refine (Qbo.calls a0 F _ A4.out).mono ?_); rintro e w' ⟨rfl, ⟨nd, rfl⟩⟩; refine ⟨_, rfl, ?_⟩))
  go_meet
  case rel => exact ⟨_, (T), (Zs), H', ⟨by first | omega | exact Nat.le_refl _⟩, Zd⟩
 case rest =>
  clear HC3
  try clear c1
  try clear p2
  try clear c5
  obtain ⟨kq, x13_2, rfl, HA, HJ2, ⟨mc2, rfl⟩⟩ := hcut
  cases kq with
  | zero => exact absurd HA.out (by simp [QaX.j0])
  | succ kj2 =>
   have H := HA.out
   clear HA
   simp only [QaX.j0] at H
   by_cases c7 : x13_2 = T
   ·subst c7
    have H1 : (some (0, 2)) = some (r1, r2) := by rw [if_pos rfl] at H; exact H
    clear H
    have H := H1
    clear H1
    simp only [Option.some.injEq, Prod.mk.injEq] at H
    obtain ⟨rfl, rfl⟩ := H
    go_wp2
    go_ret2
    exact ⟨Zs, Zd⟩
   replace c7 := Bool.eq_false_iff.mpr c7
   subst c7
   have H1 : (if a0 = 0 then (some (wrap64 (a0 * a1), 0)) else ((Qbr.f a1).bind fun t352 => ((Qbr.f a0).bind fun t353 => (if t353 = 0 then (none) else (if t352 > (wrap64 (Int.tdiv (1152921504606846976 : Int) t353)) then (some (0, 3)) else (some (wrap64 (a0 * a1), 0))))))) = some (r1, r2) := by rw [if_neg (show ¬ (F = T) by decide)] at H; exact H
   clear H
   have H := H1
   clear H1
   by_cases c8 : a0 = 0
   ·rw [if_pos c8] at H
    have c8b0 : (a0 == 0) = T := beq_iff_eq.mpr c8
    have c8b1 : (a0 != 0) = F := bne_eq_false_iff_eq.mpr c8
    clear c8
    simp only [Option.some.injEq, Prod.mk.injEq] at H
    obtain ⟨rfl, rfl⟩ := H
    go_wp2
    go_ret2
    exact ⟨Zs, Zd⟩
   rw [if_neg c8] at H
   have c8b0 : (a0 == 0) = F := beq_eq_false_iff_ne.mpr c8
   have c8b1 : (a0 != 0) = T := bne_iff_ne.mpr c8
   replace H := Option.bind_eq_some_iff.mp H
   obtain ⟨t352, A90, H⟩ := H
   replace H : ((Qbr.f a0).bind fun t353 => (if t353 = 0 then (none) else (if t352 > (wrap64 (Int.tdiv (1152921504606846976 : Int) t353)) then (some (0, 3)) else (some (wrap64 (a0 * a1), 0))))) = some (r1, r2) := H
   have A9 := Aside0.mk A90
   clear A90
   replace H := Option.bind_eq_some_iff.mp H
   obtain ⟨t353, A100, H⟩ := H
   replace H : (if t353 = 0 then (none) else (if t352 > (wrap64 (Int.tdiv (1152921504606846976 : Int) t353)) then (some (0, 3)) else (some (wrap64 (a0 * a1), 0)))) = some (r1, r2) := H
   have A10 := Aside0.mk A100
   clear A100
   by_cases c11 : t353 = 0
   ·rw [if_pos c11] at H
    exact absurd H (by simp)
   rw [if_neg c11] at H
   have c11b0 : (t353 == 0) = F := beq_eq_false_iff_ne.mpr c11
   have c11b1 : (t353 != 0) = T := bne_iff_ne.mpr c11
   go_upto_if 23 with (first | (go_at_call 95; (with_reducible refine (Qbr.calls a1 t352 _ A9.out).mono ?_); rintro e w' ⟨rfl, ⟨nd, rfl⟩⟩) | (go_at_call 95; (with_reducible refine (Qbr.calls a0 t353 _ A10.out).mono ?_); rintro e w' ⟨rfl, ⟨nd, rfl⟩⟩))
   (try simp only [Act.put, Zj, Zk, Zm])
   by_cases c12 : t352 > (wrap64 (Int.tdiv (1152921504606846976 : Int) t353))
   ·rw [if_pos c12] at H
    have c12b0 : decide ((wrap64 (Int.tdiv (1152921504606846976 : Int) t353)) < t352) = T := decide_eq_true c12
    clear c12
    (try simp only [c12b0])
    simp only [Option.some.injEq, Prod.mk.injEq] at H
    obtain ⟨rfl, rfl⟩ := H
    go_wp2
    go_ret2
    exact ⟨Zs, Zd⟩
   rw [if_neg c12] at H
   have c12b0 : decide ((wrap64 (Int.tdiv (1152921504606846976 : Int) t353)) < t352) = F := decide_eq_false c12
   clear c12
   (try simp only [c12b0])
   simp only [Option.some.injEq, Prod.mk.injEq] at H
   obtain ⟨rfl, rfl⟩ := H
   go_wp2
   go_ret2
   exact ⟨Zs, Zd⟩
def Qbv.f (k : Nat) (a0_0 : ByteArray) (a0_1 : Int) (a0_2 : Int) (a0_3 : Int) (a0_4 : Int) (a0_5 : Int) (a1 : Int) : Option (Int × Int) := (Qbd.f k a0_0 a0_1 a0_2 a0_3 a0_4 a0_5).bind fun t355 => (if t355 = 0 then ((Qao.f a1 0 1152921504606846976).bind fun t356 => (if t356 = T then ((QaX.f k a1 a0_3).bind fun bt357 => (some (bt357.1, bt357.2))) else (some (0, 18)))) else (some (0, t355)))
theorem Qbv.mono : ∀ a0 a1 a2 a3 a4 a5 a6 k, LeO (Qbv.f k a0 a1 a2 a3 a4 a5 a6) (Qbv.f (k + 1) a0 a1 a2 a3 a4 a5 a6) := by
 intro a0 a1 a2 a3 a4 a5 a6 k
 unfold Qbv.f
 exact ZM2 QaX.mono Qbd.mono
set_option maxHeartbeats 8000000 in
theorem Qbv.calls (k : Nat) (a0_0 : ByteArray) (a0_1 : Int) (a0_2 : Int) (a0_3 : Int) (a0_4 : Int) (a0_5 : Int) (a1 : Int) (r1 : Int) (r2 : Int) (w : World) (h : Qbv.f k a0_0 a0_1 a0_2 a0_3 a0_4 a0_5 a1 = some (r1, r2)) :
  Calls Try.prog 69 #[.agg #[.string a0_0, .int .i64 a0_1, .int .i64 a0_2, .int .i64 a0_3, .int .i64 a0_4, .int .i64 a0_5], .int .i64 a1] w fun e w' => e = .returned (.tuple #[.int .i64 r1, .int .i64 r2]) ∧ Below w.heap.size w w' := by
 have hu84 := Try.underlying84
 have HB := Aside0.mk (Below.refl w.heap.size w)
 have H : ((Qbd.f k a0_0 a0_1 a0_2 a0_3 a0_4 a0_5).bind fun t355 => (if t355 = 0 then ((Qao.f a1 0 1152921504606846976).bind fun t356 => (if t356 = T then ((QaX.f k a1 a0_3).bind fun bt357 => (some (bt357.1, bt357.2))) else (some (0, 18)))) else (some (0, t355)))) = some (r1, r2) := h
 clear h
 replace H := Option.bind_eq_some_iff.mp H
 obtain ⟨t355, A30, H⟩ := H
 replace H : (if t355 = 0 then ((Qao.f a1 0 1152921504606846976).bind fun t356 => (if t356 = T then ((QaX.f k a1 a0_3).bind fun bt357 => (some (bt357.1, bt357.2))) else (some (0, 18)))) else (some (0, t355))) = some (r1, r2) := H
 have A3 := Aside0.mk A30
 clear A30
 go_enter Try.func69, Try.ntmps69
 go_upto_if 10 with (first | ((with_reducible refine QaL (N := 2) rfl ?_); refine Zbx (N := 2) (cs := #[.string a0_0, .int .i64 a0_1, .int .i64 a0_2, .int .i64 a0_3, .int .i64 a0_4, .int .i64 a0_5]) (t := 84) ?_; intro gb354 hg w4 hbox hb; have BK354 := Aside0.mk (hbox); have GW354 := Aside0.mk (Zt w hg (Zb)); have GE354 := GW354; replace HB := Aside0.mk (Qan (Zb) hb); clear hb hbox hg; obtain ⟨hcz5_0, hfz5_0⟩ := Zy (v := (.string a0_0)) BK354.out 0; obtain ⟨hcz5_1, hfz5_1⟩ := Zy (v := (.int .i64 a0_1)) BK354.out 1; obtain ⟨hcz5_2, hfz5_2⟩ := Zy (v := (.int .i64 a0_2)) BK354.out 2; obtain ⟨hcz5_3, hfz5_3⟩ := Zy (v := (.int .i64 a0_3)) BK354.out 3; obtain ⟨hcz5_4, hfz5_4⟩ := Zy (v := (.int .i64 a0_4)) BK354.out 4; obtain ⟨hcz5_5, hfz5_5⟩ := Zy (v := (.int .i64 a0_5)) BK354.out 5) | ((with_reducible refine Qaw (f := 102) rfl ?_); refine goesL_ (some 8) rfl rfl Try.func102 (by kernel_rfl) rfl #[.agg #[.string a0_0, .int .i64 a0_1, .int .i64 a0_2, .int .i64 a0_3, .int .i64 a0_4, .int .i64 a0_5]] rfl (Zl) ?_; (with_reducible refine (Qbd.calls k a0_0 a0_1 a0_2 a0_3 a0_4 a0_5 t355 _ A3.out).mono ?_); rintro e w6 ⟨rfl, hb⟩; refine ⟨_, rfl, ?_⟩; replace BK354 := Aside0.mk (Zi BK354.out hb); replace HB := Aside0.mk (Qan (Zc1 GE354.out) hb); (try clear hb); (try clear hb2); (try clear hk); (try clear hi)))
 (try simp only [Act.put, Zj, Zk, Zm])
 by_cases c7 : t355 = 0
 ·rw [if_pos c7] at H
  have c7b0 : (t355 == 0) = T := beq_iff_eq.mpr c7
  have c7b1 : (t355 != 0) = F := bne_eq_false_iff_eq.mpr c7
  clear c7
  (try simp only [c7b0, c7b1])
  replace H := Option.bind_eq_some_iff.mp H
  obtain ⟨t356, A80, H⟩ := H
  replace H : (if t356 = T then ((QaX.f k a1 a0_3).bind fun bt357 => (some (bt357.1, bt357.2))) else (some (0, 18))) = some (r1, r2) := H
  have A8 := Aside0.mk A80
  clear A80
  go_upto_if 14 with (first | ((with_reducible refine Qaw (f := 104) rfl ?_); refine goesL_ (some 13) rfl rfl Try.func104 (by kernel_rfl) rfl #[.int .i64 a1, .int .i64 0, .int .i64 1152921504606846976] rfl (Zl) ?_; (with_reducible refine (Qao.calls a1 0 1152921504606846976 t356 _ A8.out).mono ?_); rintro e w' ⟨rfl, ⟨nd, rfl⟩⟩; refine ⟨_, rfl, ?_⟩))
  (try simp only [Act.put, Zj, Zk, Zm])
  by_cases c9 : t356 = T
  ·subst c9
   have H1 : ((QaX.f k a1 a0_3).bind fun bt357 => (some (bt357.1, bt357.2))) = some (r1, r2) := by rw [if_pos rfl] at H; exact H
   clear H
   have H := H1
   clear H1
   replace H := Option.bind_eq_some_iff.mp H
   obtain ⟨⟨t357, t358⟩, A100, H⟩ := H
   replace H : (some (t357, t358)) = some (r1, r2) := H
   have A10 := Aside0.mk A100
   clear A100
   simp only [Option.some.injEq, Prod.mk.injEq] at H
   obtain ⟨rfl, rfl⟩ := H
   obtain ⟨hcz11_0, hfz11_0⟩ := Zy (v := (.string a0_0)) BK354.out 0
   obtain ⟨hcz11_1, hfz11_1⟩ := Zy (v := (.int .i64 a0_1)) BK354.out 1
   obtain ⟨hcz11_2, hfz11_2⟩ := Zy (v := (.int .i64 a0_2)) BK354.out 2
   obtain ⟨hcz11_3, hfz11_3⟩ := Zy (v := (.int .i64 a0_3)) BK354.out 3
   obtain ⟨hcz11_4, hfz11_4⟩ := Zy (v := (.int .i64 a0_4)) BK354.out 4
   obtain ⟨hcz11_5, hfz11_5⟩ := Zy (v := (.int .i64 a0_5)) BK354.out 5
   go_wp2_with (first | ((with_reducible refine Qaw (f := 105) rfl ?_); refine goesL_ (some 18) rfl rfl Try.func105 (by kernel_rfl) rfl #[.int .i64 a1, .int .i64 a0_3] rfl (Zl) ?_; (with_reducible refine (QaX.calls k a1 a0_3 t357 t358 _ A10.out).mono ?_); rintro e w' ⟨rfl, ⟨nd, rfl⟩⟩; refine ⟨_, rfl, ?_⟩))
   go_ret2
   exact ⟨Zq, Zc1 GE354.out⟩
  replace c9 := Bool.eq_false_iff.mpr c9
  subst c9
  have H1 : (some (0, 18)) = some (r1, r2) := by rw [if_neg (show ¬ (F = T) by decide)] at H; exact H
  clear H
  have H := H1
  clear H1
  simp only [Option.some.injEq, Prod.mk.injEq] at H
  obtain ⟨rfl, rfl⟩ := H
  go_wp2
  go_ret2
  exact ⟨Zq, Zc1 GE354.out⟩
 rw [if_neg c7] at H
 have c7b0 : (t355 == 0) = F := beq_eq_false_iff_ne.mpr c7
 have c7b1 : (t355 != 0) = T := bne_iff_ne.mpr c7
 (try simp only [c7b0, c7b1])
 simp only [Option.some.injEq, Prod.mk.injEq] at H
 obtain ⟨rfl, rfl⟩ := H
 go_wp2
 go_ret2
 exact ⟨Zq, Zc1 GE354.out⟩
def QaO.l0 : Nat → List (S98) → ByteArray → Int → Option (Int × Bool)
 | 0, _, _, _ => none
 | k + 1, x0, x1, x6 => if x6 < (x0.length : Int) then (if 0 ≤ x6 then (if ((rd_T98 x0 x6).f0).toList = x1.toList then (some (x6, T)) else (QaO.l0 k x0 x1 (wrap64 (x6 + 1)))) else (none)) else (some (0, F))
def QaO.f (k : Nat) (l0 : List (S98)) (a1 : ByteArray) : Option (Int × Bool) := QaO.l0 k l0 a1 0
theorem QaO.mono_l : ∀ k, (∀ y0 y1 y2, LeO (QaO.l0 k y0 y1 y2) (QaO.l0 (k + 1) y0 y1 y2))
 | 0 => fun _ _ _ r h => by simp [QaO.l0] at h
 | k + 1 => by
  have ih0 := QaO.mono_l k
  intro y0 y1 y2
  unfold QaO.l0
  exact ZM1 ih0
theorem QaO.mono : ∀ a0 a1 k, LeO (QaO.f k a0 a1) (QaO.f (k + 1) a0 a1) := by
 intro a0 a1 k
 have ih0 := QaO.mono_l k
 unfold QaO.f
 exact ZM1 ih0
set_option maxHeartbeats 8000000 in
theorem QaO.calls (k : Nat) (A0 : Option Addr) (c0 : Nat) (l0 : List (S98)) (a1 : ByteArray) (r1 : Int) (r2 : Bool) (w : World) (hr0 : Kd.C k98 w A0 l0.length l0) (hc0 : l0.length ≤ c0) (h : QaO.f k l0 a1 = some (r1, r2)) :
  Calls Try.prog 128 #[.slice A0 l0.length c0, .string a1] w fun e w' => e = .returned (.tuple #[.int .i64 r1, .bool r2]) ∧ Drawn0 w w' := by
 have HR0 := Aside0.mk hr0
 have HC0 := Aside0.mk hc0
 clear hr0 hc0
 have H : (QaO.l0 k l0 a1 0) = some (r1, r2) := h
 clear h
 have H' := Aside0.mk H
 clear H
 go_enter Try.func128, Try.ntmps128
 go_wp2
 go_loopg [6] k (fun kq v6 w' => ∃ (x6_1 : Int), v6 = .int .i64 x6_1 ∧ Aside0 (QaO.l0 kq l0 a1 x6_1 = some (r1, r2)) ∧ Aside0 (kq ≤ k) ∧ Drawn0 w w')
 case atStart => exact ⟨(0), (Zs), H', ⟨Nat.le_refl _⟩, Zd⟩
 case round =>
  clear H'
  try clear c1
  try clear p2
  obtain ⟨x6_1, rfl, HA, HK1, ⟨m1, rfl⟩⟩ := hrel
  cases gk with
  | zero => exact absurd HA.out (by simp [QaO.l0])
  | succ k1 =>
   have H := HA.out
   clear HA
   simp only [QaO.l0] at H
   by_cases c3 : x6_1 < (l0.length : Int)
   ·rw [if_pos c3] at H
    have c3b0 : decide (x6_1 < (l0.length : Int)) = T := decide_eq_true c3
    clear c3
    (try simp only [c3b0])
    by_cases c4 : 0 ≤ x6_1
    ·rw [if_pos c4] at H
     have c4b0 : decide (0 ≤ x6_1) = T := decide_eq_true c4
     clear c4
     have p359 : 0 ≤ (x6_1 : Int) := Ze
     have q359 : x6_1 < (l0.length : Int) := Ze
     obtain ⟨ad359, e359, hx359_0, hx359_1⟩ := at_T98 HR0.out x6_1 p359 q359
     cases e359
     replace p359 := eq_true p359
     replace q359 := eq_true q359
     go_upto_if 19 with (fail)
     by_cases c5 : ((rd_T98 l0 x6_1).f0).toList = a1.toList
     ·rw [if_pos c5] at H
      have c5b0 : (((rd_T98 l0 x6_1).f0).toList == a1.toList) = T := beq_iff_eq.mpr c5
      have c5b1 : (((rd_T98 l0 x6_1).f0).toList != a1.toList) = F := bne_eq_false_iff_eq.mpr c5
      clear c5
      (try simp only [c5b0, c5b1])
      simp only [Option.some.injEq, Prod.mk.injEq] at H
      obtain ⟨rfl, rfl⟩ := H
      go_wp2
      go_ret2
      exact ⟨Zs, Zd⟩
     rw [if_neg c5] at H
     have c5b0 : (((rd_T98 l0 x6_1).f0).toList == a1.toList) = F := beq_eq_false_iff_ne.mpr c5
     have c5b1 : (((rd_T98 l0 x6_1).f0).toList != a1.toList) = T := bne_iff_ne.mpr c5
     (try simp only [c5b0, c5b1])
     have H' := Aside0.mk H
     clear H
     go_wp2
     go_roundg k1
     case measure => have := HK1.out; omega
     case rel => exact ⟨(wrap64 (x6_1 + 1)), (Zs), H', ⟨by have := HK1.out; omega⟩, Zd⟩
    rw [if_neg c4] at H
    exact absurd H (by simp)
   rw [if_neg c3] at H
   have c3b0 : decide (x6_1 < (l0.length : Int)) = F := decide_eq_false c3
   clear c3
   (try simp only [c3b0])
   simp only [Option.some.injEq, Prod.mk.injEq] at H
   obtain ⟨rfl, rfl⟩ := H
   go_wp2
   go_ret2
   exact ⟨Zs, Zd⟩
def QaP.l0 : Nat → List Int → Int → Int → Int → Option (Int × Int)
 | 0, _, _, _, _ => none
 | k + 1, x0, x4, x5, x6 => if x6 < (x0.length : Int) then (if 0 ≤ x6 then ((Qbo.f (rd x0 x6)).bind fun t383 => (if t383 = T then (QaP.l0 k x0 (wrap64 (x4 + (wrap64 (Int.tdiv (rd x0 x6) 1073741824)))) (wrap64 (x5 + (Int.tmod (rd x0 x6) 1073741824))) (wrap64 (x6 + 1))) else (some (0, 2)))) else (none)) else (if (wrap64 (x4 + (wrap64 (Int.tdiv x5 1073741824)))) < (-1073741825) then (some (0, 3)) else (if (wrap64 (x4 + (wrap64 (Int.tdiv x5 1073741824)))) > 1073741825 then (some (0, 3)) else ((Qbo.f (wrap64 ((wrap64 ((wrap64 (x4 + (wrap64 (Int.tdiv x5 1073741824)))) * 1073741824)) + (Int.tmod x5 1073741824)))).bind fun t386 => (if t386 = T then (some (wrap64 ((wrap64 ((wrap64 (x4 + (wrap64 (Int.tdiv x5 1073741824)))) * 1073741824)) + (Int.tmod x5 1073741824)), 0)) else (some (0, 3))))))
def QaP.f (k : Nat) (l0 : List Int) : Option (Int × Int) := QaP.l0 k l0 0 0 0
theorem QaP.mono_l : ∀ k, (∀ y0 y1 y2 y3, LeO (QaP.l0 k y0 y1 y2 y3) (QaP.l0 (k + 1) y0 y1 y2 y3))
 | 0 => fun _ _ _ _ r h => by simp [QaP.l0] at h
 | k + 1 => by
  have ih0 := QaP.mono_l k
  intro y0 y1 y2 y3
  unfold QaP.l0
  exact ZM1 ih0
theorem QaP.mono : ∀ a0 k, LeO (QaP.f k a0) (QaP.f (k + 1) a0) := by
 intro a0 k
 have ih0 := QaP.mono_l k
 unfold QaP.f
 exact ZM1 ih0
set_option maxHeartbeats 8000000 in
theorem QaP.calls (k : Nat) (A0 : Option Addr) (c0 : Nat) (l0 : List Int) (r1 : Int) (r2 : Int) (w : World) (hr0 : Kd.C (Kd.int .i64) w A0 l0.length l0) (hc0 : l0.length ≤ c0) (h : QaP.f k l0 = some (r1, r2)) :
  Calls Try.prog 60 #[.slice A0 l0.length c0] w fun e w' => e = .returned (.tuple #[.int .i64 r1, .int .i64 r2]) ∧ Drawn0 w w' := by
 have HR0 := Aside0.mk hr0
 have HC0 := Aside0.mk hc0
 clear hr0 hc0
 have H : (QaP.l0 k l0 0 0 0) = some (r1, r2) := h
 clear h
 have H' := Aside0.mk H
 clear H
 go_enter Try.func60, Try.ntmps60
 go_wp2
 go_loopg [4, 5, 6] k (fun kq v4 v5 v6 w' => ∃ (x4_1 : Int) (x5_1 : Int) (x6_1 : Int), v4 = .int .i64 x4_1 ∧ v5 = .int .i64 x5_1 ∧ v6 = .int .i64 x6_1 ∧ Aside0 (QaP.l0 kq l0 x4_1 x5_1 x6_1 = some (r1, r2)) ∧ Aside0 (kq ≤ k) ∧ Drawn0 w w')
 case atStart => exact ⟨(0), (0), (0), (Zs), (Zs), (Zs), H', ⟨Nat.le_refl _⟩, Zd⟩
 case round =>
  clear H'
  obtain ⟨x4_1, x5_1, x6_1, rfl, rfl, rfl, HA, HK1, ⟨m1, rfl⟩⟩ := hrel
  cases gk with
  | zero => exact absurd HA.out (by simp [QaP.l0])
  | succ k1 =>
   have H := HA.out
   clear HA
   simp only [QaP.l0] at H
   by_cases c2 : x6_1 < (l0.length : Int)
   ·rw [if_pos c2] at H
    have c2b0 : decide (x6_1 < (l0.length : Int)) = T := decide_eq_true c2
    clear c2
    (try simp only [c2b0])
    by_cases c3 : 0 ≤ x6_1
    ·rw [if_pos c3] at H
     have c3b0 : decide (0 ≤ x6_1) = T := decide_eq_true c3
     clear c3
     replace H := Option.bind_eq_some_iff.mp H
     obtain ⟨t383, A40, H⟩ := H
     replace H : (if t383 = T then (QaP.l0 k1 l0 (wrap64 (x4_1 + (wrap64 (Int.tdiv (rd l0 x6_1) 1073741824)))) (wrap64 (x5_1 + (Int.tmod (rd l0 x6_1) 1073741824))) (wrap64 (x6_1 + 1))) else (some (0, 2))) = some (r1, r2) := H
     have A4 := Aside0.mk A40
     clear A40
     have p382 : 0 ≤ (x6_1 : Int) := Ze
     have q382 : x6_1 < (l0.length : Int) := Ze
     obtain ⟨ad382, e382, hx382_0⟩ := Kd.at_int HR0.out x6_1 p382 q382
     cases e382
     replace p382 := eq_true p382
     replace q382 := eq_true q382
     go_upto_if 18 with (first | ((with_reducible refine Qaw (f := 93) rfl ?_); refine goesL_ (some 17) rfl rfl Try.func93 (by kernel_rfl) rfl #[.int .i64 (rd l0 x6_1)] rfl (Zl) ?_; (with_reducible refine (Qbo.calls (rd l0 x6_1) t383 _ A4.out).mono ?_); rintro e w' ⟨rfl, ⟨nd, rfl⟩⟩; refine ⟨_, rfl, ?_⟩))
     (try simp only [Act.put, Zj, Zk, Zm])
     by_cases c5 : t383 = T
     ·subst c5
      have H1 : (QaP.l0 k1 l0 (wrap64 (x4_1 + (wrap64 (Int.tdiv (rd l0 x6_1) 1073741824)))) (wrap64 (x5_1 + (Int.tmod (rd l0 x6_1) 1073741824))) (wrap64 (x6_1 + 1))) = some (r1, r2) := by rw [if_pos rfl] at H; exact H
      clear H
      have H := H1
      clear H1
      have H' := Aside0.mk H
      clear H
      have p384 : 0 ≤ (x6_1 : Int) := Ze
      have q384 : x6_1 < (l0.length : Int) := Ze
      obtain ⟨ad384, e384, hx384_0⟩ := Kd.at_int HR0.out x6_1 p384 q384
      obtain rfl : ad382 = ad384 := (by injection e384)
      replace p384 := eq_true p384
      replace q384 := eq_true q384
      have p385 : 0 ≤ (x6_1 : Int) := Ze
      have q385 : x6_1 < (l0.length : Int) := Ze
      obtain ⟨ad385, e385, hx385_0⟩ := Kd.at_int HR0.out x6_1 p385 q385
      obtain rfl : ad382 = ad385 := (by injection e385)
      replace p385 := eq_true p385
      replace q385 := eq_true q385
      go_wp2
      go_roundg k1
      case measure => have := HK1.out; omega
      case rel => exact ⟨(wrap64 (x4_1 + (wrap64 (Int.tdiv (rd l0 x6_1) 1073741824)))), (wrap64 (x5_1 + (Int.tmod (rd l0 x6_1) 1073741824))), (wrap64 (x6_1 + 1)), (Zs), (Zs), (Zs), H', ⟨by have := HK1.out; omega⟩, Zd⟩
     replace c5 := Bool.eq_false_iff.mpr c5
     subst c5
     have H1 : (some (0, 2)) = some (r1, r2) := by rw [if_neg (show ¬ (F = T) by decide)] at H; exact H
     clear H
     have H := H1
     clear H1
     simp only [Option.some.injEq, Prod.mk.injEq] at H
     obtain ⟨rfl, rfl⟩ := H
     go_wp2
     go_ret2
     exact ⟨Zs, Zd⟩
    rw [if_neg c3] at H
    exact absurd H (by simp)
   rw [if_neg c2] at H
   have c2b0 : decide (x6_1 < (l0.length : Int)) = F := decide_eq_false c2
   clear c2
   (try simp only [c2b0])
   by_cases c6 : (wrap64 (x4_1 + (wrap64 (Int.tdiv x5_1 1073741824)))) < (-1073741825)
   ·rw [if_pos c6] at H
    have c6b0 : decide ((wrap64 (x4_1 + (wrap64 (Int.tdiv x5_1 1073741824)))) < (-1073741825)) = T := decide_eq_true c6
    clear c6
    simp only [Option.some.injEq, Prod.mk.injEq] at H
    obtain ⟨rfl, rfl⟩ := H
    go_wp2
    go_ret2
    exact ⟨Zs, Zd⟩
   rw [if_neg c6] at H
   have c6b0 : decide ((wrap64 (x4_1 + (wrap64 (Int.tdiv x5_1 1073741824)))) < (-1073741825)) = F := decide_eq_false c6
   clear c6
   by_cases c7 : (wrap64 (x4_1 + (wrap64 (Int.tdiv x5_1 1073741824)))) > 1073741825
   ·rw [if_pos c7] at H
    have c7b0 : decide (1073741825 < (wrap64 (x4_1 + (wrap64 (Int.tdiv x5_1 1073741824))))) = T := decide_eq_true c7
    clear c7
    simp only [Option.some.injEq, Prod.mk.injEq] at H
    obtain ⟨rfl, rfl⟩ := H
    go_wp2
    go_ret2
    exact ⟨Zs, Zd⟩
   rw [if_neg c7] at H
   have c7b0 : decide (1073741825 < (wrap64 (x4_1 + (wrap64 (Int.tdiv x5_1 1073741824))))) = F := decide_eq_false c7
   clear c7
   replace H := Option.bind_eq_some_iff.mp H
   obtain ⟨t386, A80, H⟩ := H
   replace H : (if t386 = T then (some (wrap64 ((wrap64 ((wrap64 (x4_1 + (wrap64 (Int.tdiv x5_1 1073741824)))) * 1073741824)) + (Int.tmod x5_1 1073741824)), 0)) else (some (0, 3))) = some (r1, r2) := H
   have A8 := Aside0.mk A80
   clear A80
   go_upto_if 52 with (first | (go_at_call 93; (with_reducible refine (Qbo.calls (wrap64 ((wrap64 ((wrap64 (x4_1 + (wrap64 (Int.tdiv x5_1 1073741824)))) * 1073741824)) + (Int.tmod x5_1 1073741824))) t386 _ A8.out).mono ?_); rintro e w' ⟨rfl, ⟨nd, rfl⟩⟩))
   (try simp only [Act.put, Zj, Zk, Zm])
   by_cases c9 : t386 = T
   ·subst c9
    have H1 : (some (wrap64 ((wrap64 ((wrap64 (x4_1 + (wrap64 (Int.tdiv x5_1 1073741824)))) * 1073741824)) + (Int.tmod x5_1 1073741824)), 0)) = some (r1, r2) := by rw [if_pos rfl] at H; exact H
    clear H
    have H := H1
    clear H1
    simp only [Option.some.injEq, Prod.mk.injEq] at H
    obtain ⟨rfl, rfl⟩ := H
    go_wp2
    go_ret2
    exact ⟨Zs, Zd⟩
   replace c9 := Bool.eq_false_iff.mpr c9
   subst c9
   have H1 : (some (0, 3)) = some (r1, r2) := by rw [if_neg (show ¬ (F = T) by decide)] at H; exact H
   clear H
   have H := H1
   clear H1
   simp only [Option.some.injEq, Prod.mk.injEq] at H
   obtain ⟨rfl, rfl⟩ := H
   go_wp2
   go_ret2
   exact ⟨Zs, Zd⟩
def Qbi.f (k : Nat) (a0_0 : ByteArray) (a0_1 : ByteArray) : Option (Bool) := (Qay.f k a0_0).bind fun t388 => (if t388 = T then ((Qay.f k a0_1).bind fun t389 => (some t389)) else (some F))
theorem Qbi.mono : ∀ a0 a1 k, LeO (Qbi.f k a0 a1) (Qbi.f (k + 1) a0 a1) := by
 intro a0 a1 k
 unfold Qbi.f
 exact ZM1 Qay.mono
set_option maxHeartbeats 8000000 in
theorem Qbi.calls (k : Nat) (a0_0 : ByteArray) (a0_1 : ByteArray) (r : Bool) (w : World) (h : Qbi.f k a0_0 a0_1 = some r) :
  Calls Try.prog 98 #[.agg #[.string a0_0, .string a0_1]] w fun e w' => e = .returned (.bool r) ∧ Below w.heap.size w w' := by
 have hu44 := Try.underlying44
 have HB := Aside0.mk (Below.refl w.heap.size w)
 have H : ((Qay.f k a0_0).bind fun t388 => (if t388 = T then ((Qay.f k a0_1).bind fun t389 => (some t389)) else (some F))) = some r := h
 clear h
 go_enter Try.func98, Try.ntmps98
 go_upto_region 1 with (first | ((with_reducible refine QaL (N := 1) rfl ?_); refine Zbx (N := 1) (cs := #[.string a0_0, .string a0_1]) (t := 44) ?_; intro gb387 hg w2 hbox hb; have BK387 := Aside0.mk (hbox); have GW387 := Aside0.mk (Zt w hg (Zb)); have GE387 := GW387; replace HB := Aside0.mk (Qan (Zb) hb); clear hb hbox hg))
 (try simp only [Act.put, Zj, Zk, Zm])
 replace H := Option.bind_eq_some_iff.mp H
 obtain ⟨t388, A30, H⟩ := H
 replace H : (if t388 = T then ((Qay.f k a0_1).bind fun t389 => (some t389)) else (some F)) = some r := H
 have A3 := Aside0.mk A30
 clear A30
 by_cases c4 : t388 = T
 ·subst c4
  have H1 : ((Qay.f k a0_1).bind fun t389 => (some t389)) = some r := by rw [if_pos rfl] at H; exact H
  clear H
  have H := H1
  clear H1
  replace H := Option.bind_eq_some_iff.mp H
  obtain ⟨t389, A50, H⟩ := H
  replace H : (some t389) = some r := H
  have A5 := Aside0.mk A50
  clear A50
  obtain rfl := Option.some.inj H
  obtain ⟨hcz6_0, hfz6_0⟩ := Zy (v := (.string a0_0)) BK387.out 0
  obtain ⟨hcz6_1, hfz6_1⟩ := Zy (v := (.string a0_1)) BK387.out 1
  go_wp2_with (first | ((with_reducible refine Qaw (f := 99) rfl ?_); refine goesL_ (some 5) rfl rfl Try.func99 (by kernel_rfl) rfl #[.string a0_0] rfl (Zl) ?_; (with_reducible refine (Qay.calls k a0_0 T _ A3.out).mono ?_); rintro e w' ⟨rfl, ⟨nd, rfl⟩⟩; refine ⟨_, rfl, ?_⟩) | (go_at_call 99; (with_reducible refine (Qay.calls k a0_1 t389 _ A5.out).mono ?_); rintro e w' ⟨rfl, ⟨nd, rfl⟩⟩))
  go_ret
  exact ⟨Zq, Zc1 GE387.out⟩
 replace c4 := Bool.eq_false_iff.mpr c4
 subst c4
 have H1 : (some F) = some r := by rw [if_neg (show ¬ (F = T) by decide)] at H; exact H
 clear H
 have H := H1
 clear H1
 obtain rfl := Option.some.inj H
 obtain ⟨hcz7_0, hfz7_0⟩ := Zy (v := (.string a0_0)) BK387.out 0
 obtain ⟨hcz7_1, hfz7_1⟩ := Zy (v := (.string a0_1)) BK387.out 1
 go_wp2_with (first | ((with_reducible refine Qaw (f := 99) rfl ?_); refine goesL_ (some 5) rfl rfl Try.func99 (by kernel_rfl) rfl #[.string a0_0] rfl (Zl) ?_; (with_reducible refine (Qay.calls k a0_0 F _ A3.out).mono ?_); rintro e w' ⟨rfl, ⟨nd, rfl⟩⟩; refine ⟨_, rfl, ?_⟩))
 go_ret
 exact ⟨Zq, Zc1 GE387.out⟩
def QbR.f (a0 : Int) : Option (Bool) := if a0 ≥ 1 then (some (decide (a0 ≤ 1152921504606846976))) else (some F)
set_option maxHeartbeats 8000000 in
theorem QbR.calls (a0 : Int) (r : Bool) (w : World) (h : QbR.f a0 = some r) :
  Calls Try.prog 101 #[.int .i64 a0] w fun e w' => e = .returned (.bool r) ∧ Drawn0 w w' := by
 have H : (if a0 ≥ 1 then (some (decide (a0 ≤ 1152921504606846976))) else (some F)) = some r := h
 clear h
 by_cases c2 : a0 ≥ 1
 ·rw [if_pos c2] at H
  have c2b0 : decide (1 ≤ a0) = T := decide_eq_true c2
  clear c2
  obtain rfl := Option.some.inj H
  go_enter Try.func101, Try.ntmps101
  go_wp2
  go_ret
  exact ⟨Zs, Zd⟩
 rw [if_neg c2] at H
 have c2b0 : decide (1 ≤ a0) = F := decide_eq_false c2
 clear c2
 obtain rfl := Option.some.inj H
 go_enter Try.func101, Try.ntmps101
 go_wp2
 go_ret
 exact ⟨Zs, Zd⟩
def QbQ.f (l0_0 : List (S46)) (a0_1 : ByteArray) (a0_2 : ByteArray) (a0_3 : Int) (l0_4 : List (S84)) (l0_5 : List (S98)) : Option (Bool) := if (l0_0.length : Int) ≤ 200 then (if (l0_4.length : Int) ≤ 100 then (some (decide ((l0_5.length : Int) ≤ 20))) else (some F)) else (some F)
set_option maxHeartbeats 8000000 in
theorem QbQ.calls (A0_0 : Option Addr) (c0_0 : Nat) (l0_0 : List (S46)) (a0_1 : ByteArray) (a0_2 : ByteArray) (a0_3 : Int) (A0_4 : Option Addr) (c0_4 : Nat) (l0_4 : List (S84)) (A0_5 : Option Addr) (c0_5 : Nat) (l0_5 : List (S98)) (r : Bool) (w : World) (hr0_0 : Kd.C k46 w A0_0 l0_0.length l0_0) (hc0_0 : l0_0.length ≤ c0_0) (hr0_4 : Kd.C k84 w A0_4 l0_4.length l0_4) (hc0_4 : l0_4.length ≤ c0_4) (hr0_5 : Kd.C k98 w A0_5 l0_5.length l0_5) (hc0_5 : l0_5.length ≤ c0_5) (h : QbQ.f l0_0 a0_1 a0_2 a0_3 l0_4 l0_5 = some r) :
  Calls Try.prog 26 #[.agg #[.slice A0_0 l0_0.length c0_0, .string a0_1, .string a0_2, .int .i64 a0_3, .slice A0_4 l0_4.length c0_4, .slice A0_5 l0_5.length c0_5]] w fun e w' => e = .returned (.bool r) ∧ Below w.heap.size w w' := by
 have hu61 := Try.underlying61
 have HR0_0 := Aside0.mk hr0_0
 have HC0_0 := Aside0.mk hc0_0
 clear hr0_0 hc0_0
 have HR0_4 := Aside0.mk hr0_4
 have HC0_4 := Aside0.mk hc0_4
 clear hr0_4 hc0_4
 have HR0_5 := Aside0.mk hr0_5
 have HC0_5 := Aside0.mk hc0_5
 clear hr0_5 hc0_5
 have HB := Aside0.mk (Below.refl w.heap.size w)
 have H : (if (l0_0.length : Int) ≤ 200 then (if (l0_4.length : Int) ≤ 100 then (some (decide ((l0_5.length : Int) ≤ 20))) else (some F)) else (some F)) = some r := h
 clear h
 go_enter Try.func26, Try.ntmps26
 go_upto_region 1 with (first | ((with_reducible refine QaL (N := 1) rfl ?_); (try (refine QbG (by rfl) ?_; dsimp only)); refine Zbx (N := 1) (cs := #[.slice A0_0 l0_0.length c0_0, .string a0_1, .string a0_2, .int .i64 a0_3, .slice A0_4 l0_4.length c0_4, .slice A0_5 l0_5.length c0_5]) (t := 61) ?_; intro gb605 hg w2 hbox hb; have BK605 := Aside0.mk (hbox); have GW605 := Aside0.mk (Zt w hg (Zb)); have GE605 := GW605; replace HB := Aside0.mk (Qan (Zb) hb); clear hb hbox hg))
 (try simp only [Act.put, Zj, Zk, Zm])
 by_cases c3 : (l0_0.length : Int) ≤ 200
 ·rw [if_pos c3] at H
  have c3b0 : decide ((l0_0.length : Int) ≤ 200) = T := decide_eq_true c3
  have c3b1 : decide (l0_0.length ≤ 200) = T := decide_eq_true (by omega)
  clear c3
  (try simp only [c3b0, c3b1])
  by_cases c4 : (l0_4.length : Int) ≤ 100
  ·rw [if_pos c4] at H
   have c4b0 : decide ((l0_4.length : Int) ≤ 100) = T := decide_eq_true c4
   have c4b1 : decide (l0_4.length ≤ 100) = T := decide_eq_true (by omega)
   clear c4
   obtain rfl := Option.some.inj H
   obtain ⟨hcz5_0, hfz5_0⟩ := Zy (v := (.slice A0_0 l0_0.length c0_0)) BK605.out 0
   obtain ⟨hcz5_1, hfz5_1⟩ := Zy (v := (.string a0_1)) BK605.out 1
   obtain ⟨hcz5_2, hfz5_2⟩ := Zy (v := (.string a0_2)) BK605.out 2
   obtain ⟨hcz5_3, hfz5_3⟩ := Zy (v := (.int .i64 a0_3)) BK605.out 3
   obtain ⟨hcz5_4, hfz5_4⟩ := Zy (v := (.slice A0_4 l0_4.length c0_4)) BK605.out 4
   obtain ⟨hcz5_5, hfz5_5⟩ := Zy (v := (.slice A0_5 l0_5.length c0_5)) BK605.out 5
   go_wp2
   go_ret
   exact ⟨Zq, Zc1 GE605.out⟩
  rw [if_neg c4] at H
  have c4b0 : decide ((l0_4.length : Int) ≤ 100) = F := decide_eq_false c4
  have c4b1 : decide (l0_4.length ≤ 100) = F := decide_eq_false (by omega)
  clear c4
  obtain rfl := Option.some.inj H
  obtain ⟨hcz6_0, hfz6_0⟩ := Zy (v := (.slice A0_0 l0_0.length c0_0)) BK605.out 0
  obtain ⟨hcz6_1, hfz6_1⟩ := Zy (v := (.string a0_1)) BK605.out 1
  obtain ⟨hcz6_2, hfz6_2⟩ := Zy (v := (.string a0_2)) BK605.out 2
  obtain ⟨hcz6_3, hfz6_3⟩ := Zy (v := (.int .i64 a0_3)) BK605.out 3
  obtain ⟨hcz6_4, hfz6_4⟩ := Zy (v := (.slice A0_4 l0_4.length c0_4)) BK605.out 4
  obtain ⟨hcz6_5, hfz6_5⟩ := Zy (v := (.slice A0_5 l0_5.length c0_5)) BK605.out 5
  go_wp2
  go_ret
  exact ⟨Zq, Zc1 GE605.out⟩
 rw [if_neg c3] at H
 have c3b0 : decide ((l0_0.length : Int) ≤ 200) = F := decide_eq_false c3
 have c3b1 : decide (l0_0.length ≤ 200) = F := decide_eq_false (by omega)
 clear c3
 (try simp only [c3b0, c3b1])
 obtain rfl := Option.some.inj H
 obtain ⟨hcz7_0, hfz7_0⟩ := Zy (v := (.slice A0_0 l0_0.length c0_0)) BK605.out 0
 obtain ⟨hcz7_1, hfz7_1⟩ := Zy (v := (.string a0_1)) BK605.out 1
 obtain ⟨hcz7_2, hfz7_2⟩ := Zy (v := (.string a0_2)) BK605.out 2
 obtain ⟨hcz7_3, hfz7_3⟩ := Zy (v := (.int .i64 a0_3)) BK605.out 3
 obtain ⟨hcz7_4, hfz7_4⟩ := Zy (v := (.slice A0_4 l0_4.length c0_4)) BK605.out 4
 obtain ⟨hcz7_5, hfz7_5⟩ := Zy (v := (.slice A0_5 l0_5.length c0_5)) BK605.out 5
 go_wp2
 go_ret
 exact ⟨Zq, Zc1 GE605.out⟩
end Go.Proofs.Ytfcaaefdmabkhaa.Pr
