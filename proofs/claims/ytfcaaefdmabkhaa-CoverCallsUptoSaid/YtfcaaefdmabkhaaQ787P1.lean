/- Functions' values and contracts, as the print wrote them. -/
import Derived.Test.YtfcaaefdmabkhaaQ787P0
namespace Go.Proofs.Ytfcaaefdmabkhaa.Pr
open Bool renaming true → T
open Bool renaming false → F
open Go.RowKit Go.Proofs.YtfcaaefdmabkhaaW.PrintWords Go.Proofs.YtfcaaefdmabkhaaW.PrintLast Go.Proofs.YtfcaaefdmabkhaaW.PrintMore
attribute [local go_sem] QaP QaR QaW QaX QaL QaM QaQ QaS   -- for this text's walks alone
set_option linter.unusedVariables false
set_option linter.unusedSimpArgs false
set_option maxRecDepth 100000
mutual
def QaF.j0 : Nat → ByteArray → Bool → Option (Bool)
 | 0, _, _ => none
 | k + 1, x0, x16 => if x16 = T then (some F) else (QaF.l0 k x0 (x0.size : Int) 0)
def QaF.l0 : Nat → ByteArray → Int → Int → Option (Bool)
 | 0, _, _, _ => none
 | k + 1, x0, x18, x19 => if x19 < x18 then (if 0 ≤ x19 then (if x19 < (x0.size : Int) then ((QbC.f (bt x0 x19)).bind fun t120 => (if t120 = T then (QaF.l0 k x0 x18 (wrap64 (x19 + 1))) else ((QbL.f (bt x0 x19)).bind fun t121 => (if t121 = T then (QaF.l0 k x0 x18 (wrap64 (x19 + 1))) else (some F))))) else (none)) else (none)) else (some T)
end
def QaF.f (k : Nat) (a0 : ByteArray) : Option (Bool) := if a0.toList = ([] : List UInt8) then (QaF.j0 k a0 T) else (if (a0.size : Int) > 12 then (QaF.j0 k a0 T) else (if 0 < (a0.size : Int) then ((QbC.f (bt a0 0)).bind fun t119 => (QaF.j0 k a0 (!t119))) else (none)))
theorem QaF.mono_l : ∀ k, (∀ y0 y1, LeO (QaF.j0 k y0 y1) (QaF.j0 (k + 1) y0 y1)) ∧ (∀ y0 y1 y2, LeO (QaF.l0 k y0 y1 y2) (QaF.l0 (k + 1) y0 y1 y2))
 | 0 => ⟨fun _ _ r h => by simp [QaF.j0] at h, fun _ _ _ r h => by simp [QaF.l0] at h⟩
 | k + 1 => by
  obtain ⟨ih0, ih1⟩ := QaF.mono_l k
  refine ⟨?_, ?_⟩
  ·intro y0 y1
   unfold QaF.j0
   exact ZM2 ih0 ih1
  intro y0 y1 y2
  unfold QaF.l0
  exact ZM2 ih0 ih1
theorem QaF.mono : ∀ a0 k, LeO (QaF.f k a0) (QaF.f (k + 1) a0) := by
 intro a0 k
 obtain ⟨ih0, ih1⟩ := QaF.mono_l k
 unfold QaF.f
 exact ZM2 ih0 ih1
set_option maxHeartbeats 8000000 in
theorem QaF.calls (k : Nat) (a0 : ByteArray) (r : Bool) (w : World) (h : QaF.f k a0 = some r) :
  Calls Try.prog 108 #[.string a0] w fun e w' => e = .returned (.bool r) ∧ Drawn0 w w' := by
 have H : (if a0.toList = ([] : List UInt8) then (QaF.j0 k a0 T) else (if (a0.size : Int) > 12 then (QaF.j0 k a0 T) else (if 0 < (a0.size : Int) then ((QbC.f (bt a0 0)).bind fun t119 => (QaF.j0 k a0 (!t119))) else (none)))) = some r := h
 clear h
 have HC2 := Aside0.mk H
 clear H
 go_enter Try.func108, Try.ntmps108
 go_upto_region 1 with (fail)
 go_cut [16] (fun v16 wc => ∃ (kq : Nat) (x16_1 : Bool), v16 = .bool x16_1 ∧ Aside0 (QaF.j0 kq a0 x16_1 = some r) ∧ Aside0 (kq ≤ k) ∧ Drawn0 w wc)
 case first =>
  have H := HC2.out
  clear HC2
  by_cases c3 : a0.toList = ([] : List UInt8)
  ·rw [if_pos c3] at H
   have c3b0 : (a0.toList == ([] : List UInt8)) = T := beq_iff_eq.mpr c3
   have c3b1 : (a0.toList != ([] : List UInt8)) = F := bne_eq_false_iff_eq.mpr c3
   clear c3
   have H' := Aside0.mk H
   clear H
   go_wp2
   go_meet
   case rel => exact ⟨_, (T), (Zs), H', ⟨by first | omega | exact Nat.le_refl _⟩, Zd⟩
  rw [if_neg c3] at H
  have c3b0 : (a0.toList == ([] : List UInt8)) = F := beq_eq_false_iff_ne.mpr c3
  have c3b1 : (a0.toList != ([] : List UInt8)) = T := bne_iff_ne.mpr c3
  by_cases c4 : (a0.size : Int) > 12
  ·rw [if_pos c4] at H
   have c4b0 : decide (12 < (a0.size : Int)) = T := decide_eq_true c4
   have c4b1 : decide (12 < a0.size) = T := decide_eq_true (by omega)
   clear c4
   have H' := Aside0.mk H
   clear H
   go_wp2
   go_meet
   case rel => exact ⟨_, (T), (Zs), H', ⟨by first | omega | exact Nat.le_refl _⟩, Zd⟩
  rw [if_neg c4] at H
  have c4b0 : decide (12 < (a0.size : Int)) = F := decide_eq_false c4
  have c4b1 : decide (12 < a0.size) = F := decide_eq_false (by omega)
  clear c4
  by_cases c5 : 0 < (a0.size : Int)
  ·rw [if_pos c5] at H
   have c5b0 : decide (0 < (a0.size : Int)) = T := decide_eq_true c5
   have c5b1 : decide (0 < a0.size) = T := decide_eq_true (by omega)
   clear c5
   replace H := Option.bind_eq_some_iff.mp H
   obtain ⟨t119, A70, H⟩ := H
   replace H : (QaF.j0 k a0 (!t119)) = some r := H
   have A7 := Aside0.mk A70
   clear A70
   have H' := Aside0.mk H
   clear H
   have p6 : 0 ≤ (0 : Int) := (by omega)
   have q6 : 0 < a0.size := (by have : (0 : Int) < (a0.size : Int) := Ze; omega)
   have hx6 : ∀ h : 0 < a0.size, ((a0[0]'h).toNat : Int) = bt a0 0 := bt_at a0 0
   clear p6
   have qi6 : (0 < (a0.size : Int)) = True := eq_true (Ze)
   replace q6 := eq_true q6
   go_wp2_with (first | (go_at_call 121; (with_reducible refine (QbC.calls (bt a0 0) t119 _ A7.out).mono ?_); rintro e w' ⟨rfl, ⟨nd, rfl⟩⟩))
   go_meet
   case rel => exact ⟨_, (!t119), (Zs), H', ⟨by first | omega | exact Nat.le_refl _⟩, Zd⟩
  rw [if_neg c5] at H
  exact absurd H (by simp)
 case rest =>
  clear HC2
  try clear c1
  try clear p2
  try clear c3
  try clear c3b0
  try clear c3b1
  try clear c4
  try clear c4b0
  try clear c4b1
  try clear c5
  try clear c5b0
  try clear c5b1
  try clear p6
  try clear q6
  try clear hx6
  try clear qi6
  try clear p6
  try clear q6
  obtain ⟨kq, x16_1, rfl, HA, HJ1, ⟨mc1, rfl⟩⟩ := hcut
  cases kq with
  | zero => exact absurd HA.out (by simp [QaF.j0])
  | succ kj1 =>
   have H := HA.out
   clear HA
   simp only [QaF.j0] at H
   by_cases c8 : x16_1 = T
   ·subst c8
    have H1 : (some F) = some r := by rw [if_pos rfl] at H; exact H
    clear H
    have H := H1
    clear H1
    obtain rfl := Option.some.inj H
    go_wp2
    go_ret
    exact ⟨Zs, Zd⟩
   replace c8 := Bool.eq_false_iff.mpr c8
   subst c8
   have H1 : (QaF.l0 kj1 a0 (a0.size : Int) 0) = some r := by rw [if_neg (show ¬ (F = T) by decide)] at H; exact H
   clear H
   have H := H1
   clear H1
   have H' := Aside0.mk H
   clear H
   go_wp2
   go_loopg [19] kj1 (fun kq v19 w' => ∃ (x19_2 : Int), v19 = .int .i64 x19_2 ∧ Aside0 (QaF.l0 kq a0 (a0.size : Int) x19_2 = some r) ∧ Aside0 (kq ≤ kj1) ∧ Drawn0 w w')
   case atStart => exact ⟨(0), (Zs), H', ⟨Nat.le_refl _⟩, Zd⟩
   case round =>
    clear H'
    try clear c1
    try clear p2
    try clear c3
    try clear c3b0
    try clear c3b1
    try clear c4
    try clear c4b0
    try clear c4b1
    try clear c5
    try clear c5b0
    try clear c5b1
    try clear p6
    try clear q6
    try clear hx6
    try clear qi6
    try clear c8
    try clear p2
    try clear p6
    try clear q6
    obtain ⟨x19_2, rfl, HA, HK2, ⟨m2, rfl⟩⟩ := hrel
    cases gk with
    | zero => exact absurd HA.out (by simp [QaF.l0])
    | succ k2 =>
     have H := HA.out
     clear HA
     simp only [QaF.l0] at H
     by_cases c9 : x19_2 < (a0.size : Int)
     ·rw [if_pos c9] at H
      have c9b0 : decide (x19_2 < (a0.size : Int)) = T := decide_eq_true c9
      clear c9
      (try simp only [c9b0])
      by_cases c10 : 0 ≤ x19_2
      ·rw [if_pos c10] at H
       have c10b0 : decide (0 ≤ x19_2) = T := decide_eq_true c10
       clear c10
       by_cases c11 : x19_2 < (a0.size : Int)
       ·rw [if_pos c11] at H
        have c11b0 : decide (x19_2 < (a0.size : Int)) = T := decide_eq_true c11
        clear c11
        replace H := Option.bind_eq_some_iff.mp H
        obtain ⟨t120, A130, H⟩ := H
        replace H : (if t120 = T then (QaF.l0 k2 a0 (a0.size : Int) (wrap64 (x19_2 + 1))) else ((QbL.f (bt a0 x19_2)).bind fun t121 => (if t121 = T then (QaF.l0 k2 a0 (a0.size : Int) (wrap64 (x19_2 + 1))) else (some F)))) = some r := H
        have A13 := Aside0.mk A130
        clear A130
        by_cases c14 : t120 = T
        ·subst c14
         have H1 : (QaF.l0 k2 a0 (a0.size : Int) (wrap64 (x19_2 + 1))) = some r := by rw [if_pos rfl] at H; exact H
         clear H
         have H := H1
         clear H1
         have H' := Aside0.mk H
         clear H
         have p12 : 0 ≤ (x19_2 : Int) := Ze
         have q12 : x19_2 < (a0.size : Int) := Ze
         have hx12 := bt_at a0 x19_2
         replace p12 := eq_true p12
         replace q12 := eq_true q12
         go_wp2_with (first | ((with_reducible refine Qay (f := 121) rfl ?_); refine goesL_ (some 25) rfl rfl Try.func121 (by kernel_rfl) rfl #[.int .u8 (bt a0 x19_2)] rfl (Zl) ?_; (with_reducible refine (QbC.calls (bt a0 x19_2) T _ A13.out).mono ?_); rintro e w' ⟨rfl, ⟨nd, rfl⟩⟩; refine ⟨_, rfl, ?_⟩))
         go_roundg k2
         case measure => have := HJ1.out; have := HK2.out; omega
         case rel => exact ⟨(wrap64 (x19_2 + 1)), (Zs), H', ⟨by have := HJ1.out; have := HK2.out; omega⟩, Zd⟩
        replace c14 := Bool.eq_false_iff.mpr c14
        subst c14
        have H1 : ((QbL.f (bt a0 x19_2)).bind fun t121 => (if t121 = T then (QaF.l0 k2 a0 (a0.size : Int) (wrap64 (x19_2 + 1))) else (some F))) = some r := by rw [if_neg (show ¬ (F = T) by decide)] at H; exact H
        clear H
        have H := H1
        clear H1
        replace H := Option.bind_eq_some_iff.mp H
        obtain ⟨t121, A160, H⟩ := H
        replace H : (if t121 = T then (QaF.l0 k2 a0 (a0.size : Int) (wrap64 (x19_2 + 1))) else (some F)) = some r := H
        have A16 := Aside0.mk A160
        clear A160
        have p12 : 0 ≤ (x19_2 : Int) := Ze
        have q12 : x19_2 < (a0.size : Int) := Ze
        have hx12 := bt_at a0 x19_2
        replace p12 := eq_true p12
        replace q12 := eq_true q12
        go_upto_if 33 with (first | ((with_reducible refine Qay (f := 121) rfl ?_); refine goesL_ (some 25) rfl rfl Try.func121 (by kernel_rfl) rfl #[.int .u8 (bt a0 x19_2)] rfl (Zl) ?_; (with_reducible refine (QbC.calls (bt a0 x19_2) F _ A13.out).mono ?_); rintro e w' ⟨rfl, ⟨nd, rfl⟩⟩; refine ⟨_, rfl, ?_⟩; have p15 : 0 ≤ (x19_2 : Int) := Ze; have q15 : x19_2 < (a0.size : Int) := Ze; have hx15 := bt_at a0 x19_2; replace p15 := eq_true p15; replace q15 := eq_true q15) | (go_at_call 122; (with_reducible refine (QbL.calls (bt a0 x19_2) t121 _ A16.out).mono ?_); rintro e w' ⟨rfl, ⟨nd, rfl⟩⟩))
        (try simp only [Act.put, Zj, Zk, Zm])
        by_cases c17 : t121 = T
        ·subst c17
         have H1 : (QaF.l0 k2 a0 (a0.size : Int) (wrap64 (x19_2 + 1))) = some r := by rw [if_pos rfl] at H; exact H
         clear H
         have H := H1
         clear H1
         have H' := Aside0.mk H
         clear H
         go_wp2
         go_roundg k2
         case measure => have := HJ1.out; have := HK2.out; omega
         case rel => exact ⟨(wrap64 (x19_2 + 1)), (Zs), H', ⟨by have := HJ1.out; have := HK2.out; omega⟩, Zd⟩
        replace c17 := Bool.eq_false_iff.mpr c17
        subst c17
        have H1 : (some F) = some r := by rw [if_neg (show ¬ (F = T) by decide)] at H; exact H
        clear H
        have H := H1
        clear H1
        obtain rfl := Option.some.inj H
        go_wp2
        go_ret
        exact ⟨Zs, Zd⟩
       rw [if_neg c11] at H
       exact absurd H (by simp)
      rw [if_neg c10] at H
      exact absurd H (by simp)
     rw [if_neg c9] at H
     have c9b0 : decide (x19_2 < (a0.size : Int)) = F := decide_eq_false c9
     clear c9
     (try simp only [c9b0])
     obtain rfl := Option.some.inj H
     go_wp2
     go_ret
     exact ⟨Zs, Zd⟩
mutual
def QaI.j0 : Nat → Bool → ByteArray → Int → Int → Int → Int → Int → Option (Int)
 | 0, _, _, _, _, _, _, _ => none
 | k + 1, x8, x123000, x123001, x123002, x123003, x123004, x123005 => if x8 = T then (some 2) else (if x123002 < 0 then (QaI.j1 k T x123000 x123001 x123002 x123003 x123004 x123005) else (QaI.j1 k (decide (x123002 ≥ 8)) x123000 x123001 x123002 x123003 x123004 x123005))
def QaI.j1 : Nat → Bool → ByteArray → Int → Int → Int → Int → Int → Option (Int)
 | 0, _, _, _, _, _, _, _ => none
 | k + 1, x17, x123000, x123001, x123002, x123003, x123004, x123005 => if x17 = T then (some 25) else (if x123003 < 1 then (some 2) else (if x123003 > 68719476736 then (some 2) else (if x123001 = 1 then (if x123003 = 1 then ((Qbf.f x123004).bind fun t124 => (if t124 = T then ((Qbf.f x123005).bind fun t125 => (if t125 = T then (some 0) else (some 2))) else (some 2))) else (some 2)) else ((Qbf.f x123004).bind fun t126 => (if t126 = T then ((Qbf.f x123005).bind fun t127 => (if t127 = T then (some 0) else (some 2))) else (some 2))))))
end
def QaI.f (k : Nat) (a0_0 : ByteArray) (a0_1 : Int) (a0_2 : Int) (a0_3 : Int) (a0_4 : Int) (a0_5 : Int) : Option (Int) := (QaF.f k a0_0).bind fun t123 => (if t123 = T then (if a0_1 < 1 then (QaI.j0 k T a0_0 a0_1 a0_2 a0_3 a0_4 a0_5) else (QaI.j0 k (decide (a0_1 > 3)) a0_0 a0_1 a0_2 a0_3 a0_4 a0_5)) else (some 10))
theorem QaI.mono_l : ∀ k, (∀ y0 y1 y2 y3 y4 y5 y6, LeO (QaI.j0 k y0 y1 y2 y3 y4 y5 y6) (QaI.j0 (k + 1) y0 y1 y2 y3 y4 y5 y6)) ∧ (∀ y0 y1 y2 y3 y4 y5 y6, LeO (QaI.j1 k y0 y1 y2 y3 y4 y5 y6) (QaI.j1 (k + 1) y0 y1 y2 y3 y4 y5 y6))
 | 0 => ⟨fun _ _ _ _ _ _ _ r h => by simp [QaI.j0] at h, fun _ _ _ _ _ _ _ r h => by simp [QaI.j1] at h⟩
 | k + 1 => by
  obtain ⟨ih0, ih1⟩ := QaI.mono_l k
  refine ⟨?_, ?_⟩
  ·intro y0 y1 y2 y3 y4 y5 y6
   unfold QaI.j0
   exact ZM3 ih0 ih1 QaF.mono
  intro y0 y1 y2 y3 y4 y5 y6
  unfold QaI.j1
  exact ZM3 ih0 ih1 QaF.mono
theorem QaI.mono : ∀ a0 a1 a2 a3 a4 a5 k, LeO (QaI.f k a0 a1 a2 a3 a4 a5) (QaI.f (k + 1) a0 a1 a2 a3 a4 a5) := by
 intro a0 a1 a2 a3 a4 a5 k
 obtain ⟨ih0, ih1⟩ := QaI.mono_l k
 unfold QaI.f
 exact ZM3 ih0 ih1 QaF.mono
set_option maxHeartbeats 8000000 in
theorem QaI.calls (k : Nat) (a0_0 : ByteArray) (a0_1 : Int) (a0_2 : Int) (a0_3 : Int) (a0_4 : Int) (a0_5 : Int) (r : Int) (w : World) (h : QaI.f k a0_0 a0_1 a0_2 a0_3 a0_4 a0_5 = some r) :
  Calls Try.prog 78 #[.agg #[.string a0_0, .int .i64 a0_1, .int .i64 a0_2, .int .i64 a0_3, .int .i64 a0_4, .int .i64 a0_5]] w fun e w' => e = .returned (.int .i64 r) ∧ Below w.heap.size w w' := by
 have hu84 := Try.underlying84
 have HB := Aside0.mk (Below.refl w.heap.size w)
 have H : ((QaF.f k a0_0).bind fun t123 => (if t123 = T then (if a0_1 < 1 then (QaI.j0 k T a0_0 a0_1 a0_2 a0_3 a0_4 a0_5) else (QaI.j0 k (decide (a0_1 > 3)) a0_0 a0_1 a0_2 a0_3 a0_4 a0_5)) else (some 10))) = some r := h
 clear h
 replace H := Option.bind_eq_some_iff.mp H
 obtain ⟨t123, A20, H⟩ := H
 replace H : (if t123 = T then (if a0_1 < 1 then (QaI.j0 k T a0_0 a0_1 a0_2 a0_3 a0_4 a0_5) else (QaI.j0 k (decide (a0_1 > 3)) a0_0 a0_1 a0_2 a0_3 a0_4 a0_5)) else (some 10)) = some r := H
 have A2 := Aside0.mk A20
 clear A20
 go_enter Try.func78, Try.ntmps78
 go_upto_if 3 with (first | ((with_reducible refine QaJ (N := 1) rfl ?_); refine Zbx (N := 1) (cs := #[.string a0_0, .int .i64 a0_1, .int .i64 a0_2, .int .i64 a0_3, .int .i64 a0_4, .int .i64 a0_5]) (t := 84) ?_; intro gb122 hg w3 hbox hb; have BK122 := Aside0.mk (hbox); have GW122 := Aside0.mk (Zt w hg (Zb)); have GE122 := GW122; replace HB := Aside0.mk (Qap (Zb) hb); clear hb hbox hg; obtain ⟨hcz4_0, hfz4_0⟩ := Zy (v := (.string a0_0)) BK122.out 0; obtain ⟨hcz4_1, hfz4_1⟩ := Zy (v := (.int .i64 a0_1)) BK122.out 1; obtain ⟨hcz4_2, hfz4_2⟩ := Zy (v := (.int .i64 a0_2)) BK122.out 2; obtain ⟨hcz4_3, hfz4_3⟩ := Zy (v := (.int .i64 a0_3)) BK122.out 3; obtain ⟨hcz4_4, hfz4_4⟩ := Zy (v := (.int .i64 a0_4)) BK122.out 4; obtain ⟨hcz4_5, hfz4_5⟩ := Zy (v := (.int .i64 a0_5)) BK122.out 5) | ((with_reducible refine Qay (f := 108) rfl ?_); refine goesL_ (some 6) rfl rfl Try.func108 (by kernel_rfl) rfl #[.string a0_0] rfl (Zl) ?_; (with_reducible refine (QaF.calls k a0_0 t123 _ A2.out).mono ?_); rintro e w' ⟨rfl, ⟨nd, rfl⟩⟩; refine ⟨_, rfl, ?_⟩))
 (try simp only [Act.put, Zj, Zk, Zm])
 by_cases c5 : t123 = T
 ·subst c5
  have H1 : (if a0_1 < 1 then (QaI.j0 k T a0_0 a0_1 a0_2 a0_3 a0_4 a0_5) else (QaI.j0 k (decide (a0_1 > 3)) a0_0 a0_1 a0_2 a0_3 a0_4 a0_5)) = some r := by rw [if_pos rfl] at H; exact H
  clear H
  have H := H1
  clear H1
  have HC6 := Aside0.mk H
  clear H
  go_upto_region 3 with (fail)
  go_cut [8] (fun v8 wc => ∃ (kq : Nat) (x8_5 : Bool), v8 = .bool x8_5 ∧ Aside0 (QaI.j0 kq x8_5 a0_0 a0_1 a0_2 a0_3 a0_4 a0_5 = some r) ∧ Aside0 (kq ≤ k) ∧ Aside0 (wc.heap[gb122]? = some (.cells #[.string a0_0, .int .i64 a0_1, .int .i64 a0_2, .int .i64 a0_3, .int .i64 a0_4, .int .i64 a0_5] 84 (0, 0))) ∧ Aside0 (Below w.heap.size w wc))
  case first =>
   have H := HC6.out
   clear HC6
   by_cases c7 : a0_1 < 1
   ·rw [if_pos c7] at H
    have c7b0 : decide (a0_1 < 1) = T := decide_eq_true c7
    clear c7
    have H' := Aside0.mk H
    clear H
    obtain ⟨hcz8_0, hfz8_0⟩ := Zy (v := (.string a0_0)) BK122.out 0
    obtain ⟨hcz8_1, hfz8_1⟩ := Zy (v := (.int .i64 a0_1)) BK122.out 1
    obtain ⟨hcz8_2, hfz8_2⟩ := Zy (v := (.int .i64 a0_2)) BK122.out 2
    obtain ⟨hcz8_3, hfz8_3⟩ := Zy (v := (.int .i64 a0_3)) BK122.out 3
    obtain ⟨hcz8_4, hfz8_4⟩ := Zy (v := (.int .i64 a0_4)) BK122.out 4
    obtain ⟨hcz8_5, hfz8_5⟩ := Zy (v := (.int .i64 a0_5)) BK122.out 5
    go_wp2
    go_meet
    case rel => exact ⟨_, (T), (Zs), H', ⟨by first | omega | exact Nat.le_refl _⟩, ⟨Zu BK122.out⟩, ⟨Zc1 GE122.out⟩⟩
   rw [if_neg c7] at H
   have c7b0 : decide (a0_1 < 1) = F := decide_eq_false c7
   clear c7
   have H' := Aside0.mk H
   clear H
   obtain ⟨hcz9_0, hfz9_0⟩ := Zy (v := (.string a0_0)) BK122.out 0
   obtain ⟨hcz9_1, hfz9_1⟩ := Zy (v := (.int .i64 a0_1)) BK122.out 1
   obtain ⟨hcz9_2, hfz9_2⟩ := Zy (v := (.int .i64 a0_2)) BK122.out 2
   obtain ⟨hcz9_3, hfz9_3⟩ := Zy (v := (.int .i64 a0_3)) BK122.out 3
   obtain ⟨hcz9_4, hfz9_4⟩ := Zy (v := (.int .i64 a0_4)) BK122.out 4
   obtain ⟨hcz9_5, hfz9_5⟩ := Zy (v := (.int .i64 a0_5)) BK122.out 5
   go_wp2
   go_meet
   case rel => exact ⟨_, (decide (a0_1 > 3)), (Zs), H', ⟨by first | omega | exact Nat.le_refl _⟩, ⟨Zu BK122.out⟩, ⟨Zc1 GE122.out⟩⟩
  case rest =>
   clear HC6
   try clear c1
   try clear p2
   try clear c5
   try clear c7
   try clear c7b0
   try clear hcz4_0
   try clear hcz4_1
   try clear hcz4_2
   try clear hcz4_3
   try clear hcz4_4
   try clear hcz4_5
   try clear hcz8_0
   try clear hcz8_1
   try clear hcz8_2
   try clear hcz8_3
   try clear hcz8_4
   try clear hcz8_5
   try clear hcz9_0
   try clear hcz9_1
   try clear hcz9_2
   try clear hcz9_3
   try clear hcz9_4
   try clear hcz9_5
   try clear hfz4_0
   try clear hfz4_1
   try clear hfz4_2
   try clear hfz4_3
   try clear hfz4_4
   try clear hfz4_5
   try clear hfz8_0
   try clear hfz8_1
   try clear hfz8_2
   try clear hfz8_3
   try clear hfz8_4
   try clear hfz8_5
   try clear hfz9_0
   try clear hfz9_1
   try clear hfz9_2
   try clear hfz9_3
   try clear hfz9_4
   try clear hfz9_5
   obtain ⟨kq, x8_5, rfl, HA, HJ5, BK122, HB⟩ := hcut
   cases kq with
   | zero => exact absurd HA.out (by simp [QaI.j0])
   | succ kj5 =>
    have H := HA.out
    clear HA
    simp only [QaI.j0] at H
    by_cases c10 : x8_5 = T
    ·subst c10
     have H1 : (some 2) = some r := by rw [if_pos rfl] at H; exact H
     clear H
     have H := H1
     clear H1
     obtain rfl := Option.some.inj H
     go_wp2
     go_ret
     exact ⟨Zq, Zc1 GE122.out⟩
    replace c10 := Bool.eq_false_iff.mpr c10
    subst c10
    have H1 : (if a0_2 < 0 then (QaI.j1 kj5 T a0_0 a0_1 a0_2 a0_3 a0_4 a0_5) else (QaI.j1 kj5 (decide (a0_2 ≥ 8)) a0_0 a0_1 a0_2 a0_3 a0_4 a0_5)) = some r := by rw [if_neg (show ¬ (F = T) by decide)] at H; exact H
    clear H
    have H := H1
    clear H1
    have HC11 := Aside0.mk H
    clear H
    go_upto_region 5 with (fail)
    go_cut [17] (fun v17 wc => ∃ (kq : Nat) (x17_10 : Bool), v17 = .bool x17_10 ∧ Aside0 (QaI.j1 kq x17_10 a0_0 a0_1 a0_2 a0_3 a0_4 a0_5 = some r) ∧ Aside0 (kq ≤ kj5) ∧ Aside0 (wc.heap[gb122]? = some (.cells #[.string a0_0, .int .i64 a0_1, .int .i64 a0_2, .int .i64 a0_3, .int .i64 a0_4, .int .i64 a0_5] 84 (0, 0))) ∧ Aside0 (Below w.heap.size w wc))
    case first =>
     have H := HC11.out
     clear HC11
     by_cases c12 : a0_2 < 0
     ·rw [if_pos c12] at H
      have c12b0 : decide (a0_2 < 0) = T := decide_eq_true c12
      clear c12
      have H' := Aside0.mk H
      clear H
      obtain ⟨hcz13_0, hfz13_0⟩ := Zy (v := (.string a0_0)) BK122.out 0
      obtain ⟨hcz13_1, hfz13_1⟩ := Zy (v := (.int .i64 a0_1)) BK122.out 1
      obtain ⟨hcz13_2, hfz13_2⟩ := Zy (v := (.int .i64 a0_2)) BK122.out 2
      obtain ⟨hcz13_3, hfz13_3⟩ := Zy (v := (.int .i64 a0_3)) BK122.out 3
      obtain ⟨hcz13_4, hfz13_4⟩ := Zy (v := (.int .i64 a0_4)) BK122.out 4
      obtain ⟨hcz13_5, hfz13_5⟩ := Zy (v := (.int .i64 a0_5)) BK122.out 5
      go_wp2
      go_meet
      case rel => exact ⟨_, (T), (Zs), H', ⟨by have := HJ5.out; first | omega | exact Nat.le_refl _⟩, ⟨Zu BK122.out⟩, ⟨Zc1 GE122.out⟩⟩
     rw [if_neg c12] at H
     have c12b0 : decide (a0_2 < 0) = F := decide_eq_false c12
     clear c12
     have H' := Aside0.mk H
     clear H
     obtain ⟨hcz14_0, hfz14_0⟩ := Zy (v := (.string a0_0)) BK122.out 0
     obtain ⟨hcz14_1, hfz14_1⟩ := Zy (v := (.int .i64 a0_1)) BK122.out 1
     obtain ⟨hcz14_2, hfz14_2⟩ := Zy (v := (.int .i64 a0_2)) BK122.out 2
     obtain ⟨hcz14_3, hfz14_3⟩ := Zy (v := (.int .i64 a0_3)) BK122.out 3
     obtain ⟨hcz14_4, hfz14_4⟩ := Zy (v := (.int .i64 a0_4)) BK122.out 4
     obtain ⟨hcz14_5, hfz14_5⟩ := Zy (v := (.int .i64 a0_5)) BK122.out 5
     go_wp2
     go_meet
     case rel => exact ⟨_, (decide (a0_2 ≥ 8)), (Zs), H', ⟨by have := HJ5.out; first | omega | exact Nat.le_refl _⟩, ⟨Zu BK122.out⟩, ⟨Zc1 GE122.out⟩⟩
    case rest =>
     clear HC11
     try clear c1
     try clear p2
     try clear c5
     try clear c7
     try clear c7b0
     try clear c10
     try clear c12
     try clear c12b0
     try clear hcz13_0
     try clear hcz13_1
     try clear hcz13_2
     try clear hcz13_3
     try clear hcz13_4
     try clear hcz13_5
     try clear hcz14_0
     try clear hcz14_1
     try clear hcz14_2
     try clear hcz14_3
     try clear hcz14_4
     try clear hcz14_5
     try clear hcz4_0
     try clear hcz4_1
     try clear hcz4_2
     try clear hcz4_3
     try clear hcz4_4
     try clear hcz4_5
     try clear hcz8_0
     try clear hcz8_1
     try clear hcz8_2
     try clear hcz8_3
     try clear hcz8_4
     try clear hcz8_5
     try clear hcz9_0
     try clear hcz9_1
     try clear hcz9_2
     try clear hcz9_3
     try clear hcz9_4
     try clear hcz9_5
     try clear hfz13_0
     try clear hfz13_1
     try clear hfz13_2
     try clear hfz13_3
     try clear hfz13_4
     try clear hfz13_5
     try clear hfz14_0
     try clear hfz14_1
     try clear hfz14_2
     try clear hfz14_3
     try clear hfz14_4
     try clear hfz14_5
     try clear hfz4_0
     try clear hfz4_1
     try clear hfz4_2
     try clear hfz4_3
     try clear hfz4_4
     try clear hfz4_5
     try clear hfz8_0
     try clear hfz8_1
     try clear hfz8_2
     try clear hfz8_3
     try clear hfz8_4
     try clear hfz8_5
     try clear hfz9_0
     try clear hfz9_1
     try clear hfz9_2
     try clear hfz9_3
     try clear hfz9_4
     try clear hfz9_5
     try clear p2
     obtain ⟨kq, x17_10, rfl, HA, HJ10, BK122, HB⟩ := hcut
     cases kq with
     | zero => exact absurd HA.out (by simp [QaI.j1])
     | succ kj10 =>
      have H := HA.out
      clear HA
      simp only [QaI.j1] at H
      by_cases c15 : x17_10 = T
      ·subst c15
       have H1 : (some 25) = some r := by rw [if_pos rfl] at H; exact H
       clear H
       have H := H1
       clear H1
       obtain rfl := Option.some.inj H
       go_wp2
       go_ret
       exact ⟨Zq, Zc1 GE122.out⟩
      replace c15 := Bool.eq_false_iff.mpr c15
      subst c15
      have H1 : (if a0_3 < 1 then (some 2) else (if a0_3 > 68719476736 then (some 2) else (if a0_1 = 1 then (if a0_3 = 1 then ((Qbf.f a0_4).bind fun t124 => (if t124 = T then ((Qbf.f a0_5).bind fun t125 => (if t125 = T then (some 0) else (some 2))) else (some 2))) else (some 2)) else ((Qbf.f a0_4).bind fun t126 => (if t126 = T then ((Qbf.f a0_5).bind fun t127 => (if t127 = T then (some 0) else (some 2))) else (some 2)))))) = some r := by rw [if_neg (show ¬ (F = T) by decide)] at H; exact H
      clear H
      have H := H1
      clear H1
      by_cases c16 : a0_3 < 1
      ·rw [if_pos c16] at H
       have c16b0 : decide (a0_3 < 1) = T := decide_eq_true c16
       clear c16
       obtain rfl := Option.some.inj H
       obtain ⟨hcz17_0, hfz17_0⟩ := Zy (v := (.string a0_0)) BK122.out 0
       obtain ⟨hcz17_1, hfz17_1⟩ := Zy (v := (.int .i64 a0_1)) BK122.out 1
       obtain ⟨hcz17_2, hfz17_2⟩ := Zy (v := (.int .i64 a0_2)) BK122.out 2
       obtain ⟨hcz17_3, hfz17_3⟩ := Zy (v := (.int .i64 a0_3)) BK122.out 3
       obtain ⟨hcz17_4, hfz17_4⟩ := Zy (v := (.int .i64 a0_4)) BK122.out 4
       obtain ⟨hcz17_5, hfz17_5⟩ := Zy (v := (.int .i64 a0_5)) BK122.out 5
       go_wp2
       go_ret
       exact ⟨Zq, Zc1 GE122.out⟩
      rw [if_neg c16] at H
      have c16b0 : decide (a0_3 < 1) = F := decide_eq_false c16
      clear c16
      by_cases c18 : a0_3 > 68719476736
      ·rw [if_pos c18] at H
       have c18b0 : decide (68719476736 < a0_3) = T := decide_eq_true c18
       clear c18
       obtain rfl := Option.some.inj H
       obtain ⟨hcz19_0, hfz19_0⟩ := Zy (v := (.string a0_0)) BK122.out 0
       obtain ⟨hcz19_1, hfz19_1⟩ := Zy (v := (.int .i64 a0_1)) BK122.out 1
       obtain ⟨hcz19_2, hfz19_2⟩ := Zy (v := (.int .i64 a0_2)) BK122.out 2
       obtain ⟨hcz19_3, hfz19_3⟩ := Zy (v := (.int .i64 a0_3)) BK122.out 3
       obtain ⟨hcz19_4, hfz19_4⟩ := Zy (v := (.int .i64 a0_4)) BK122.out 4
       obtain ⟨hcz19_5, hfz19_5⟩ := Zy (v := (.int .i64 a0_5)) BK122.out 5
       go_wp2
       go_ret
       exact ⟨Zq, Zc1 GE122.out⟩
      rw [if_neg c18] at H
      have c18b0 : decide (68719476736 < a0_3) = F := decide_eq_false c18
      clear c18
      by_cases c20 : a0_1 = 1
      ·rw [if_pos c20] at H
       have c20b0 : (a0_1 == 1) = T := beq_iff_eq.mpr c20
       have c20b1 : (a0_1 != 1) = F := bne_eq_false_iff_eq.mpr c20
       clear c20
       by_cases c21 : a0_3 = 1
       ·rw [if_pos c21] at H
        have c21b0 : (a0_3 == 1) = T := beq_iff_eq.mpr c21
        have c21b1 : (a0_3 != 1) = F := bne_eq_false_iff_eq.mpr c21
        clear c21
        replace H := Option.bind_eq_some_iff.mp H
        obtain ⟨t124, A220, H⟩ := H
        replace H : (if t124 = T then ((Qbf.f a0_5).bind fun t125 => (if t125 = T then (some 0) else (some 2))) else (some 2)) = some r := H
        have A22 := Aside0.mk A220
        clear A220
        by_cases c23 : t124 = T
        ·subst c23
         have H1 : ((Qbf.f a0_5).bind fun t125 => (if t125 = T then (some 0) else (some 2))) = some r := by rw [if_pos rfl] at H; exact H
         clear H
         have H := H1
         clear H1
         replace H := Option.bind_eq_some_iff.mp H
         obtain ⟨t125, A240, H⟩ := H
         replace H : (if t125 = T then (some 0) else (some 2)) = some r := H
         have A24 := Aside0.mk A240
         clear A240
         obtain ⟨hcz25_0, hfz25_0⟩ := Zy (v := (.string a0_0)) BK122.out 0
         obtain ⟨hcz25_1, hfz25_1⟩ := Zy (v := (.int .i64 a0_1)) BK122.out 1
         obtain ⟨hcz25_2, hfz25_2⟩ := Zy (v := (.int .i64 a0_2)) BK122.out 2
         obtain ⟨hcz25_3, hfz25_3⟩ := Zy (v := (.int .i64 a0_3)) BK122.out 3
         obtain ⟨hcz25_4, hfz25_4⟩ := Zy (v := (.int .i64 a0_4)) BK122.out 4
         obtain ⟨hcz25_5, hfz25_5⟩ := Zy (v := (.int .i64 a0_5)) BK122.out 5
         go_upto_if 26 with (first | (go_at_call 109; (with_reducible refine (Qbf.calls a0_4 T _ A22.out).mono ?_); rintro e w' ⟨rfl, ⟨nd, rfl⟩⟩) | (go_at_call 109; (with_reducible refine (Qbf.calls a0_5 t125 _ A24.out).mono ?_); rintro e w' ⟨rfl, ⟨nd, rfl⟩⟩))
         (try simp only [Act.put, Zj, Zk, Zm])
         by_cases c26 : t125 = T
         ·subst c26
          have H1 : (some 0) = some r := by rw [if_pos rfl] at H; exact H
          clear H
          have H := H1
          clear H1
          obtain rfl := Option.some.inj H
          go_wp2
          go_ret
          exact ⟨Zq, Zc1 GE122.out⟩
         replace c26 := Bool.eq_false_iff.mpr c26
         subst c26
         have H1 : (some 2) = some r := by rw [if_neg (show ¬ (F = T) by decide)] at H; exact H
         clear H
         have H := H1
         clear H1
         obtain rfl := Option.some.inj H
         go_wp2
         go_ret
         exact ⟨Zq, Zc1 GE122.out⟩
        replace c23 := Bool.eq_false_iff.mpr c23
        subst c23
        have H1 : (some 2) = some r := by rw [if_neg (show ¬ (F = T) by decide)] at H; exact H
        clear H
        have H := H1
        clear H1
        obtain rfl := Option.some.inj H
        obtain ⟨hcz27_0, hfz27_0⟩ := Zy (v := (.string a0_0)) BK122.out 0
        obtain ⟨hcz27_1, hfz27_1⟩ := Zy (v := (.int .i64 a0_1)) BK122.out 1
        obtain ⟨hcz27_2, hfz27_2⟩ := Zy (v := (.int .i64 a0_2)) BK122.out 2
        obtain ⟨hcz27_3, hfz27_3⟩ := Zy (v := (.int .i64 a0_3)) BK122.out 3
        obtain ⟨hcz27_4, hfz27_4⟩ := Zy (v := (.int .i64 a0_4)) BK122.out 4
        obtain ⟨hcz27_5, hfz27_5⟩ := Zy (v := (.int .i64 a0_5)) BK122.out 5
        go_wp2_with (first | (go_at_call 109; (with_reducible refine (Qbf.calls a0_4 F _ A22.out).mono ?_); rintro e w' ⟨rfl, ⟨nd, rfl⟩⟩))
        go_ret
        exact ⟨Zq, Zc1 GE122.out⟩
       rw [if_neg c21] at H
       have c21b0 : (a0_3 == 1) = F := beq_eq_false_iff_ne.mpr c21
       have c21b1 : (a0_3 != 1) = T := bne_iff_ne.mpr c21
       obtain rfl := Option.some.inj H
       obtain ⟨hcz28_0, hfz28_0⟩ := Zy (v := (.string a0_0)) BK122.out 0
       obtain ⟨hcz28_1, hfz28_1⟩ := Zy (v := (.int .i64 a0_1)) BK122.out 1
       obtain ⟨hcz28_2, hfz28_2⟩ := Zy (v := (.int .i64 a0_2)) BK122.out 2
       obtain ⟨hcz28_3, hfz28_3⟩ := Zy (v := (.int .i64 a0_3)) BK122.out 3
       obtain ⟨hcz28_4, hfz28_4⟩ := Zy (v := (.int .i64 a0_4)) BK122.out 4
       obtain ⟨hcz28_5, hfz28_5⟩ := Zy (v := (.int .i64 a0_5)) BK122.out 5
       go_wp2
       go_ret
       exact ⟨Zq, Zc1 GE122.out⟩
      rw [if_neg c20] at H
      have c20b0 : (a0_1 == 1) = F := beq_eq_false_iff_ne.mpr c20
      have c20b1 : (a0_1 != 1) = T := bne_iff_ne.mpr c20
      replace H := Option.bind_eq_some_iff.mp H
      obtain ⟨t126, A290, H⟩ := H
      replace H : (if t126 = T then ((Qbf.f a0_5).bind fun t127 => (if t127 = T then (some 0) else (some 2))) else (some 2)) = some r := H
      have A29 := Aside0.mk A290
      clear A290
      by_cases c30 : t126 = T
      ·subst c30
       have H1 : ((Qbf.f a0_5).bind fun t127 => (if t127 = T then (some 0) else (some 2))) = some r := by rw [if_pos rfl] at H; exact H
       clear H
       have H := H1
       clear H1
       replace H := Option.bind_eq_some_iff.mp H
       obtain ⟨t127, A310, H⟩ := H
       replace H : (if t127 = T then (some 0) else (some 2)) = some r := H
       have A31 := Aside0.mk A310
       clear A310
       obtain ⟨hcz32_0, hfz32_0⟩ := Zy (v := (.string a0_0)) BK122.out 0
       obtain ⟨hcz32_1, hfz32_1⟩ := Zy (v := (.int .i64 a0_1)) BK122.out 1
       obtain ⟨hcz32_2, hfz32_2⟩ := Zy (v := (.int .i64 a0_2)) BK122.out 2
       obtain ⟨hcz32_3, hfz32_3⟩ := Zy (v := (.int .i64 a0_3)) BK122.out 3
       obtain ⟨hcz32_4, hfz32_4⟩ := Zy (v := (.int .i64 a0_4)) BK122.out 4
       obtain ⟨hcz32_5, hfz32_5⟩ := Zy (v := (.int .i64 a0_5)) BK122.out 5
       go_upto_if 26 with (first | (go_at_call 109; (with_reducible refine (Qbf.calls a0_4 T _ A29.out).mono ?_); rintro e w' ⟨rfl, ⟨nd, rfl⟩⟩) | (go_at_call 109; (with_reducible refine (Qbf.calls a0_5 t127 _ A31.out).mono ?_); rintro e w' ⟨rfl, ⟨nd, rfl⟩⟩))
       (try simp only [Act.put, Zj, Zk, Zm])
       by_cases c33 : t127 = T
       ·subst c33
        have H1 : (some 0) = some r := by rw [if_pos rfl] at H; exact H
        clear H
        have H := H1
        clear H1
        obtain rfl := Option.some.inj H
        go_wp2
        go_ret
        exact ⟨Zq, Zc1 GE122.out⟩
       replace c33 := Bool.eq_false_iff.mpr c33
       subst c33
       have H1 : (some 2) = some r := by rw [if_neg (show ¬ (F = T) by decide)] at H; exact H
       clear H
       have H := H1
       clear H1
       obtain rfl := Option.some.inj H
       go_wp2
       go_ret
       exact ⟨Zq, Zc1 GE122.out⟩
      replace c30 := Bool.eq_false_iff.mpr c30
      subst c30
      have H1 : (some 2) = some r := by rw [if_neg (show ¬ (F = T) by decide)] at H; exact H
      clear H
      have H := H1
      clear H1
      obtain rfl := Option.some.inj H
      obtain ⟨hcz34_0, hfz34_0⟩ := Zy (v := (.string a0_0)) BK122.out 0
      obtain ⟨hcz34_1, hfz34_1⟩ := Zy (v := (.int .i64 a0_1)) BK122.out 1
      obtain ⟨hcz34_2, hfz34_2⟩ := Zy (v := (.int .i64 a0_2)) BK122.out 2
      obtain ⟨hcz34_3, hfz34_3⟩ := Zy (v := (.int .i64 a0_3)) BK122.out 3
      obtain ⟨hcz34_4, hfz34_4⟩ := Zy (v := (.int .i64 a0_4)) BK122.out 4
      obtain ⟨hcz34_5, hfz34_5⟩ := Zy (v := (.int .i64 a0_5)) BK122.out 5
      go_wp2_with (first | (go_at_call 109; (with_reducible refine (Qbf.calls a0_4 F _ A29.out).mono ?_); rintro e w' ⟨rfl, ⟨nd, rfl⟩⟩))
      go_ret
      exact ⟨Zq, Zc1 GE122.out⟩
 replace c5 := Bool.eq_false_iff.mpr c5
 subst c5
 have H1 : (some 10) = some r := by rw [if_neg (show ¬ (F = T) by decide)] at H; exact H
 clear H
 have H := H1
 clear H1
 obtain rfl := Option.some.inj H
 go_wp2
 go_ret
 exact ⟨Zq, Zc1 GE122.out⟩
def Qa4.j0 : Nat → Int → Int → Bool → Option (Int × Int)
 | 0, _, _, _ => none
 | k + 1, x0, x1, x15 => if x15 = T then (some (0, 2)) else ((Qbe.f x0).bind fun t130 => ((Qbe.f x1).bind fun t131 => ((Qbg.f t130 t131).bind fun bt132 => (if bt132.1 > 0 then (some (0, 3)) else ((Qa8.f bt132.2 (!((decide (x0 < 0)) == (decide (x1 < 0))))).bind fun bt134 => (some (bt134.1, bt134.2)))))))
def Qa4.f (k : Nat) (a0 : Int) (a1 : Int) : Option (Int × Int) := (Qbk.f a0).bind fun t128 => (if t128 = T then ((Qbk.f a1).bind fun t129 => (Qa4.j0 k a0 a1 (!t129))) else (Qa4.j0 k a0 a1 T))
theorem Qa4.mono_l : ∀ k, (∀ y0 y1 y2, LeO (Qa4.j0 k y0 y1 y2) (Qa4.j0 (k + 1) y0 y1 y2))
 | 0 => fun _ _ _ r h => by simp [Qa4.j0] at h
 | k + 1 => by
  have ih0 := Qa4.mono_l k
  intro y0 y1 y2
  unfold Qa4.j0
  exact ZM1 ih0
theorem Qa4.mono : ∀ a0 a1 k, LeO (Qa4.f k a0 a1) (Qa4.f (k + 1) a0 a1) := by
 intro a0 a1 k
 have ih0 := Qa4.mono_l k
 unfold Qa4.f
 exact ZM1 ih0
set_option maxHeartbeats 8000000 in
theorem Qa4.calls (k : Nat) (a0 : Int) (a1 : Int) (r1 : Int) (r2 : Int) (w : World) (h : Qa4.f k a0 a1 = some (r1, r2)) :
  Calls Try.prog 125 #[.int .i64 a0, .int .i64 a1] w fun e w' => e = .returned (.tuple #[.int .i64 r1, .int .i64 r2]) ∧ Drawn0 w w' := by
 have H : ((Qbk.f a0).bind fun t128 => (if t128 = T then ((Qbk.f a1).bind fun t129 => (Qa4.j0 k a0 a1 (!t129))) else (Qa4.j0 k a0 a1 T))) = some (r1, r2) := h
 clear h
 have HC3 := Aside0.mk H
 clear H
 go_enter Try.func125, Try.ntmps125
 go_upto_region 1 with (fail)
 go_cut [15] (fun v15 wc => ∃ (kq : Nat) (x15_2 : Bool), v15 = .bool x15_2 ∧ Aside0 (Qa4.j0 kq a0 a1 x15_2 = some (r1, r2)) ∧ Aside0 (kq ≤ k) ∧ Drawn0 w wc)
 case first =>
  have H := HC3.out
  clear HC3
  replace H := Option.bind_eq_some_iff.mp H
  obtain ⟨t128, A40, H⟩ := H
  replace H : (if t128 = T then ((Qbk.f a1).bind fun t129 => (Qa4.j0 k a0 a1 (!t129))) else (Qa4.j0 k a0 a1 T)) = some (r1, r2) := H
  have A4 := Aside0.mk A40
  clear A40
  by_cases c5 : t128 = T
  ·subst c5
   have H1 : ((Qbk.f a1).bind fun t129 => (Qa4.j0 k a0 a1 (!t129))) = some (r1, r2) := by rw [if_pos rfl] at H; exact H
   clear H
   have H := H1
   clear H1
   replace H := Option.bind_eq_some_iff.mp H
   obtain ⟨t129, A60, H⟩ := H
   replace H : (Qa4.j0 k a0 a1 (!t129)) = some (r1, r2) := H
   have A6 := Aside0.mk A60
   clear A60
   have H' := Aside0.mk H
   clear H
   go_wp2_with (first | ((with_reducible refine Qay (f := 87) rfl ?_); refine goesL_ (some 9) rfl rfl Try.func87 (by kernel_rfl) rfl #[.int .i64 a0] rfl (Zl) ?_; (with_reducible refine (Qbk.calls a0 T _ A4.out).mono ?_); rintro e w' ⟨rfl, ⟨nd, rfl⟩⟩; refine ⟨_, rfl, ?_⟩) | (go_at_call 87; (with_reducible refine (Qbk.calls a1 t129 _ A6.out).mono ?_); rintro e w' ⟨rfl, ⟨nd, rfl⟩⟩))
   go_meet
   case rel => exact ⟨_, (!t129), (Zs), H', ⟨by first | omega | exact Nat.le_refl _⟩, Zd⟩
  replace c5 := Bool.eq_false_iff.mpr c5
  subst c5
  have H1 : (Qa4.j0 k a0 a1 T) = some (r1, r2) := by rw [if_neg (show ¬ (F = T) by decide)] at H; exact H
  clear H
  have H := H1
  clear H1
  have H' := Aside0.mk H
  clear H
  go_wp2_with (first | ((with_reducible refine Qay (f := 87) rfl ?_); refine goesL_ (some 9) rfl rfl Try.func87 (by kernel_rfl) rfl #[.int .i64 a0] rfl (Zl) ?_; (with_reducible refine (Qbk.calls a0 F _ A4.out).mono ?_); rintro e w' ⟨rfl, ⟨nd, rfl⟩⟩; refine ⟨_, rfl, ?_⟩))
  go_meet
  case rel => exact ⟨_, (T), (Zs), H', ⟨by first | omega | exact Nat.le_refl _⟩, Zd⟩
 case rest =>
  clear HC3
  try clear c1
  try clear p2
  try clear c5
  obtain ⟨kq, x15_2, rfl, HA, HJ2, ⟨mc2, rfl⟩⟩ := hcut
  cases kq with
  | zero => exact absurd HA.out (by simp [Qa4.j0])
  | succ kj2 =>
   have H := HA.out
   clear HA
   simp only [Qa4.j0] at H
   by_cases c7 : x15_2 = T
   ·subst c7
    have H1 : (some (0, 2)) = some (r1, r2) := by rw [if_pos rfl] at H; exact H
    clear H
    have H := H1
    clear H1
    simp only [Option.some.injEq, Prod.mk.injEq] at H
    obtain ⟨rfl, rfl⟩ := H
    go_wp2
    go_ret2
    exact ⟨Zs, Zd⟩
   replace c7 := Bool.eq_false_iff.mpr c7
   subst c7
   have H1 : ((Qbe.f a0).bind fun t130 => ((Qbe.f a1).bind fun t131 => ((Qbg.f t130 t131).bind fun bt132 => (if bt132.1 > 0 then (some (0, 3)) else ((Qa8.f bt132.2 (!((decide (a0 < 0)) == (decide (a1 < 0))))).bind fun bt134 => (some (bt134.1, bt134.2))))))) = some (r1, r2) := by rw [if_neg (show ¬ (F = T) by decide)] at H; exact H
   clear H
   have H := H1
   clear H1
   replace H := Option.bind_eq_some_iff.mp H
   obtain ⟨t130, A80, H⟩ := H
   replace H : ((Qbe.f a1).bind fun t131 => ((Qbg.f t130 t131).bind fun bt132 => (if bt132.1 > 0 then (some (0, 3)) else ((Qa8.f bt132.2 (!((decide (a0 < 0)) == (decide (a1 < 0))))).bind fun bt134 => (some (bt134.1, bt134.2)))))) = some (r1, r2) := H
   have A8 := Aside0.mk A80
   clear A80
   replace H := Option.bind_eq_some_iff.mp H
   obtain ⟨t131, A90, H⟩ := H
   replace H : ((Qbg.f t130 t131).bind fun bt132 => (if bt132.1 > 0 then (some (0, 3)) else ((Qa8.f bt132.2 (!((decide (a0 < 0)) == (decide (a1 < 0))))).bind fun bt134 => (some (bt134.1, bt134.2))))) = some (r1, r2) := H
   have A9 := Aside0.mk A90
   clear A90
   replace H := Option.bind_eq_some_iff.mp H
   obtain ⟨⟨t132, t133⟩, A100, H⟩ := H
   replace H : (if t132 > 0 then (some (0, 3)) else ((Qa8.f t133 (!((decide (a0 < 0)) == (decide (a1 < 0))))).bind fun bt134 => (some (bt134.1, bt134.2)))) = some (r1, r2) := H
   have A10 := Aside0.mk A100
   clear A100
   go_upto_if 25 with (first | ((with_reducible refine Qay (f := 89) rfl ?_); refine goesL_ (some 18) rfl rfl Try.func89 (by kernel_rfl) rfl #[.int .i64 a0] rfl (Zl) ?_; (with_reducible refine (Qbe.calls a0 t130 _ A8.out).mono ?_); rintro e w' ⟨rfl, ⟨nd, rfl⟩⟩; refine ⟨_, rfl, ?_⟩) | ((with_reducible refine Qay (f := 89) rfl ?_); refine goesL_ (some 20) rfl rfl Try.func89 (by kernel_rfl) rfl #[.int .i64 a1] rfl (Zl) ?_; (with_reducible refine (Qbe.calls a1 t131 _ A9.out).mono ?_); rintro e w' ⟨rfl, ⟨nd, rfl⟩⟩; refine ⟨_, rfl, ?_⟩) | ((with_reducible refine Qay (f := 88) rfl ?_); refine goesL_ (some 21) rfl rfl Try.func88 (by kernel_rfl) rfl #[.int .u64 t130, .int .u64 t131] rfl (Zl) ?_; (with_reducible refine (Qbg.calls t130 t131 t132 t133 _ A10.out).mono ?_); rintro e w' ⟨rfl, ⟨nd, rfl⟩⟩; refine ⟨_, rfl, ?_⟩))
   (try simp only [Act.put, Zj, Zk, Zm])
   by_cases c11 : t132 > 0
   ·rw [if_pos c11] at H
    have c11b0 : decide (0 < t132) = T := decide_eq_true c11
    clear c11
    (try simp only [c11b0])
    simp only [Option.some.injEq, Prod.mk.injEq] at H
    obtain ⟨rfl, rfl⟩ := H
    go_wp2
    go_ret2
    exact ⟨Zs, Zd⟩
   rw [if_neg c11] at H
   have c11b0 : decide (0 < t132) = F := decide_eq_false c11
   clear c11
   (try simp only [c11b0])
   replace H := Option.bind_eq_some_iff.mp H
   obtain ⟨⟨t134, t135⟩, A120, H⟩ := H
   replace H : (some (t134, t135)) = some (r1, r2) := H
   have A12 := Aside0.mk A120
   clear A120
   simp only [Option.some.injEq, Prod.mk.injEq] at H
   obtain ⟨rfl, rfl⟩ := H
   go_wp2_with (first | ((with_reducible refine Qay (f := 92) rfl ?_); refine goesL_ (some 32) rfl rfl Try.func92 (by kernel_rfl) rfl #[.int .u64 t133, .bool (!((decide (a0 < 0)) == (decide (a1 < 0))))] rfl (Zl) ?_; (with_reducible refine (Qa8.calls t133 (!((decide (a0 < 0)) == (decide (a1 < 0)))) t134 t135 _ A12.out).mono ?_); rintro e w' ⟨rfl, ⟨nd, rfl⟩⟩; refine ⟨_, rfl, ?_⟩))
   go_ret2
   exact ⟨Zs, Zd⟩
def Qbt.f (k : Nat) (a0_0 : ByteArray) (a0_1 : Int) (a0_2 : Int) (a0_3 : Int) (a0_4 : Int) (a0_5 : Int) (a1 : Int) : Option (Int × Int) := (QaI.f k a0_0 a0_1 a0_2 a0_3 a0_4 a0_5).bind fun t137 => (if t137 = 0 then ((QbK.f a1).bind fun t138 => (if t138 = T then ((Qa4.f k a1 a0_3).bind fun bt139 => (some (bt139.1, bt139.2))) else (some (0, 18)))) else (some (0, t137)))
theorem Qbt.mono : ∀ a0 a1 a2 a3 a4 a5 a6 k, LeO (Qbt.f k a0 a1 a2 a3 a4 a5 a6) (Qbt.f (k + 1) a0 a1 a2 a3 a4 a5 a6) := by
 intro a0 a1 a2 a3 a4 a5 a6 k
 unfold Qbt.f
 exact ZM2 QaI.mono Qa4.mono
set_option maxHeartbeats 8000000 in
theorem Qbt.calls (k : Nat) (a0_0 : ByteArray) (a0_1 : Int) (a0_2 : Int) (a0_3 : Int) (a0_4 : Int) (a0_5 : Int) (a1 : Int) (r1 : Int) (r2 : Int) (w : World) (h : Qbt.f k a0_0 a0_1 a0_2 a0_3 a0_4 a0_5 a1 = some (r1, r2)) :
  Calls Try.prog 114 #[.agg #[.string a0_0, .int .i64 a0_1, .int .i64 a0_2, .int .i64 a0_3, .int .i64 a0_4, .int .i64 a0_5], .int .i64 a1] w fun e w' => e = .returned (.tuple #[.int .i64 r1, .int .i64 r2]) ∧ Below w.heap.size w w' := by
 have hu84 := Try.underlying84
 have HB := Aside0.mk (Below.refl w.heap.size w)
 have H : ((QaI.f k a0_0 a0_1 a0_2 a0_3 a0_4 a0_5).bind fun t137 => (if t137 = 0 then ((QbK.f a1).bind fun t138 => (if t138 = T then ((Qa4.f k a1 a0_3).bind fun bt139 => (some (bt139.1, bt139.2))) else (some (0, 18)))) else (some (0, t137)))) = some (r1, r2) := h
 clear h
 replace H := Option.bind_eq_some_iff.mp H
 obtain ⟨t137, A30, H⟩ := H
 replace H : (if t137 = 0 then ((QbK.f a1).bind fun t138 => (if t138 = T then ((Qa4.f k a1 a0_3).bind fun bt139 => (some (bt139.1, bt139.2))) else (some (0, 18)))) else (some (0, t137))) = some (r1, r2) := H
 have A3 := Aside0.mk A30
 clear A30
 go_enter Try.func114, Try.ntmps114
 go_upto_if 10 with (first | ((with_reducible refine QaJ (N := 2) rfl ?_); refine Zbx (N := 2) (cs := #[.string a0_0, .int .i64 a0_1, .int .i64 a0_2, .int .i64 a0_3, .int .i64 a0_4, .int .i64 a0_5]) (t := 84) ?_; intro gb136 hg w4 hbox hb; have BK136 := Aside0.mk (hbox); have GW136 := Aside0.mk (Zt w hg (Zb)); have GE136 := GW136; replace HB := Aside0.mk (Qap (Zb) hb); clear hb hbox hg; obtain ⟨hcz5_0, hfz5_0⟩ := Zy (v := (.string a0_0)) BK136.out 0; obtain ⟨hcz5_1, hfz5_1⟩ := Zy (v := (.int .i64 a0_1)) BK136.out 1; obtain ⟨hcz5_2, hfz5_2⟩ := Zy (v := (.int .i64 a0_2)) BK136.out 2; obtain ⟨hcz5_3, hfz5_3⟩ := Zy (v := (.int .i64 a0_3)) BK136.out 3; obtain ⟨hcz5_4, hfz5_4⟩ := Zy (v := (.int .i64 a0_4)) BK136.out 4; obtain ⟨hcz5_5, hfz5_5⟩ := Zy (v := (.int .i64 a0_5)) BK136.out 5) | ((with_reducible refine Qay (f := 78) rfl ?_); refine goesL_ (some 8) rfl rfl Try.func78 (by kernel_rfl) rfl #[.agg #[.string a0_0, .int .i64 a0_1, .int .i64 a0_2, .int .i64 a0_3, .int .i64 a0_4, .int .i64 a0_5]] rfl (Zl) ?_; (with_reducible refine (QaI.calls k a0_0 a0_1 a0_2 a0_3 a0_4 a0_5 t137 _ A3.out).mono ?_); rintro e w6 ⟨rfl, hb⟩; refine ⟨_, rfl, ?_⟩; replace BK136 := Aside0.mk (Zi BK136.out hb); replace HB := Aside0.mk (Qap (Zc1 GE136.out) hb); (try clear hb); (try clear hb2); (try clear hk); (try clear hi)))
 (try simp only [Act.put, Zj, Zk, Zm])
 by_cases c7 : t137 = 0
 ·rw [if_pos c7] at H
  have c7b0 : (t137 == 0) = T := beq_iff_eq.mpr c7
  have c7b1 : (t137 != 0) = F := bne_eq_false_iff_eq.mpr c7
  clear c7
  (try simp only [c7b0, c7b1])
  replace H := Option.bind_eq_some_iff.mp H
  obtain ⟨t138, A80, H⟩ := H
  replace H : (if t138 = T then ((Qa4.f k a1 a0_3).bind fun bt139 => (some (bt139.1, bt139.2))) else (some (0, 18))) = some (r1, r2) := H
  have A8 := Aside0.mk A80
  clear A80
  go_upto_if 14 with (first | ((with_reducible refine Qay (f := 80) rfl ?_); refine goesL_ (some 13) rfl rfl Try.func80 (by kernel_rfl) rfl #[.int .i64 a1] rfl (Zl) ?_; (with_reducible refine (QbK.calls a1 t138 _ A8.out).mono ?_); rintro e w' ⟨rfl, ⟨nd, rfl⟩⟩; refine ⟨_, rfl, ?_⟩))
  (try simp only [Act.put, Zj, Zk, Zm])
  by_cases c9 : t138 = T
  ·subst c9
   have H1 : ((Qa4.f k a1 a0_3).bind fun bt139 => (some (bt139.1, bt139.2))) = some (r1, r2) := by rw [if_pos rfl] at H; exact H
   clear H
   have H := H1
   clear H1
   replace H := Option.bind_eq_some_iff.mp H
   obtain ⟨⟨t139, t140⟩, A100, H⟩ := H
   replace H : (some (t139, t140)) = some (r1, r2) := H
   have A10 := Aside0.mk A100
   clear A100
   simp only [Option.some.injEq, Prod.mk.injEq] at H
   obtain ⟨rfl, rfl⟩ := H
   obtain ⟨hcz11_0, hfz11_0⟩ := Zy (v := (.string a0_0)) BK136.out 0
   obtain ⟨hcz11_1, hfz11_1⟩ := Zy (v := (.int .i64 a0_1)) BK136.out 1
   obtain ⟨hcz11_2, hfz11_2⟩ := Zy (v := (.int .i64 a0_2)) BK136.out 2
   obtain ⟨hcz11_3, hfz11_3⟩ := Zy (v := (.int .i64 a0_3)) BK136.out 3
   obtain ⟨hcz11_4, hfz11_4⟩ := Zy (v := (.int .i64 a0_4)) BK136.out 4
   obtain ⟨hcz11_5, hfz11_5⟩ := Zy (v := (.int .i64 a0_5)) BK136.out 5
   go_wp2_with (first | ((with_reducible refine Qay (f := 125) rfl ?_); refine goesL_ (some 18) rfl rfl Try.func125 (by kernel_rfl) rfl #[.int .i64 a1, .int .i64 a0_3] rfl (Zl) ?_; (with_reducible refine (Qa4.calls k a1 a0_3 t139 t140 _ A10.out).mono ?_); rintro e w' ⟨rfl, ⟨nd, rfl⟩⟩; refine ⟨_, rfl, ?_⟩))
   go_ret2
   exact ⟨Zq, Zc1 GE136.out⟩
  replace c9 := Bool.eq_false_iff.mpr c9
  subst c9
  have H1 : (some (0, 18)) = some (r1, r2) := by rw [if_neg (show ¬ (F = T) by decide)] at H; exact H
  clear H
  have H := H1
  clear H1
  simp only [Option.some.injEq, Prod.mk.injEq] at H
  obtain ⟨rfl, rfl⟩ := H
  go_wp2
  go_ret2
  exact ⟨Zq, Zc1 GE136.out⟩
 rw [if_neg c7] at H
 have c7b0 : (t137 == 0) = F := beq_eq_false_iff_ne.mpr c7
 have c7b1 : (t137 != 0) = T := bne_iff_ne.mpr c7
 (try simp only [c7b0, c7b1])
 simp only [Option.some.injEq, Prod.mk.injEq] at H
 obtain ⟨rfl, rfl⟩ := H
 go_wp2
 go_ret2
 exact ⟨Zq, Zc1 GE136.out⟩
def QbQ.f (s a0 : ByteArray) : Option Bool := some (decide (a0.toList = s.toList))
set_option maxHeartbeats 1000000 in
theorem QbQ.calls (D : Addr) (s : ByteArray) (a0_0 : ByteArray) (a0_1 : Int) (r : Bool) (w : World) (hd : w.cell? D = some (.string s)) (h : QbQ.f s a0_0 = some r) :
  Calls Try.prog 124 #[.agg #[.string a0_0, .int .i64 a0_1], .pointer (some D)] w fun e w' => e = .returned (.bool r) ∧ Below w.heap.size w w' := by
 have hu87 := Try.underlying98
 have hd1 := hd
 have ld : D.block < w.heap.size := World.block_lt_of_cell? _ _ (by rw [hd])
 have H := Aside0.mk (Option.some.inj h)
 clear h
 by_cases c : a0_0.toList = s.toList
 all_goals
  go_enter Try.func124, Try.ntmps124
  go_wp2
  go_ret
  refine ⟨congrArg Ending.returned (congrArg Value.bool ?_), by repeat (first | exact Below.refl _ _ | apply Qaf | apply Qaa | apply QbW)⟩
  rw [← H.out]
  simp [c]
def Qa6.l0 : Nat → List (S98) → ByteArray → Int → Int → Option (Int)
 | 0, _, _, _, _ => none
 | k + 1, x0, s, x7, x8 => if x8 < x7 then (if 0 ≤ x8 then (if x8 < (x0.length : Int) then ((QbQ.f s ((rd_T98 x0 x8).f0)).bind fun t109 => (if t109 = T then (some x8) else (Qa6.l0 k x0 s x7 (wrap64 (x8 + 1))))) else (none)) else (none)) else (some (-1))
def Qa6.f (k : Nat) (l0 : List (S98)) (s : ByteArray) : Option (Int) := Qa6.l0 k l0 s (l0.length : Int) 0
theorem Qa6.mono_l : ∀ k, (∀ y0 y1 y2 y3, LeO (Qa6.l0 k y0 y1 y2 y3) (Qa6.l0 (k + 1) y0 y1 y2 y3))
 | 0 => fun _ _ _ _ r h => by simp [Qa6.l0] at h
 | k + 1 => by
  have ih0 := Qa6.mono_l k
  intro y0 y1 y2 y3
  unfold Qa6.l0
  exact ZM1 ih0
theorem Qa6.mono : ∀ a0 a1 k, LeO (Qa6.f k a0 a1) (Qa6.f (k + 1) a0 a1) := by
 intro a0 a1 k
 have ih0 := Qa6.mono_l k
 unfold Qa6.f
 exact ZM1 ih0
set_option maxHeartbeats 8000000 in
theorem Qa6.calls (k : Nat) (D : Addr) (s : ByteArray) (A0 : Option Addr) (c0 : Nat) (l0 : List (S98)) (r : Int) (w : World) (hD : Aside0 (w.cell? D = some (.string s))) (hr0 : Kd.C k98 w A0 l0.length l0) (hc0 : l0.length ≤ c0) (h : Qa6.f k l0 s = some r) :
  Calls Try.prog 123 #[.slice A0 l0.length c0, .func (.func 124) #[] #[.pointer (some D)]] w fun e w' => e = .returned (.int .i64 r) ∧ Below w.heap.size w w' := by
 have hu87 := Try.underlying98
 have HR0 := Aside0.mk hr0
 have HC0 := Aside0.mk hc0
 clear hr0 hc0
 have HB := Aside0.mk (Below.refl w.heap.size w)
 have H : (Qa6.l0 k l0 s (l0.length : Int) 0) = some r := h
 clear h
 have H' := Aside0.mk H
 clear H
 go_enter Try.func123, Try.ntmps123
 go_wp2
 go_loopg [8] k (fun kq v8 w' => ∃ (x8_1 : Int), v8 = .int .i64 x8_1 ∧ Aside0 (Qa6.l0 kq l0 s (l0.length : Int) x8_1 = some r) ∧ Aside0 (kq ≤ k) ∧ Aside0 (Below w.heap.size w w'))
 case atStart => exact ⟨(0), (Zs), H', ⟨Nat.le_refl _⟩, ⟨Zb⟩⟩
 case round =>
  clear H'
  try clear p2
  obtain ⟨x8_1, rfl, HA, HK1, HB⟩ := hrel
  cases gk with
  | zero => exact absurd HA.out (by simp [Qa6.l0])
  | succ k1 =>
   have H := HA.out
   clear HA
   simp only [Qa6.l0] at H
   by_cases c3 : x8_1 < (l0.length : Int)
   ·rw [if_pos c3] at H
    have c3b0 : decide (x8_1 < (l0.length : Int)) = T := decide_eq_true c3
    clear c3
    by_cases c4 : 0 ≤ x8_1
    ·rw [if_pos c4] at H
     have c4b0 : decide (0 ≤ x8_1) = T := decide_eq_true c4
     clear c4
     by_cases c5 : x8_1 < (l0.length : Int)
     ·rw [if_pos c5] at H
      have c5b0 : decide (x8_1 < (l0.length : Int)) = T := decide_eq_true c5
      clear c5
      replace H := Option.bind_eq_some_iff.mp H
      obtain ⟨t109, A60, H⟩ := H
      replace H : (if t109 = T then (some x8_1) else (Qa6.l0 k1 l0 s (l0.length : Int) (wrap64 (x8_1 + 1)))) = some r := H
      have A6 := Aside0.mk A60
      clear A60
      by_cases c7 : t109 = T
      ·subst c7
       have H1 : (some x8_1) = some r := by rw [if_pos rfl] at H; exact H
       clear H
       have H := H1
       clear H1
       obtain rfl := Option.some.inj H
       have p108 : 0 ≤ (x8_1 : Int) := Ze
       have q108 : x8_1 < (l0.length : Int) := Ze
       obtain ⟨ad108, e108, hx108_0, hx108_1⟩ := at_T98 HR0.out x8_1 p108 q108
       cases e108
       replace hx108_0 := Zx HB.out hx108_0
       replace hx108_1 := Zx HB.out hx108_1
       replace p108 := eq_true p108
       replace q108 := eq_true q108
       go_wp2_with (first | (go_at_call 124; refine (QbQ.calls D s ((rd_T98 l0 x8_1).f0) ((rd_T98 l0 x8_1).f1) T _ ((HB.out.cell (World.block_lt_of_cell? w _ hD.out)).trans hD.out) A6.out).mono ?_; rintro e w8 ⟨rfl, hb⟩; replace HB := Aside0.mk (Qap (Zb) hb); (try clear hb); (try clear hb2); (try clear hk); (try clear hi)))
       go_ret
       exact ⟨Zq, Zb⟩
      replace c7 := Bool.eq_false_iff.mpr c7
      subst c7
      have H1 : (Qa6.l0 k1 l0 s (l0.length : Int) (wrap64 (x8_1 + 1))) = some r := by rw [if_neg (show ¬ (F = T) by decide)] at H; exact H
      clear H
      have H := H1
      clear H1
      have H' := Aside0.mk H
      clear H
      have p108 : 0 ≤ (x8_1 : Int) := Ze
      have q108 : x8_1 < (l0.length : Int) := Ze
      obtain ⟨ad108, e108, hx108_0, hx108_1⟩ := at_T98 HR0.out x8_1 p108 q108
      cases e108
      replace hx108_0 := Zx HB.out hx108_0
      replace hx108_1 := Zx HB.out hx108_1
      replace p108 := eq_true p108
      replace q108 := eq_true q108
      go_wp2_with (first | (go_at_call 124; refine (QbQ.calls D s ((rd_T98 l0 x8_1).f0) ((rd_T98 l0 x8_1).f1) F _ ((HB.out.cell (World.block_lt_of_cell? w _ hD.out)).trans hD.out) A6.out).mono ?_; rintro e w9 ⟨rfl, hb⟩; replace HB := Aside0.mk (Qap (Zb) hb); (try clear hb); (try clear hb2); (try clear hk); (try clear hi)))
      go_roundg k1
      case measure => have := HK1.out; omega
      case rel => exact ⟨(wrap64 (x8_1 + 1)), (Zs), H', ⟨by have := HK1.out; omega⟩, ⟨Zb⟩⟩
     rw [if_neg c5] at H
     exact absurd H (by simp)
    rw [if_neg c4] at H
    exact absurd H (by simp)
   rw [if_neg c3] at H
   have c3b0 : decide (x8_1 < (l0.length : Int)) = F := decide_eq_false c3
   clear c3
   obtain rfl := Option.some.inj H
   go_wp2
   go_ret
   exact ⟨Zq, Zb⟩
def Qbs.f (k : Nat) (l0 : List S98) (a1 : ByteArray) : Option (Int × Bool) := (Qa6.f k l0 a1).bind fun t => some (mx t 0, decide (t ≥ 0))
theorem Qbs.mono : ∀ a0 a1 k, LeO (Qbs.f k a0 a1) (Qbs.f (k + 1) a0 a1) := by
 intro a0 a1 k
 unfold Qbs.f
 exact LeO.bind (Qa6.mono _ _ _) (fun _ => LeO.refl _)
set_option maxHeartbeats 8000000 in
theorem Qbs.calls (k : Nat) (A0 : Option Addr) (c0 : Nat) (l0 : List S98) (a1 : ByteArray) (r1 : Int) (r2 : Bool) (w : World) (hr0 : Kd.C k98 w A0 l0.length l0) (hc0 : l0.length ≤ c0) (h : Qbs.f k l0 a1 = some (r1, r2)) :
  Calls Try.prog 112 #[.slice A0 l0.length c0, .string a1] w fun e w' => e = .returned (.tuple #[.int .i64 r1, .bool r2]) ∧ Below w.heap.size w w' := by
 have HR := Aside0.mk hr0
 have HC := Aside0.mk hc0
 clear hr0 hc0
 obtain ⟨t, ht, h⟩ := Option.bind_eq_some_iff.1 h
 have HT := Aside0.mk ht
 clear ht
 simp only [Option.some.injEq, Prod.mk.injEq] at h
 obtain ⟨rfl, rfl⟩ := h
 go_enter Try.func112, Try.ntmps112
 go_wp2_with fail
 refine (Qa6.calls k ⟨w.heap.size, 0, none⟩ a1 A0 c0 l0 t _ ⟨?_⟩ (Kd.C_below HR.out ?_) HC.out HT.out).mono ?_
 ·go_simp
 ·repeat (first | exact Below.refl _ _ | apply Qaf)
 rintro e w1 ⟨rfl, hb⟩
 have HB := Aside0.mk ((Qaf (Below.refl w.heap.size w) (.cells #[.string a1] 9 (0, 0))).trans (hb.mono (by simp)))
 clear hb
 by_cases ht0 : t < 0
 ·go_wp2
  go_ret2
  refine ⟨?_, by repeat (first | exact HB.out | apply Qaf | apply Qaa | apply QbW)⟩
  have h1 : mx t 0 = 0 := by unfold mx; rw [if_pos ht0]
  have h2 : ¬ t ≥ 0 := by omega
  simp [h1, h2]
 have ht1 : 0 ≤ t := by omega
 have h1 : mx t 0 = t := by unfold mx; rw [if_neg ht0]
 have h2 : t ≥ 0 := by omega
 go_wp2
 go_ret2
 refine ⟨?_, by repeat (first | exact HB.out | apply Qaf | apply Qaa | apply QbW)⟩
 simp [h1, h2]
def Qbp.f (k : Nat) (a0_0 : ByteArray) (a0_1 : Int) : Option (Bool) := (QaF.f k a0_0).bind fun t143 => (some (!t143))
theorem Qbp.mono : ∀ a0 a1 k, LeO (Qbp.f k a0 a1) (Qbp.f (k + 1) a0 a1) := by
 intro a0 a1 k
 unfold Qbp.f
 exact ZM1 QaF.mono
set_option maxHeartbeats 8000000 in
theorem Qbp.calls (k : Nat) (a0_0 : ByteArray) (a0_1 : Int) (r : Bool) (w : World) (h : Qbp.f k a0_0 a0_1 = some r) :
  Calls Try.prog 111 #[.agg #[.string a0_0, .int .i64 a0_1]] w fun e w' => e = .returned (.bool r) ∧ Below w.heap.size w w' := by
 have hu98 := Try.underlying98
 have HB := Aside0.mk (Below.refl w.heap.size w)
 have H : ((QaF.f k a0_0).bind fun t143 => (some (!t143))) = some r := h
 clear h
 replace H := Option.bind_eq_some_iff.mp H
 obtain ⟨t143, A20, H⟩ := H
 replace H : (some (!t143)) = some r := H
 have A2 := Aside0.mk A20
 clear A20
 obtain rfl := Option.some.inj H
 go_enter Try.func111, Try.ntmps111
 go_wp2_with (first | ((with_reducible refine QaJ (N := 1) rfl ?_); refine Zbx (N := 1) (cs := #[.string a0_0, .int .i64 a0_1]) (t := 98) ?_; intro gb142 hg w3 hbox hb; have BK142 := Aside0.mk (hbox); have GW142 := Aside0.mk (Zt w hg (Zb)); have GE142 := GW142; replace HB := Aside0.mk (Qap (Zb) hb); clear hb hbox hg; obtain ⟨hcz4_0, hfz4_0⟩ := Zy (v := (.string a0_0)) BK142.out 0; obtain ⟨hcz4_1, hfz4_1⟩ := Zy (v := (.int .i64 a0_1)) BK142.out 1) | ((with_reducible refine Qay (f := 108) rfl ?_); refine goesL_ (some 5) rfl rfl Try.func108 (by kernel_rfl) rfl #[.string a0_0] rfl (Zl) ?_; (with_reducible refine (QaF.calls k a0_0 t143 _ A2.out).mono ?_); rintro e w' ⟨rfl, ⟨nd, rfl⟩⟩; refine ⟨_, rfl, ?_⟩))
 go_ret
 exact ⟨Zq, Zc1 GE142.out⟩
def Qaq.l0 : Nat → List (S98) → Int → Int → Option (Int)
 | 0, _, _, _ => none
 | k + 1, x0, x7, x8 => if x8 < x7 then (if 0 ≤ x8 then (if x8 < (x0.length : Int) then ((Qbp.f k ((rd_T98 x0 x8).f0) ((rd_T98 x0 x8).f1)).bind fun t145 => (if t145 = T then (some x8) else (Qaq.l0 k x0 x7 (wrap64 (x8 + 1))))) else (none)) else (none)) else (some (-1))
def Qaq.f (k : Nat) (l0 : List (S98))  : Option (Int) := Qaq.l0 k l0 (l0.length : Int) 0
theorem Qaq.mono_l : ∀ k, (∀ y0 y1 y2, LeO (Qaq.l0 k y0 y1 y2) (Qaq.l0 (k + 1) y0 y1 y2))
 | 0 => fun _ _ _ r h => by simp [Qaq.l0] at h
 | k + 1 => by
  have ih0 := Qaq.mono_l k
  intro y0 y1 y2
  unfold Qaq.l0
  exact ZM2 ih0 Qbp.mono
theorem Qaq.mono : ∀ a0 k, LeO (Qaq.f k a0) (Qaq.f (k + 1) a0) := by
 intro a0 k
 have ih0 := Qaq.mono_l k
 unfold Qaq.f
 exact ZM2 ih0 Qbp.mono
set_option maxHeartbeats 8000000 in
theorem Qaq.calls (k : Nat) (A0 : Option Addr) (c0 : Nat) (l0 : List (S98))  (r : Int) (w : World) (hr0 : Kd.C k98 w A0 l0.length l0) (hc0 : l0.length ≤ c0) (h : Qaq.f k l0 = some r) :
  Calls Try.prog 123 #[.slice A0 l0.length c0, .func (.func 111) #[] #[]] w fun e w' => e = .returned (.int .i64 r) ∧ Below w.heap.size w w' := by
 have hu98 := Try.underlying98
 have HR0 := Aside0.mk hr0
 have HC0 := Aside0.mk hc0
 clear hr0 hc0
 have HB := Aside0.mk (Below.refl w.heap.size w)
 have H : (Qaq.l0 k l0 (l0.length : Int) 0) = some r := h
 clear h
 have H' := Aside0.mk H
 clear H
 go_enter Try.func123, Try.ntmps123
 go_wp2
 go_loopg [8] k (fun kq v8 w' => ∃ (x8_1 : Int), v8 = .int .i64 x8_1 ∧ Aside0 (Qaq.l0 kq l0 (l0.length : Int) x8_1 = some r) ∧ Aside0 (kq ≤ k) ∧ Aside0 (Below w.heap.size w w'))
 case atStart => exact ⟨(0), (Zs), H', ⟨Nat.le_refl _⟩, ⟨Zb⟩⟩
 case round =>
  clear H'
  try clear p2
  obtain ⟨x8_1, rfl, HA, HK1, HB⟩ := hrel
  cases gk with
  | zero => exact absurd HA.out (by simp [Qaq.l0])
  | succ k1 =>
   have H := HA.out
   clear HA
   simp only [Qaq.l0] at H
   by_cases c3 : x8_1 < (l0.length : Int)
   ·rw [if_pos c3] at H
    have c3b0 : decide (x8_1 < (l0.length : Int)) = T := decide_eq_true c3
    clear c3
    (try simp only [c3b0])
    by_cases c4 : 0 ≤ x8_1
    ·rw [if_pos c4] at H
     have c4b0 : decide (0 ≤ x8_1) = T := decide_eq_true c4
     clear c4
     by_cases c5 : x8_1 < (l0.length : Int)
     ·rw [if_pos c5] at H
      have c5b0 : decide (x8_1 < (l0.length : Int)) = T := decide_eq_true c5
      clear c5
      replace H := Option.bind_eq_some_iff.mp H
      obtain ⟨t145, A60, H⟩ := H
      replace H : (if t145 = T then (some x8_1) else (Qaq.l0 k1 l0 (l0.length : Int) (wrap64 (x8_1 + 1)))) = some r := H
      have A6 := Aside0.mk A60
      clear A60
      have p144 : 0 ≤ (x8_1 : Int) := Ze
      have q144 : x8_1 < (l0.length : Int) := Ze
      obtain ⟨ad144, e144, hx144_0, hx144_1⟩ := at_T98 HR0.out x8_1 p144 q144
      cases e144
      replace hx144_0 := Zx HB.out hx144_0
      replace hx144_1 := Zx HB.out hx144_1
      replace p144 := eq_true p144
      replace q144 := eq_true q144
      go_upto_if 16 with (first | (go_at_call 111; (with_reducible refine (Qbp.calls k1 ((rd_T98 l0 x8_1).f0) ((rd_T98 l0 x8_1).f1) t145 _ A6.out).mono ?_); rintro e w7 ⟨rfl, hb⟩; replace HB := Aside0.mk (Qap (Zb) hb); (try clear hb); (try clear hb2); (try clear hk); (try clear hi)))
      (try simp only [Act.put, Zj, Zk, Zm])
      by_cases c8 : t145 = T
      ·subst c8
       have H1 : (some x8_1) = some r := by rw [if_pos rfl] at H; exact H
       clear H
       have H := H1
       clear H1
       obtain rfl := Option.some.inj H
       go_wp2
       go_ret
       exact ⟨Zq, Zb⟩
      replace c8 := Bool.eq_false_iff.mpr c8
      subst c8
      have H1 : (Qaq.l0 k1 l0 (l0.length : Int) (wrap64 (x8_1 + 1))) = some r := by rw [if_neg (show ¬ (F = T) by decide)] at H; exact H
      clear H
      have H := H1
      clear H1
      have H' := Aside0.mk H
      clear H
      go_wp2
      go_roundg k1
      case measure => have := HK1.out; omega
      case rel => exact ⟨(wrap64 (x8_1 + 1)), (Zs), H', ⟨by have := HK1.out; omega⟩, ⟨Zb⟩⟩
     rw [if_neg c5] at H
     exact absurd H (by simp)
    rw [if_neg c4] at H
    exact absurd H (by simp)
   rw [if_neg c3] at H
   have c3b0 : decide (x8_1 < (l0.length : Int)) = F := decide_eq_false c3
   clear c3
   (try simp only [c3b0])
   obtain rfl := Option.some.inj H
   go_wp2
   go_ret
   exact ⟨Zq, Zb⟩
def QaA.f (k : Nat) (l0 : List (S98))  : Option (Bool) := (Qaq.f k l0).bind fun t146 => (some (decide (t146 ≥ 0)))
theorem QaA.mono : ∀ a0 k, LeO (QaA.f k a0) (QaA.f (k + 1) a0) := by
 intro a0 k
 unfold QaA.f
 exact ZM1 Qaq.mono
set_option maxHeartbeats 8000000 in
theorem QaA.calls (k : Nat) (A0 : Option Addr) (c0 : Nat) (l0 : List (S98))  (r : Bool) (w : World) (hr0 : Kd.C k98 w A0 l0.length l0) (hc0 : l0.length ≤ c0) (h : QaA.f k l0 = some r) :
  Calls Try.prog 110 #[.slice A0 l0.length c0, .func (.func 111) #[] #[]] w fun e w' => e = .returned (.bool r) ∧ Below w.heap.size w w' := by
 have HR0 := Aside0.mk hr0
 have HC0 := Aside0.mk hc0
 clear hr0 hc0
 have HB := Aside0.mk (Below.refl w.heap.size w)
 have H : ((Qaq.f k l0).bind fun t146 => (some (decide (t146 ≥ 0)))) = some r := h
 clear h
 replace H := Option.bind_eq_some_iff.mp H
 obtain ⟨t146, A30, H⟩ := H
 replace H : (some (decide (t146 ≥ 0))) = some r := H
 have A3 := Aside0.mk A30
 clear A30
 obtain rfl := Option.some.inj H
 go_enter Try.func110, Try.ntmps110
 go_wp2_with (first | ((with_reducible refine Qay (f := 123) rfl ?_); refine goesL_ (some 7) rfl rfl Try.func123 (by kernel_rfl) rfl #[.slice A0 l0.length c0, .func (.func 111) #[] #[]] rfl (Zl) ?_; (with_reducible refine (Qaq.calls k _ _ l0  t146 _ ?side1 ?side2 A3.out).mono ?_); (case side1 => exact Zv HR0.out); (case side2 => exact HC0.out); rintro e w4 ⟨rfl, hb⟩; refine ⟨_, rfl, ?_⟩; replace HB := Aside0.mk (Qap (Zb) hb); (try clear hb); (try clear hb2); (try clear hk); (try clear hi)))
 go_ret
 exact ⟨Zq, Zb⟩
def Qar.l0 : Nat → List (S98) → Int → Int → Option (Int)
 | 0, _, _, _ => none
 | k + 1, x0, x7, x8 => if x8 < x7 then (if 0 ≤ x8 then (if x8 < (x0.length : Int) then ((QbX.f ((rd_T98 x0 x8).f0) ((rd_T98 x0 x8).f1)).bind fun t149 => (if t149 = T then (some x8) else (Qar.l0 k x0 x7 (wrap64 (x8 + 1))))) else (none)) else (none)) else (some (-1))
def Qar.f (k : Nat) (l0 : List (S98))  : Option (Int) := Qar.l0 k l0 (l0.length : Int) 0
theorem Qar.mono_l : ∀ k, (∀ y0 y1 y2, LeO (Qar.l0 k y0 y1 y2) (Qar.l0 (k + 1) y0 y1 y2))
 | 0 => fun _ _ _ r h => by simp [Qar.l0] at h
 | k + 1 => by
  have ih0 := Qar.mono_l k
  intro y0 y1 y2
  unfold Qar.l0
  exact ZM1 ih0
theorem Qar.mono : ∀ a0 k, LeO (Qar.f k a0) (Qar.f (k + 1) a0) := by
 intro a0 k
 have ih0 := Qar.mono_l k
 unfold Qar.f
 exact ZM1 ih0
set_option maxHeartbeats 8000000 in
theorem Qar.calls (k : Nat) (A0 : Option Addr) (c0 : Nat) (l0 : List (S98))  (r : Int) (w : World) (hr0 : Kd.C k98 w A0 l0.length l0) (hc0 : l0.length ≤ c0) (h : Qar.f k l0 = some r) :
  Calls Try.prog 123 #[.slice A0 l0.length c0, .func (.func 113) #[] #[]] w fun e w' => e = .returned (.int .i64 r) ∧ Below w.heap.size w w' := by
 have hu98 := Try.underlying98
 have HR0 := Aside0.mk hr0
 have HC0 := Aside0.mk hc0
 clear hr0 hc0
 have HB := Aside0.mk (Below.refl w.heap.size w)
 have H : (Qar.l0 k l0 (l0.length : Int) 0) = some r := h
 clear h
 have H' := Aside0.mk H
 clear H
 go_enter Try.func123, Try.ntmps123
 go_wp2
 go_loopg [8] k (fun kq v8 w' => ∃ (x8_1 : Int), v8 = .int .i64 x8_1 ∧ Aside0 (Qar.l0 kq l0 (l0.length : Int) x8_1 = some r) ∧ Aside0 (kq ≤ k) ∧ Aside0 (Below w.heap.size w w'))
 case atStart => exact ⟨(0), (Zs), H', ⟨Nat.le_refl _⟩, ⟨Zb⟩⟩
 case round =>
  clear H'
  try clear p2
  obtain ⟨x8_1, rfl, HA, HK1, HB⟩ := hrel
  cases gk with
  | zero => exact absurd HA.out (by simp [Qar.l0])
  | succ k1 =>
   have H := HA.out
   clear HA
   simp only [Qar.l0] at H
   by_cases c3 : x8_1 < (l0.length : Int)
   ·rw [if_pos c3] at H
    have c3b0 : decide (x8_1 < (l0.length : Int)) = T := decide_eq_true c3
    clear c3
    (try simp only [c3b0])
    by_cases c4 : 0 ≤ x8_1
    ·rw [if_pos c4] at H
     have c4b0 : decide (0 ≤ x8_1) = T := decide_eq_true c4
     clear c4
     by_cases c5 : x8_1 < (l0.length : Int)
     ·rw [if_pos c5] at H
      have c5b0 : decide (x8_1 < (l0.length : Int)) = T := decide_eq_true c5
      clear c5
      replace H := Option.bind_eq_some_iff.mp H
      obtain ⟨t149, A60, H⟩ := H
      replace H : (if t149 = T then (some x8_1) else (Qar.l0 k1 l0 (l0.length : Int) (wrap64 (x8_1 + 1)))) = some r := H
      have A6 := Aside0.mk A60
      clear A60
      have p148 : 0 ≤ (x8_1 : Int) := Ze
      have q148 : x8_1 < (l0.length : Int) := Ze
      obtain ⟨ad148, e148, hx148_0, hx148_1⟩ := at_T98 HR0.out x8_1 p148 q148
      cases e148
      replace hx148_0 := Zx HB.out hx148_0
      replace hx148_1 := Zx HB.out hx148_1
      replace p148 := eq_true p148
      replace q148 := eq_true q148
      go_upto_if 16 with (first | (go_at_call 113; (with_reducible refine (QbX.calls ((rd_T98 l0 x8_1).f0) ((rd_T98 l0 x8_1).f1) t149 _ A6.out).mono ?_); rintro e w7 ⟨rfl, hb⟩; replace HB := Aside0.mk (Qap (Zb) hb); (try clear hb); (try clear hb2); (try clear hk); (try clear hi)))
      (try simp only [Act.put, Zj, Zk, Zm])
      by_cases c8 : t149 = T
      ·subst c8
       have H1 : (some x8_1) = some r := by rw [if_pos rfl] at H; exact H
       clear H
       have H := H1
       clear H1
       obtain rfl := Option.some.inj H
       go_wp2
       go_ret
       exact ⟨Zq, Zb⟩
      replace c8 := Bool.eq_false_iff.mpr c8
      subst c8
      have H1 : (Qar.l0 k1 l0 (l0.length : Int) (wrap64 (x8_1 + 1))) = some r := by rw [if_neg (show ¬ (F = T) by decide)] at H; exact H
      clear H
      have H := H1
      clear H1
      have H' := Aside0.mk H
      clear H
      go_wp2
      go_roundg k1
      case measure => have := HK1.out; omega
      case rel => exact ⟨(wrap64 (x8_1 + 1)), (Zs), H', ⟨by have := HK1.out; omega⟩, ⟨Zb⟩⟩
     rw [if_neg c5] at H
     exact absurd H (by simp)
    rw [if_neg c4] at H
    exact absurd H (by simp)
   rw [if_neg c3] at H
   have c3b0 : decide (x8_1 < (l0.length : Int)) = F := decide_eq_false c3
   clear c3
   (try simp only [c3b0])
   obtain rfl := Option.some.inj H
   go_wp2
   go_ret
   exact ⟨Zq, Zb⟩
def QaB.f (k : Nat) (l0 : List (S98))  : Option (Bool) := (Qar.f k l0).bind fun t150 => (some (decide (t150 ≥ 0)))
theorem QaB.mono : ∀ a0 k, LeO (QaB.f k a0) (QaB.f (k + 1) a0) := by
 intro a0 k
 unfold QaB.f
 exact ZM1 Qar.mono
set_option maxHeartbeats 8000000 in
theorem QaB.calls (k : Nat) (A0 : Option Addr) (c0 : Nat) (l0 : List (S98))  (r : Bool) (w : World) (hr0 : Kd.C k98 w A0 l0.length l0) (hc0 : l0.length ≤ c0) (h : QaB.f k l0 = some r) :
  Calls Try.prog 110 #[.slice A0 l0.length c0, .func (.func 113) #[] #[]] w fun e w' => e = .returned (.bool r) ∧ Below w.heap.size w w' := by
 have HR0 := Aside0.mk hr0
 have HC0 := Aside0.mk hc0
 clear hr0 hc0
 have HB := Aside0.mk (Below.refl w.heap.size w)
 have H : ((Qar.f k l0).bind fun t150 => (some (decide (t150 ≥ 0)))) = some r := h
 clear h
 replace H := Option.bind_eq_some_iff.mp H
 obtain ⟨t150, A30, H⟩ := H
 replace H : (some (decide (t150 ≥ 0))) = some r := H
 have A3 := Aside0.mk A30
 clear A30
 obtain rfl := Option.some.inj H
 go_enter Try.func110, Try.ntmps110
 go_wp2_with (first | ((with_reducible refine Qay (f := 123) rfl ?_); refine goesL_ (some 7) rfl rfl Try.func123 (by kernel_rfl) rfl #[.slice A0 l0.length c0, .func (.func 113) #[] #[]] rfl (Zl) ?_; (with_reducible refine (Qar.calls k _ _ l0  t150 _ ?side1 ?side2 A3.out).mono ?_); (case side1 => exact Zv HR0.out); (case side2 => exact HC0.out); rintro e w4 ⟨rfl, hb⟩; refine ⟨_, rfl, ?_⟩; replace HB := Aside0.mk (Qap (Zb) hb); (try clear hb); (try clear hb2); (try clear hk); (try clear hi)))
 go_ret
 exact ⟨Zq, Zb⟩
mutual
def QaY.j0 : Nat → List (S98) → Bool → Option (Int)
 | 0, _, _ => none
 | k + 1, x0, x14 => if x14 = T then (some 8) else ((QaA.f k x0).bind fun t151 => (if t151 = T then (some 10) else (QaY.l0 k x0 x0 (x0.length : Int) 0)))
def QaY.l0 : Nat → List (S98) → List (S98) → Int → Int → Option (Int)
 | 0, _, _, _, _ => none
 | k + 1, x0, x17, x18, x19 => if x19 < x18 then (if 0 ≤ x19 then (if x19 < (x17.length : Int) then ((Qbs.f k x0 ((rd_T98 x17 x19).f0)).bind fun bt154 => (if bt154.1 = x19 then (QaY.l0 k x0 x17 x18 (wrap64 (x19 + 1))) else (some 12))) else (none)) else (none)) else (if 0 < (x0.length : Int) then (if ((rd_T98 x0 0).f1) = 1000000 then ((QaB.f k x0).bind fun t157 => (if t157 = T then (some 25) else (some 0))) else (some 25)) else (none))
end
def QaY.f (k : Nat) (l0 : List (S98)) : Option (Int) := if (l0.length : Int) = 0 then (QaY.j0 k l0 T) else (QaY.j0 k l0 (decide ((l0.length : Int) > 8)))
theorem QaY.mono_l : ∀ k, (∀ y0 y1, LeO (QaY.j0 k y0 y1) (QaY.j0 (k + 1) y0 y1)) ∧ (∀ y0 y1 y2 y3, LeO (QaY.l0 k y0 y1 y2 y3) (QaY.l0 (k + 1) y0 y1 y2 y3))
 | 0 => ⟨fun _ _ r h => by simp [QaY.j0] at h, fun _ _ _ _ r h => by simp [QaY.l0] at h⟩
 | k + 1 => by
  obtain ⟨ih0, ih1⟩ := QaY.mono_l k
  refine ⟨?_, ?_⟩
  ·intro y0 y1
   unfold QaY.j0
   exact ZM5 ih0 ih1 Qbs.mono QaA.mono QaB.mono
  intro y0 y1 y2 y3
  unfold QaY.l0
  exact ZM5 ih0 ih1 Qbs.mono QaA.mono QaB.mono
theorem QaY.mono : ∀ a0 k, LeO (QaY.f k a0) (QaY.f (k + 1) a0) := by
 intro a0 k
 obtain ⟨ih0, ih1⟩ := QaY.mono_l k
 unfold QaY.f
 exact ZM5 ih0 ih1 Qbs.mono QaA.mono QaB.mono
set_option maxHeartbeats 8000000 in
theorem QaY.calls (k : Nat) (A0 : Option Addr) (c0 : Nat) (l0 : List (S98)) (r : Int) (w : World) (hr0 : Kd.C k98 w A0 l0.length l0) (hc0 : l0.length ≤ c0) (h : QaY.f k l0 = some r) :
  Calls Try.prog 79 #[.slice A0 l0.length c0] w fun e w' => e = .returned (.int .i64 r) ∧ Below w.heap.size w w' := by
 have hu98 := Try.underlying98
 have HR0 := Aside0.mk hr0
 have HC0 := Aside0.mk hc0
 clear hr0 hc0
 have HB := Aside0.mk (Below.refl w.heap.size w)
 have H : (if (l0.length : Int) = 0 then (QaY.j0 k l0 T) else (QaY.j0 k l0 (decide ((l0.length : Int) > 8)))) = some r := h
 clear h
 have HC2 := Aside0.mk H
 clear H
 go_enter Try.func79, Try.ntmps79
 go_upto_region 1 with (fail)
 go_cut [14] (fun v14 wc => ∃ (kq : Nat) (x14_1 : Bool), v14 = .bool x14_1 ∧ Aside0 (QaY.j0 kq l0 x14_1 = some r) ∧ Aside0 (kq ≤ k) ∧ Aside0 (Below w.heap.size w wc))
 case first =>
  have H := HC2.out
  clear HC2
  by_cases c3 : (l0.length : Int) = 0
  ·rw [if_pos c3] at H
   have c3b0 : ((l0.length : Int) == 0) = T := beq_iff_eq.mpr c3
   have c3b1 : ((l0.length : Int) != 0) = F := bne_eq_false_iff_eq.mpr c3
   clear c3
   have H' := Aside0.mk H
   clear H
   go_wp2
   go_meet
   case rel => exact ⟨_, (T), (Zs), H', ⟨by first | omega | exact Nat.le_refl _⟩, ⟨Zb⟩⟩
  rw [if_neg c3] at H
  have c3b0 : ((l0.length : Int) == 0) = F := beq_eq_false_iff_ne.mpr c3
  have c3b1 : ((l0.length : Int) != 0) = T := bne_iff_ne.mpr c3
  have c3b2 : ¬ (l0 = []) := fun h_ => c3 (by rw [h_]; rfl)
  have H' := Aside0.mk H
  clear H
  go_wp2
  go_meet
  case rel => exact ⟨_, (decide ((l0.length : Int) > 8)), (Zs), H', ⟨by first | omega | exact Nat.le_refl _⟩, ⟨Zb⟩⟩
 case rest =>
  clear HC2
  try clear p2
  try clear c3
  try clear c3b0
  try clear c3b1
  try clear c3b2
  obtain ⟨kq, x14_1, rfl, HA, HJ1, HB⟩ := hcut
  cases kq with
  | zero => exact absurd HA.out (by simp [QaY.j0])
  | succ kj1 =>
   have H := HA.out
   clear HA
   simp only [QaY.j0] at H
   by_cases c4 : x14_1 = T
   ·subst c4
    have H1 : (some 8) = some r := by rw [if_pos rfl] at H; exact H
    clear H
    have H := H1
    clear H1
    obtain rfl := Option.some.inj H
    go_wp2
    go_ret
    exact ⟨Zq, Zb⟩
   replace c4 := Bool.eq_false_iff.mpr c4
   subst c4
   have H1 : ((QaA.f kj1 l0).bind fun t151 => (if t151 = T then (some 10) else (QaY.l0 kj1 l0 l0 (l0.length : Int) 0))) = some r := by rw [if_neg (show ¬ (F = T) by decide)] at H; exact H
   clear H
   have H := H1
   clear H1
   replace H := Option.bind_eq_some_iff.mp H
   obtain ⟨t151, A50, H⟩ := H
   replace H : (if t151 = T then (some 10) else (QaY.l0 kj1 l0 l0 (l0.length : Int) 0)) = some r := H
   have A5 := Aside0.mk A50
   clear A50
   go_upto_if 16 with (first | ((with_reducible refine Qay (f := 110) rfl ?_); refine goesL_ (some 16) rfl rfl Try.func110 (by kernel_rfl) rfl #[.slice A0 l0.length c0, .func (.func 111) #[] #[]] rfl (Zl) ?_; (with_reducible refine (QaA.calls kj1 _ _ l0  t151 _ ?side1 ?side2 A5.out).mono ?_); (case side1 => exact Zv (Kd.C_below HR0.out HB.out)); (case side2 => exact HC0.out); rintro e w6 ⟨rfl, hb⟩; refine ⟨_, rfl, ?_⟩; replace HB := Aside0.mk (Qap (Zb) hb); (try clear hb); (try clear hb2); (try clear hk); (try clear hi)))
   (try simp only [Act.put, Zj, Zk, Zm])
   by_cases c7 : t151 = T
   ·subst c7
    have H1 : (some 10) = some r := by rw [if_pos rfl] at H; exact H
    clear H
    have H := H1
    clear H1
    obtain rfl := Option.some.inj H
    go_wp2
    go_ret
    exact ⟨Zq, Zb⟩
   replace c7 := Bool.eq_false_iff.mpr c7
   subst c7
   have H1 : (QaY.l0 kj1 l0 l0 (l0.length : Int) 0) = some r := by rw [if_neg (show ¬ (F = T) by decide)] at H; exact H
   clear H
   have H := H1
   clear H1
   have H' := Aside0.mk H
   clear H
   go_wp2
   go_loopg [19] kj1 (fun kq v19 w' => ∃ (x19_2 : Int), v19 = .int .i64 x19_2 ∧ Aside0 (QaY.l0 kq l0 l0 (l0.length : Int) x19_2 = some r) ∧ Aside0 (kq ≤ kj1) ∧ Aside0 (Below w.heap.size w w'))
   case atStart => exact ⟨(0), (Zs), H', ⟨Nat.le_refl _⟩, ⟨Zb⟩⟩
   case round =>
    clear H'
    try clear p2
    try clear c3
    try clear c3b0
    try clear c3b1
    try clear c3b2
    try clear c4
    try clear c7
    try clear p2
    obtain ⟨x19_2, rfl, HA, HK2, HB⟩ := hrel
    cases gk with
    | zero => exact absurd HA.out (by simp [QaY.l0])
    | succ k2 =>
     have H := HA.out
     clear HA
     simp only [QaY.l0] at H
     by_cases c8 : x19_2 < (l0.length : Int)
     ·rw [if_pos c8] at H
      have c8b0 : decide (x19_2 < (l0.length : Int)) = T := decide_eq_true c8
      clear c8
      (try simp only [c8b0])
      by_cases c9 : 0 ≤ x19_2
      ·rw [if_pos c9] at H
       have c9b0 : decide (0 ≤ x19_2) = T := decide_eq_true c9
       clear c9
       by_cases c10 : x19_2 < (l0.length : Int)
       ·rw [if_pos c10] at H
        have c10b0 : decide (x19_2 < (l0.length : Int)) = T := decide_eq_true c10
        clear c10
        replace H := Option.bind_eq_some_iff.mp H
        obtain ⟨⟨t154, t155⟩, A110, H⟩ := H
        replace H : (if t154 = x19_2 then (QaY.l0 k2 l0 l0 (l0.length : Int) (wrap64 (x19_2 + 1))) else (some 12)) = some r := H
        have A11 := Aside0.mk A110
        clear A110
        have p152 : 0 ≤ (x19_2 : Int) := Ze
        have q152 : x19_2 < (l0.length : Int) := Ze
        obtain ⟨ad152, e152, hx152_0, hx152_1⟩ := at_T98 HR0.out x19_2 p152 q152
        cases e152
        replace hx152_0 := Zx HB.out hx152_0
        replace hx152_1 := Zx HB.out hx152_1
        replace p152 := eq_true p152
        replace q152 := eq_true q152
        go_upto_if 33 with (first | ((with_reducible refine QaJ (N := 4) rfl ?_); (try (refine Qbh (by rfl) ?_; dsimp only)); refine Zbx (N := 4) (cs := #[.string (⟨#[]⟩ : ByteArray), .int .i64 0]) (t := 98) ?_; intro gb153 hg w12 hbox hb; have BK153 := Aside0.mk (hbox); have GW153 := Aside0.mk (Zt w hg (Zb)); have GE153 := GW153; replace HB := Aside0.mk (Qap (Zb) hb); clear hb hbox hg; obtain ⟨hcz13_0, hfz13_0⟩ := Zy (v := (.string (⟨#[]⟩ : ByteArray))) BK153.out 0; obtain ⟨hcz13_1, hfz13_1⟩ := Zy (v := (.int .i64 0)) BK153.out 1) | ((with_reducible refine Qay (f := 112) rfl ?_); refine goesL_ (some 28) rfl rfl Try.func112 (by kernel_rfl) rfl #[.slice (some ad152) l0.length c0, .string ((rd_T98 l0 x19_2).f0)] rfl (Zl) ?_; (with_reducible refine (Qbs.calls k2 _ _ l0 ((rd_T98 l0 x19_2).f0) t154 t155 _ ?side1 ?side2 A11.out).mono ?_); (case side1 => exact Kd.C_below HR0.out (Zc1 GE153.out)); (case side2 => exact HC0.out); rintro e w14 ⟨rfl, hb⟩; refine ⟨_, rfl, ?_⟩; replace BK153 := Aside0.mk (Zpi #[.string ((rd_T98 l0 x19_2).f0), .int .i64 ((rd_T98 l0 x19_2).f1)] BK153.out hb); replace HB := Aside0.mk (Qap (Zc1 GE153.out) hb); (try clear hb); (try clear hb2); (try clear hk); (try clear hi)))
        (try simp only [Act.put, Zj, Zk, Zm])
        by_cases c15 : t154 = x19_2
        ·rw [if_pos c15] at H
         have c15b0 : (t154 == x19_2) = T := beq_iff_eq.mpr c15
         have c15b1 : (t154 != x19_2) = F := bne_eq_false_iff_eq.mpr c15
         clear c15
         (try simp only [c15b0, c15b1])
         have H' := Aside0.mk H
         clear H
         go_wp2
         go_roundg k2
         case measure => have := HJ1.out; have := HK2.out; omega
         case rel => exact ⟨(wrap64 (x19_2 + 1)), (Zs), H', ⟨by have := HJ1.out; have := HK2.out; omega⟩, ⟨Zc1 GE153.out⟩⟩
        rw [if_neg c15] at H
        have c15b0 : (t154 == x19_2) = F := beq_eq_false_iff_ne.mpr c15
        have c15b1 : (t154 != x19_2) = T := bne_iff_ne.mpr c15
        (try simp only [c15b0, c15b1])
        obtain rfl := Option.some.inj H
        go_wp2
        go_ret
        exact ⟨Zq, Zc1 GE153.out⟩
       rw [if_neg c10] at H
       exact absurd H (by simp)
      rw [if_neg c9] at H
      exact absurd H (by simp)
     rw [if_neg c8] at H
     have c8b0 : decide (x19_2 < (l0.length : Int)) = F := decide_eq_false c8
     clear c8
     (try simp only [c8b0])
     by_cases c16 : 0 < (l0.length : Int)
     ·rw [if_pos c16] at H
      have c16b0 : decide (0 < (l0.length : Int)) = T := decide_eq_true c16
      have c16b1 : decide (0 < l0.length) = T := decide_eq_true (by omega)
      clear c16
      by_cases c17 : ((rd_T98 l0 0).f1) = 1000000
      ·rw [if_pos c17] at H
       have c17b0 : (((rd_T98 l0 0).f1) == 1000000) = T := beq_iff_eq.mpr c17
       have c17b1 : (((rd_T98 l0 0).f1) != 1000000) = F := bne_eq_false_iff_eq.mpr c17
       clear c17
       replace H := Option.bind_eq_some_iff.mp H
       obtain ⟨t157, A180, H⟩ := H
       replace H : (if t157 = T then (some 25) else (some 0)) = some r := H
       have A18 := Aside0.mk A180
       clear A180
       have p156 : 0 ≤ (0 : Int) := (by omega)
       have q156 : 0 < (l0.length : Int) := Ze
       obtain ⟨ad156, e156, hx156_0, hx156_1⟩ := at_T98 HR0.out 0 p156 q156
       cases e156
       have qi156 : (0 < l0.length) = True := eq_true (by omega)
       (try rw [show ((0 : Int)).toNat = 0 from rfl] at hx156_0)
       (try rw [show 0 * 2 = 0 from rfl] at hx156_0)
       (try rw [Addr.add_zero'] at hx156_0)
       (try rw [show ((0 : Int)).toNat = 0 from rfl] at hx156_1)
       (try rw [show 0 * 2 = 0 from rfl] at hx156_1)
       (try rw [Addr.add_zero'] at hx156_1)
       replace hx156_0 := Zx HB.out hx156_0
       replace hx156_1 := Zx HB.out hx156_1
       replace p156 := eq_true p156
       replace q156 := eq_true q156
       go_upto_if 43 with (first | (go_at_call 110; (with_reducible refine (QaB.calls k2 _ _ l0  t157 _ ?side1 ?side2 A18.out).mono ?_); (case side1 => exact Zv (Kd.C_below HR0.out HB.out)); (case side2 => exact HC0.out); rintro e w19 ⟨rfl, hb⟩; replace HB := Aside0.mk (Qap (Zb) hb); (try clear hb); (try clear hb2); (try clear hk); (try clear hi)))
       (try simp only [Act.put, Zj, Zk, Zm])
       by_cases c20 : t157 = T
       ·subst c20
        have H1 : (some 25) = some r := by rw [if_pos rfl] at H; exact H
        clear H
        have H := H1
        clear H1
        obtain rfl := Option.some.inj H
        go_wp2
        go_ret
        exact ⟨Zq, Zb⟩
       replace c20 := Bool.eq_false_iff.mpr c20
       subst c20
       have H1 : (some 0) = some r := by rw [if_neg (show ¬ (F = T) by decide)] at H; exact H
       clear H
       have H := H1
       clear H1
       obtain rfl := Option.some.inj H
       go_wp2
       go_ret
       exact ⟨Zq, Zb⟩
      rw [if_neg c17] at H
      have c17b0 : (((rd_T98 l0 0).f1) == 1000000) = F := beq_eq_false_iff_ne.mpr c17
      have c17b1 : (((rd_T98 l0 0).f1) != 1000000) = T := bne_iff_ne.mpr c17
      obtain rfl := Option.some.inj H
      have p156 : 0 ≤ (0 : Int) := (by omega)
      have q156 : 0 < (l0.length : Int) := Ze
      obtain ⟨ad156, e156, hx156_0, hx156_1⟩ := at_T98 HR0.out 0 p156 q156
      cases e156
      have qi156 : (0 < l0.length) = True := eq_true (by omega)
      (try rw [show ((0 : Int)).toNat = 0 from rfl] at hx156_0)
      (try rw [show 0 * 2 = 0 from rfl] at hx156_0)
      (try rw [Addr.add_zero'] at hx156_0)
      (try rw [show ((0 : Int)).toNat = 0 from rfl] at hx156_1)
      (try rw [show 0 * 2 = 0 from rfl] at hx156_1)
      (try rw [Addr.add_zero'] at hx156_1)
      replace hx156_0 := Zx HB.out hx156_0
      replace hx156_1 := Zx HB.out hx156_1
      replace p156 := eq_true p156
      replace q156 := eq_true q156
      go_wp2
      go_ret
      exact ⟨Zq, Zb⟩
     rw [if_neg c16] at H
     exact absurd H (by simp)
def Qba.f (k : Nat) (l0 : List (S98)) (a1 : Int) (a2 : Int) (a3 : Int) (a4 : Int) : Option (Int × Int) := (QaY.f k l0).bind fun t158 => (if t158 = 0 then (if a2 < 0 then (some (0, 25)) else (if a2 ≥ (l0.length : Int) then (some (0, 25)) else (if a3 < 0 then (some (0, 25)) else (if a3 ≥ (l0.length : Int) then (some (0, 25)) else (if 0 ≤ a2 then (if a2 < (l0.length : Int) then (if 0 ≤ a3 then (if a3 < (l0.length : Int) then ((QaO.f a1 ((rd_T98 l0 a2).f1) ((rd_T98 l0 a3).f1) a4).bind fun bt161 => (some (bt161.1, bt161.2))) else (none)) else (none)) else (none)) else (none)))))) else (some (0, t158)))
theorem Qba.mono : ∀ a0 a1 a2 a3 a4 k, LeO (Qba.f k a0 a1 a2 a3 a4) (Qba.f (k + 1) a0 a1 a2 a3 a4) := by
 intro a0 a1 a2 a3 a4 k
 unfold Qba.f
 exact ZM1 QaY.mono
def Qba.T6 : Bool × List (List Nat × List Nat) := (T, [([], []), ([], []), ([], []), ([1, 2], [1, 2]), ([3], [3]), ([4], [4]), ([], []), ([], []), ([6, 7], [6, 7]), ([8], [8]), ([9], [9]), ([], []), ([0, 5, 10, 11], [0, 5, 10, 11]), ([12], [12]), ([12], [12]), ([13, 12, 0, 1, 2, 3, 4, 5, 6, 7, 8, 9, 10, 11, 12, 13, 14], [13]), ([14, 15, 0, 1, 2, 3, 4, 5, 6, 7, 8, 9, 10, 11, 12, 13, 14, 15], [14])])
def Qba.B6 : List Nat := [0, 0, 0, 6, 14, 30, 0, 0, 192, 448, 960, 0, 4095, 8191, 8191, 32767, 65535]
theorem Qba.tab6 : rtab .any (opsOf Try.f126 6) = Qba.T6 := by kernel_rfl
theorem Qba.bits6 : QbG Qba.T6.2 Qba.B6 = T := by kernel_rfl
set_option maxHeartbeats 8000000 in
theorem Qba.calls (k : Nat) (A0 : Option Addr) (c0 : Nat) (l0 : List (S98)) (a1 : Int) (a2 : Int) (a3 : Int) (a4 : Int) (r1 : Int) (r2 : Int) (w : World) (hr0 : Kd.C k98 w A0 l0.length l0) (hc0 : l0.length ≤ c0) (h : Qba.f k l0 a1 a2 a3 a4 = some (r1, r2)) :
  Calls Try.prog 126 #[.slice A0 l0.length c0, .int .i64 a1, .int .i64 a2, .int .i64 a3, .int .i64 a4] w fun e w' => e = .returned (.tuple #[.int .i64 r1, .int .i64 r2]) ∧ Below w.heap.size w w' := by
 have HR0 := Aside0.mk hr0
 have HC0 := Aside0.mk hc0
 clear hr0 hc0
 have HB := Aside0.mk (Below.refl w.heap.size w)
 have H : ((QaY.f k l0).bind fun t158 => (if t158 = 0 then (if a2 < 0 then (some (0, 25)) else (if a2 ≥ (l0.length : Int) then (some (0, 25)) else (if a3 < 0 then (some (0, 25)) else (if a3 ≥ (l0.length : Int) then (some (0, 25)) else (if 0 ≤ a2 then (if a2 < (l0.length : Int) then (if 0 ≤ a3 then (if a3 < (l0.length : Int) then ((QaO.f a1 ((rd_T98 l0 a2).f1) ((rd_T98 l0 a3).f1) a4).bind fun bt161 => (some (bt161.1, bt161.2))) else (none)) else (none)) else (none)) else (none)))))) else (some (0, t158)))) = some (r1, r2) := h
 clear h
 replace H := Option.bind_eq_some_iff.mp H
 obtain ⟨t158, A60, H⟩ := H
 replace H : (if t158 = 0 then (if a2 < 0 then (some (0, 25)) else (if a2 ≥ (l0.length : Int) then (some (0, 25)) else (if a3 < 0 then (some (0, 25)) else (if a3 ≥ (l0.length : Int) then (some (0, 25)) else (if 0 ≤ a2 then (if a2 < (l0.length : Int) then (if 0 ≤ a3 then (if a3 < (l0.length : Int) then ((QaO.f a1 ((rd_T98 l0 a2).f1) ((rd_T98 l0 a3).f1) a4).bind fun bt161 => (some (bt161.1, bt161.2))) else (none)) else (none)) else (none)) else (none)))))) else (some (0, t158))) = some (r1, r2) := H
 have A6 := Aside0.mk A60
 clear A60
 go_enter Try.func126, Try.ntmps126
 go_upto_if 15 with (first | ((with_reducible refine Qay (f := 79) rfl ?_); refine goesL_ (some 13) rfl rfl Try.func79 (by kernel_rfl) rfl #[.slice A0 l0.length c0] rfl (Zl) ?_; (with_reducible refine (QaY.calls k _ _ l0 t158 _ ?side1 ?side2 A6.out).mono ?_); (case side1 => exact Zv HR0.out); (case side2 => exact HC0.out); rintro e w7 ⟨rfl, hb⟩; refine ⟨_, rfl, ?_⟩; replace HB := Aside0.mk (Qap (Zb) hb); (try clear hb); (try clear hb2); (try clear hk); (try clear hi)))
 (try simp only [Act.put, Zj, Zk, Zm])
 by_cases c8 : t158 = 0
 ·rw [if_pos c8] at H
  have c8b0 : (t158 == 0) = T := beq_iff_eq.mpr c8
  have c8b1 : (t158 != 0) = F := bne_eq_false_iff_eq.mpr c8
  clear c8
  (try simp only [c8b0, c8b1])
  by_cases c9 : a2 < 0
  ·rw [if_pos c9] at H
   have c9b0 : decide (a2 < 0) = T := decide_eq_true c9
   clear c9
   simp only [Option.some.injEq, Prod.mk.injEq] at H
   obtain ⟨rfl, rfl⟩ := H
   go_wp2
   go_ret2
   exact ⟨Zq, Zb⟩
  rw [if_neg c9] at H
  have c9b0 : decide (a2 < 0) = F := decide_eq_false c9
  clear c9
  by_cases c10 : a2 ≥ (l0.length : Int)
  ·rw [if_pos c10] at H
   have c10b0 : decide ((l0.length : Int) ≤ a2) = T := decide_eq_true c10
   clear c10
   simp only [Option.some.injEq, Prod.mk.injEq] at H
   obtain ⟨rfl, rfl⟩ := H
   go_wp2
   go_ret2
   exact ⟨Zq, Zb⟩
  rw [if_neg c10] at H
  have c10b0 : decide ((l0.length : Int) ≤ a2) = F := decide_eq_false c10
  clear c10
  by_cases c11 : a3 < 0
  ·rw [if_pos c11] at H
   have c11b0 : decide (a3 < 0) = T := decide_eq_true c11
   clear c11
   simp only [Option.some.injEq, Prod.mk.injEq] at H
   obtain ⟨rfl, rfl⟩ := H
   go_wp2
   go_ret2
   exact ⟨Zq, Zb⟩
  rw [if_neg c11] at H
  have c11b0 : decide (a3 < 0) = F := decide_eq_false c11
  clear c11
  by_cases c12 : a3 ≥ (l0.length : Int)
  ·rw [if_pos c12] at H
   have c12b0 : decide ((l0.length : Int) ≤ a3) = T := decide_eq_true c12
   clear c12
   (try simp only [c12b0])
   simp only [Option.some.injEq, Prod.mk.injEq] at H
   obtain ⟨rfl, rfl⟩ := H
   go_wp2
   go_ret2
   exact ⟨Zq, Zb⟩
  rw [if_neg c12] at H
  have c12b0 : decide ((l0.length : Int) ≤ a3) = F := decide_eq_false c12
  clear c12
  (try simp only [c12b0])
  by_cases c13 : 0 ≤ a2
  ·rw [if_pos c13] at H
   have c13b0 : decide (0 ≤ a2) = T := decide_eq_true c13
   clear c13
   by_cases c14 : a2 < (l0.length : Int)
   ·rw [if_pos c14] at H
    have c14b0 : decide (a2 < (l0.length : Int)) = T := decide_eq_true c14
    clear c14
    by_cases c15 : 0 ≤ a3
    ·rw [if_pos c15] at H
     have c15b0 : decide (0 ≤ a3) = T := decide_eq_true c15
     clear c15
     by_cases c16 : a3 < (l0.length : Int)
     ·rw [if_pos c16] at H
      have c16b0 : decide (a3 < (l0.length : Int)) = T := decide_eq_true c16
      clear c16
      replace H := Option.bind_eq_some_iff.mp H
      obtain ⟨⟨t161, t162⟩, A170, H⟩ := H
      replace H : (some (t161, t162)) = some (r1, r2) := H
      have A17 := Aside0.mk A170
      clear A170
      simp only [Option.some.injEq, Prod.mk.injEq] at H
      obtain ⟨rfl, rfl⟩ := H
      try go_wp2
      replace HB := Aside0.mk (Qag HB.out)
      have p159 : 0 ≤ (a2 : Int) := Ze
      have q159 : a2 < (l0.length : Int) := Ze
      obtain ⟨ad159, e159, hx159_0, hx159_1⟩ := at_T98 HR0.out a2 p159 q159
      have hw159_1 := hx159_1
      have hw159_0 := hx159_0
      cases e159
      replace hx159_0 := Zx HB.out hx159_0
      replace hx159_1 := Zx HB.out hx159_1
      replace p159 := eq_true p159
      replace q159 := eq_true q159
      have p160 : 0 ≤ (a3 : Int) := Ze
      have q160 : a3 < (l0.length : Int) := Ze
      obtain ⟨ad160, e160, hx160_0, hx160_1⟩ := at_T98 HR0.out a3 p160 q160
      have hw160_1 := hx160_1
      have hw160_0 := hx160_0
      obtain rfl : ad159 = ad160 := (by injection e160)
      replace hx160_0 := Zx HB.out hx160_0
      replace hx160_1 := Zx HB.out hx160_1
      replace p160 := eq_true p160
      replace q160 := eq_true q160
      refine start_ (n := 17) (S := fun w' => w'.cell? (ad159.add ((a2).toNat * 2)) = some (.string ((rd_T98 l0 a2).f0)) ∧ w'.cell? ⟨(ad159.add ((a2).toNat * 2)).block, (ad159.add ((a2).toNat * 2)).off + 1, none⟩ = some (.int .i64 ((rd_T98 l0 a2).f1)) ∧ w'.cell? (ad159.add ((a3).toNat * 2)) = some (.string ((rd_T98 l0 a3).f0)) ∧ w'.cell? ⟨(ad159.add ((a3).toNat * 2)).block, (ad159.add ((a3).toNat * 2)).off + 1, none⟩ = some (.int .i64 ((rd_T98 l0 a3).f1))) (ds := []) #[F, F, F, F, F, F, F, F, F, F, F, F, F, F, F, F, F] (by kernel_rfl) rfl rfl ⟨((HB.out.cell (World.block_lt_of_cell? w _ hw159_0)).trans hw159_0), ((HB.out.cell (World.block_lt_of_cell? w _ hw159_1)).trans hw159_1), ((HB.out.cell (World.block_lt_of_cell? w _ hw160_0)).trans hw160_0), ((HB.out.cell (World.block_lt_of_cell? w _ hw160_1)).trans hw160_1)⟩ (fun hHeld => ?_); refine QbH Qba.tab6 Qba.bits6 (fun HT_ HW_ => ?_)
      generalize w7.drew = w18 at HB hx159_0 hx159_1 hx160_0 hx160_1 hHeld ⊢
      refine pure_ (i := 0) (N := some 35) (v := ?_) (a' := ?_) #[T, F, F, F, F, F, F, F, F, F, F, F, F, F, F, F, F] rfl rfl (any_of HT_.out (by kernel_rfl)) (fun _ _ _ h => h) (Or.inl ⟨by rfl, ?_⟩) ?_ ?_
      rotate_left
      ·intro w'
       go_simp
       with_reducible rfl
      rotate_left
      ·simp only [Act.put, Zj, Zk, Zm, i64_w, i32_w]
       rfl
      refine pure_ (i := 1) (N := some 36) (v := ?_) (a' := ?_) #[T, T, F, F, F, F, F, F, F, F, F, F, F, F, F, F, F] rfl rfl (any_of HT_.out (by kernel_rfl)) (fun _ _ _ h => h) (Or.inl ⟨by rfl, ?_⟩) ?_ ?_
      rotate_left
      ·intro w'
       go_simp
       with_reducible rfl
      rotate_left
      ·simp only [Act.put, Zj, Zk, Zm, i64_w, i32_w]
       rfl
      refine pure_ (i := 2) (N := some 37) (v := ?_) (a' := ?_) #[T, T, T, F, F, F, F, F, F, F, F, F, F, F, F, F, F] rfl rfl (any_of HT_.out (by kernel_rfl)) (fun _ _ _ h => h) (Or.inl ⟨by rfl, ?_⟩) ?_ ?_
      rotate_left
      ·intro w'
       go_simp
       with_reducible rfl
      rotate_left
      ·simp only [Act.put, Zj, Zk, Zm, i64_w, i32_w]
       rfl
      refine pure_ (i := 3) (N := some 38) (v := ?_) (a' := ?_) #[T, T, T, T, F, F, F, F, F, F, F, F, F, F, F, F, F] rfl rfl (any_of HT_.out (by kernel_rfl)) (fun _ _ _ h => h) (Or.inl ⟨by rfl, ?_⟩) ?_ ?_
      rotate_left
      ·intro w'
       go_simp
       with_reducible rfl
      rotate_left
      ·simp only [Act.put, Zj, Zk, Zm, i64_w, i32_w]
       rfl
      refine pure_ (i := 4) (N := some 39) (v := ?_) (a' := ?_) #[T, T, T, T, T, F, F, F, F, F, F, F, F, F, F, F, F] rfl rfl (any_of HT_.out (by kernel_rfl)) (fun _ _ _ h => h) (Or.inl ⟨by rfl, ?_⟩) ?_ ?_
      rotate_left
      ·intro w'
       go_simp
       with_reducible rfl
      rotate_left
      ·simp only [Act.put, Zj, Zk, Zm, i64_w, i32_w]
       rfl
      refine pure_ (i := 6) (N := some 41) (v := ?_) (a' := ?_) #[T, T, T, T, T, F, T, F, F, F, F, F, F, F, F, F, F] rfl rfl (any_of HT_.out (by kernel_rfl)) (fun _ _ _ h => h) (Or.inl ⟨by rfl, ?_⟩) ?_ ?_
      rotate_left
      ·intro w'
       go_simp
       with_reducible rfl
      rotate_left
      ·simp only [Act.put, Zj, Zk, Zm, i64_w, i32_w]
       rfl
      refine pure_ (i := 7) (N := some 42) (v := ?_) (a' := ?_) #[T, T, T, T, T, F, T, T, F, F, F, F, F, F, F, F, F] rfl rfl (any_of HT_.out (by kernel_rfl)) (fun _ _ _ h => h) (Or.inl ⟨by rfl, ?_⟩) ?_ ?_
      rotate_left
      ·intro w'
       go_simp
       with_reducible rfl
      rotate_left
      ·simp only [Act.put, Zj, Zk, Zm, i64_w, i32_w]
       rfl
      refine pure_ (i := 8) (N := some 43) (v := ?_) (a' := ?_) #[T, T, T, T, T, F, T, T, T, F, F, F, F, F, F, F, F] rfl rfl (any_of HT_.out (by kernel_rfl)) (fun _ _ _ h => h) (Or.inl ⟨by rfl, ?_⟩) ?_ ?_
      rotate_left
      ·intro w'
       go_simp
       with_reducible rfl
      rotate_left
      ·simp only [Act.put, Zj, Zk, Zm, i64_w, i32_w]
       rfl
      refine pure_ (i := 9) (N := some 44) (v := ?_) (a' := ?_) #[T, T, T, T, T, F, T, T, T, T, F, F, F, F, F, F, F] rfl rfl (any_of HT_.out (by kernel_rfl)) (fun _ _ _ h => h) (Or.inl ⟨by rfl, ?_⟩) ?_ ?_
      rotate_left
      ·intro w'
       go_simp
       with_reducible rfl
      rotate_left
      ·simp only [Act.put, Zj, Zk, Zm, i64_w, i32_w]
       rfl
      refine pure_ (i := 11) (N := some 46) (v := ?_) (a' := ?_) #[T, T, T, T, T, F, T, T, T, T, F, T, F, F, F, F, F] rfl rfl (any_of HT_.out (by kernel_rfl)) (fun _ _ _ h => h) (Or.inl ⟨by rfl, ?_⟩) ?_ ?_
      rotate_left
      ·intro w'
       go_simp
       with_reducible rfl
      rotate_left
      ·simp only [Act.put, Zj, Zk, Zm, i64_w, i32_w]
       rfl
      refine take_ (i := 5) (N := some 40) (v := ?_) (a' := ?_) #[T, T, T, T, T, T, T, T, T, T, F, T, F, F, F, F, F] rfl rfl (Qbl HT_.out HW_.out (by kernel_rfl)) (fun _ _ _ h => h) (Or.inl ⟨by rfl, ?_⟩) hHeld ?_ ?_
      rotate_left
      ·rintro w' ⟨s0, s1, s2, s3⟩
       go_simp
       with_reducible rfl
      rotate_left
      ·simp only [Act.put, Zj, Zk, Zm, i64_w, i32_w]
       rfl
      refine take_ (i := 10) (N := some 45) (v := ?_) (a' := ?_) #[T, T, T, T, T, T, T, T, T, T, T, T, F, F, F, F, F] rfl rfl (Qbl HT_.out HW_.out (by kernel_rfl)) (fun _ _ _ h => h) (Or.inl ⟨by rfl, ?_⟩) hHeld ?_ ?_
      rotate_left
      ·rintro w' ⟨s0, s1, s2, s3⟩
       go_simp
       with_reducible rfl
      rotate_left
      ·simp only [Act.put, Zj, Zk, Zm, i64_w, i32_w]
       rfl
      refine one_ (i := 12) (N := some 47) #[T, T, T, T, T, T, T, T, T, T, T, T, T, F, F, F, F] rfl rfl (one_of HT_.out (by kernel_rfl)) (by decide) (fun K hK => ?_)
      refine goes_ Try.func57 (by kernel_rfl) rfl #[.int .i64 a1, .int .i64 ((rd_T98 l0 a2).f1), .int .i64 ((rd_T98 l0 a3).f1), .int .i64 a4] (by rfl) rfl rfl (Zl) ?_
      with_reducible refine (QaO.calls a1 ((rd_T98 l0 a2).f1) ((rd_T98 l0 a3).f1) a4 t161 t162 _ A17.out).mono ?_
      rintro e w19 ⟨rfl, hb⟩
      refine ⟨_, rfl, ?_⟩
      replace HB := Aside0.mk (Qap (Zb) hb)
      (try clear hb)
      (try clear hb2)
      (try clear hk)
      (try clear hi)
      refine hK.out _ _ ⟨((HB.out.cell (World.block_lt_of_cell? w _ hw159_0)).trans hw159_0), ((HB.out.cell (World.block_lt_of_cell? w _ hw159_1)).trans hw159_1), ((HB.out.cell (World.block_lt_of_cell? w _ hw160_0)).trans hw160_0), ((HB.out.cell (World.block_lt_of_cell? w _ hw160_1)).trans hw160_1)⟩ (fun hHeld => ?_)
      clear hK K
      refine norm_ (a' := ?_) ?_ ?_
      rotate_left
      ·show Act.put _ (some 47) _ = _
       simp only [Act.put, Zj, Zk, Zm, i64_w, i32_w]
       rfl
      refine pure_ (i := 13) (N := some 48) (v := ?_) (a' := ?_) #[T, T, T, T, T, T, T, T, T, T, T, T, T, T, F, F, F] rfl rfl (any_of HT_.out (by kernel_rfl)) (fun _ _ _ h => h) (Or.inl ⟨by rfl, ?_⟩) ?_ ?_
      rotate_left
      ·intro w'
       go_simp
       with_reducible rfl
      rotate_left
      ·simp only [Act.put, Zj, Zk, Zm, i64_w, i32_w]
       rfl
      refine pure_ (i := 14) (N := some 49) (v := ?_) (a' := ?_) #[T, T, T, T, T, T, T, T, T, T, T, T, T, T, T, F, F] rfl rfl (any_of HT_.out (by kernel_rfl)) (fun _ _ _ h => h) (Or.inl ⟨by rfl, ?_⟩) ?_ ?_
      rotate_left
      ·intro w'
       go_simp
       with_reducible rfl
      rotate_left
      ·simp only [Act.put, Zj, Zk, Zm, i64_w, i32_w]
       rfl
      refine pure_ (i := 15) (N := some 10) (v := ?_) (a' := ?_) #[T, T, T, T, T, T, T, T, T, T, T, T, T, T, T, T, F] rfl rfl (any_of HT_.out (by kernel_rfl)) (fun _ _ _ h => h) (Or.inl ⟨by rfl, ?_⟩) ?_ ?_
      rotate_left
      ·intro w'
       go_simp
       with_reducible rfl
      rotate_left
      ·simp only [Act.put, Zj, Zk, Zm, i64_w, i32_w]
       rfl
      refine pure_ (i := 16) (N := some 11) (v := ?_) (a' := ?_) #[T, T, T, T, T, T, T, T, T, T, T, T, T, T, T, T, T] rfl rfl (any_of HT_.out (by kernel_rfl)) (fun _ _ _ h => h) (Or.inl ⟨by rfl, ?_⟩) ?_ ?_
      rotate_left
      ·intro w'
       go_simp
       with_reducible rfl
      rotate_left
      ·simp only [Act.put, Zj, Zk, Zm, i64_w, i32_w]
       rfl
      refine done_ (QbN HT_.out (by kernel_rfl)) ?_
      try go_wp2
      go_ret2
      exact ⟨Zq, Zb⟩
     rw [if_neg c16] at H
     exact absurd H (by simp)
    rw [if_neg c15] at H
    exact absurd H (by simp)
   rw [if_neg c14] at H
   exact absurd H (by simp)
  rw [if_neg c13] at H
  exact absurd H (by simp)
 rw [if_neg c8] at H
 have c8b0 : (t158 == 0) = F := beq_eq_false_iff_ne.mpr c8
 have c8b1 : (t158 != 0) = T := bne_iff_ne.mpr c8
 (try simp only [c8b0, c8b1])
 simp only [Option.some.injEq, Prod.mk.injEq] at H
 obtain ⟨rfl, rfl⟩ := H
 go_wp2
 go_ret2
 exact ⟨Zq, Zb⟩
def Qby.f (k : Nat) (l0 : List (S98)) (a1 : Int) (a2 : Int) (a3 : Int) : Option (Int × Int) := (Qba.f k l0 a1 a2 0 a3).bind fun bt163 => (some (bt163.1, bt163.2))
theorem Qby.mono : ∀ a0 a1 a2 a3 k, LeO (Qby.f k a0 a1 a2 a3) (Qby.f (k + 1) a0 a1 a2 a3) := by
 intro a0 a1 a2 a3 k
 unfold Qby.f
 exact ZM1 Qba.mono
set_option maxHeartbeats 8000000 in
theorem Qby.calls (k : Nat) (A0 : Option Addr) (c0 : Nat) (l0 : List (S98)) (a1 : Int) (a2 : Int) (a3 : Int) (r1 : Int) (r2 : Int) (w : World) (hr0 : Kd.C k98 w A0 l0.length l0) (hc0 : l0.length ≤ c0) (h : Qby.f k l0 a1 a2 a3 = some (r1, r2)) :
  Calls Try.prog 115 #[.slice A0 l0.length c0, .int .i64 a1, .int .i64 a2, .int .i64 a3] w fun e w' => e = .returned (.tuple #[.int .i64 r1, .int .i64 r2]) ∧ Below w.heap.size w w' := by
 have HR0 := Aside0.mk hr0
 have HC0 := Aside0.mk hc0
 clear hr0 hc0
 have HB := Aside0.mk (Below.refl w.heap.size w)
 have H : ((Qba.f k l0 a1 a2 0 a3).bind fun bt163 => (some (bt163.1, bt163.2))) = some (r1, r2) := h
 clear h
 replace H := Option.bind_eq_some_iff.mp H
 obtain ⟨⟨t163, t164⟩, A50, H⟩ := H
 replace H : (some (t163, t164)) = some (r1, r2) := H
 have A5 := Aside0.mk A50
 clear A50
 simp only [Option.some.injEq, Prod.mk.injEq] at H
 obtain ⟨rfl, rfl⟩ := H
 go_enter Try.func115, Try.ntmps115
 go_wp2_with (first | ((with_reducible refine Qay (f := 126) rfl ?_); refine goesL_ (some 14) rfl rfl Try.func126 (by kernel_rfl) rfl #[.slice A0 l0.length c0, .int .i64 a1, .int .i64 a2, .int .i64 0, .int .i64 a3] rfl (Zl) ?_; (with_reducible refine (Qba.calls k _ _ l0 a1 a2 0 a3 t163 t164 _ ?side1 ?side2 A5.out).mono ?_); (case side1 => exact Zv HR0.out); (case side2 => exact HC0.out); rintro e w6 ⟨rfl, hb⟩; refine ⟨_, rfl, ?_⟩; replace HB := Aside0.mk (Qap (Zb) hb); (try clear hb); (try clear hb2); (try clear hk); (try clear hi)))
 go_ret2
 exact ⟨Zq, Zb⟩
def Qa7.f (k : Nat) (a0_0 : ByteArray) (a0_1 : Int) (a0_2 : Int) (a0_3 : Int) (a0_4 : Int) (a0_5 : Int) (a1 : Int) (l2 : List (S98)) : Option (Int × Int) := (Qbt.f k a0_0 a0_1 a0_2 a0_3 a0_4 a0_5 a1).bind fun bt166 => (if bt166.2 = 0 then ((Qby.f k l2 bt166.1 a0_2 3).bind fun bt168 => (if bt168.2 = 0 then ((QaO.f bt168.1 (wrap64 (1000 - a0_4)) 1000 3).bind fun bt170 => (some (bt170.1, bt170.2))) else (some (0, bt168.2)))) else (some (0, bt166.2)))
theorem Qa7.mono : ∀ a0 a1 a2 a3 a4 a5 a6 a7 k, LeO (Qa7.f k a0 a1 a2 a3 a4 a5 a6 a7) (Qa7.f (k + 1) a0 a1 a2 a3 a4 a5 a6 a7) := by
 intro a0 a1 a2 a3 a4 a5 a6 a7 k
 unfold Qa7.f
 exact ZM2 Qbt.mono Qby.mono
set_option maxHeartbeats 8000000 in
theorem Qa7.calls (k : Nat) (a0_0 : ByteArray) (a0_1 : Int) (a0_2 : Int) (a0_3 : Int) (a0_4 : Int) (a0_5 : Int) (a1 : Int) (A2 : Option Addr) (c2 : Nat) (l2 : List (S98)) (r1 : Int) (r2 : Int) (w : World) (hr2 : Kd.C k98 w A2 l2.length l2) (hc2 : l2.length ≤ c2) (h : Qa7.f k a0_0 a0_1 a0_2 a0_3 a0_4 a0_5 a1 l2 = some (r1, r2)) :
  Calls Try.prog 82 #[.agg #[.string a0_0, .int .i64 a0_1, .int .i64 a0_2, .int .i64 a0_3, .int .i64 a0_4, .int .i64 a0_5], .int .i64 a1, .slice A2 l2.length c2] w fun e w' => e = .returned (.tuple #[.int .i64 r1, .int .i64 r2]) ∧ Below w.heap.size w w' := by
 have hu84 := Try.underlying84
 have HR2 := Aside0.mk hr2
 have HC2 := Aside0.mk hc2
 clear hr2 hc2
 have HB := Aside0.mk (Below.refl w.heap.size w)
 have H : ((Qbt.f k a0_0 a0_1 a0_2 a0_3 a0_4 a0_5 a1).bind fun bt166 => (if bt166.2 = 0 then ((Qby.f k l2 bt166.1 a0_2 3).bind fun bt168 => (if bt168.2 = 0 then ((QaO.f bt168.1 (wrap64 (1000 - a0_4)) 1000 3).bind fun bt170 => (some (bt170.1, bt170.2))) else (some (0, bt168.2)))) else (some (0, bt166.2)))) = some (r1, r2) := h
 clear h
 replace H := Option.bind_eq_some_iff.mp H
 obtain ⟨⟨t166, t167⟩, A40, H⟩ := H
 replace H : (if t167 = 0 then ((Qby.f k l2 t166 a0_2 3).bind fun bt168 => (if bt168.2 = 0 then ((QaO.f bt168.1 (wrap64 (1000 - a0_4)) 1000 3).bind fun bt170 => (some (bt170.1, bt170.2))) else (some (0, bt168.2)))) else (some (0, t167))) = some (r1, r2) := H
 have A4 := Aside0.mk A40
 clear A40
 go_enter Try.func82, Try.ntmps82
 go_upto_if 17 with (first | ((with_reducible refine QaJ (N := 3) rfl ?_); refine Zbx (N := 3) (cs := #[.string a0_0, .int .i64 a0_1, .int .i64 a0_2, .int .i64 a0_3, .int .i64 a0_4, .int .i64 a0_5]) (t := 84) ?_; intro gb165 hg w5 hbox hb; have BK165 := Aside0.mk (hbox); have GW165 := Aside0.mk (Zt w hg (Zb)); have GE165 := GW165; replace HB := Aside0.mk (Qap (Zb) hb); clear hb hbox hg; obtain ⟨hcz6_0, hfz6_0⟩ := Zy (v := (.string a0_0)) BK165.out 0; obtain ⟨hcz6_1, hfz6_1⟩ := Zy (v := (.int .i64 a0_1)) BK165.out 1; obtain ⟨hcz6_2, hfz6_2⟩ := Zy (v := (.int .i64 a0_2)) BK165.out 2; obtain ⟨hcz6_3, hfz6_3⟩ := Zy (v := (.int .i64 a0_3)) BK165.out 3; obtain ⟨hcz6_4, hfz6_4⟩ := Zy (v := (.int .i64 a0_4)) BK165.out 4; obtain ⟨hcz6_5, hfz6_5⟩ := Zy (v := (.int .i64 a0_5)) BK165.out 5) | ((with_reducible refine Qay (f := 114) rfl ?_); refine goesL_ (some 13) rfl rfl Try.func114 (by kernel_rfl) rfl #[.agg #[.string a0_0, .int .i64 a0_1, .int .i64 a0_2, .int .i64 a0_3, .int .i64 a0_4, .int .i64 a0_5], .int .i64 a1] rfl (Zl) ?_; (with_reducible refine (Qbt.calls k a0_0 a0_1 a0_2 a0_3 a0_4 a0_5 a1 t166 t167 _ A4.out).mono ?_); rintro e w7 ⟨rfl, hb⟩; refine ⟨_, rfl, ?_⟩; replace BK165 := Aside0.mk (Zi BK165.out hb); replace HB := Aside0.mk (Qap (Zc1 GE165.out) hb); (try clear hb); (try clear hb2); (try clear hk); (try clear hi)))
 (try simp only [Act.put, Zj, Zk, Zm])
 by_cases c8 : t167 = 0
 ·rw [if_pos c8] at H
  have c8b0 : (t167 == 0) = T := beq_iff_eq.mpr c8
  have c8b1 : (t167 != 0) = F := bne_eq_false_iff_eq.mpr c8
  clear c8
  (try simp only [c8b0, c8b1])
  replace H := Option.bind_eq_some_iff.mp H
  obtain ⟨⟨t168, t169⟩, A90, H⟩ := H
  replace H : (if t169 = 0 then ((QaO.f t168 (wrap64 (1000 - a0_4)) 1000 3).bind fun bt170 => (some (bt170.1, bt170.2))) else (some (0, t169))) = some (r1, r2) := H
  have A9 := Aside0.mk A90
  clear A90
  obtain ⟨hcz10_0, hfz10_0⟩ := Zy (v := (.string a0_0)) BK165.out 0
  obtain ⟨hcz10_1, hfz10_1⟩ := Zy (v := (.int .i64 a0_1)) BK165.out 1
  obtain ⟨hcz10_2, hfz10_2⟩ := Zy (v := (.int .i64 a0_2)) BK165.out 2
  obtain ⟨hcz10_3, hfz10_3⟩ := Zy (v := (.int .i64 a0_3)) BK165.out 3
  obtain ⟨hcz10_4, hfz10_4⟩ := Zy (v := (.int .i64 a0_4)) BK165.out 4
  obtain ⟨hcz10_5, hfz10_5⟩ := Zy (v := (.int .i64 a0_5)) BK165.out 5
  go_upto_if 28 with (first | ((with_reducible refine Qay (f := 115) rfl ?_); refine goesL_ (some 24) rfl rfl Try.func115 (by kernel_rfl) rfl #[.slice A2 l2.length c2, .int .i64 t166, .int .i64 a0_2, .int .i64 3] rfl (Zl) ?_; (with_reducible refine (Qby.calls k _ _ l2 t166 a0_2 3 t168 t169 _ ?side1 ?side2 A9.out).mono ?_); (case side1 => exact Zv (Kd.C_below HR2.out HB.out)); (case side2 => exact HC2.out); rintro e w11 ⟨rfl, hb⟩; refine ⟨_, rfl, ?_⟩; replace BK165 := Aside0.mk (Zi BK165.out hb); replace HB := Aside0.mk (Qap (Zc1 GE165.out) hb); (try clear hb); (try clear hb2); (try clear hk); (try clear hi)))
  (try simp only [Act.put, Zj, Zk, Zm])
  by_cases c12 : t169 = 0
  ·rw [if_pos c12] at H
   have c12b0 : (t169 == 0) = T := beq_iff_eq.mpr c12
   have c12b1 : (t169 != 0) = F := bne_eq_false_iff_eq.mpr c12
   clear c12
   (try simp only [c12b0, c12b1])
   replace H := Option.bind_eq_some_iff.mp H
   obtain ⟨⟨t170, t171⟩, A130, H⟩ := H
   replace H : (some (t170, t171)) = some (r1, r2) := H
   have A13 := Aside0.mk A130
   clear A130
   simp only [Option.some.injEq, Prod.mk.injEq] at H
   obtain ⟨rfl, rfl⟩ := H
   obtain ⟨hcz14_0, hfz14_0⟩ := Zy (v := (.string a0_0)) BK165.out 0
   obtain ⟨hcz14_1, hfz14_1⟩ := Zy (v := (.int .i64 a0_1)) BK165.out 1
   obtain ⟨hcz14_2, hfz14_2⟩ := Zy (v := (.int .i64 a0_2)) BK165.out 2
   obtain ⟨hcz14_3, hfz14_3⟩ := Zy (v := (.int .i64 a0_3)) BK165.out 3
   obtain ⟨hcz14_4, hfz14_4⟩ := Zy (v := (.int .i64 a0_4)) BK165.out 4
   obtain ⟨hcz14_5, hfz14_5⟩ := Zy (v := (.int .i64 a0_5)) BK165.out 5
   go_wp2_with (first | ((with_reducible refine Qay (f := 57) rfl ?_); refine goesL_ (some 34) rfl rfl Try.func57 (by kernel_rfl) rfl #[.int .i64 t168, .int .i64 (wrap64 (1000 - a0_4)), .int .i64 1000, .int .i64 3] rfl (Zl) ?_; (with_reducible refine (QaO.calls t168 (wrap64 (1000 - a0_4)) 1000 3 t170 t171 _ A13.out).mono ?_); rintro e w15 ⟨rfl, hb⟩; refine ⟨_, rfl, ?_⟩; replace BK165 := Aside0.mk (Zi BK165.out hb); replace HB := Aside0.mk (Qap (Zc1 GE165.out) hb); (try clear hb); (try clear hb2); (try clear hk); (try clear hi)))
   go_ret2
   exact ⟨Zq, Zc1 GE165.out⟩
  rw [if_neg c12] at H
  have c12b0 : (t169 == 0) = F := beq_eq_false_iff_ne.mpr c12
  have c12b1 : (t169 != 0) = T := bne_iff_ne.mpr c12
  (try simp only [c12b0, c12b1])
  simp only [Option.some.injEq, Prod.mk.injEq] at H
  obtain ⟨rfl, rfl⟩ := H
  go_wp2
  go_ret2
  exact ⟨Zq, Zc1 GE165.out⟩
 rw [if_neg c8] at H
 have c8b0 : (t167 == 0) = F := beq_eq_false_iff_ne.mpr c8
 have c8b1 : (t167 != 0) = T := bne_iff_ne.mpr c8
 (try simp only [c8b0, c8b1])
 simp only [Option.some.injEq, Prod.mk.injEq] at H
 obtain ⟨rfl, rfl⟩ := H
 go_wp2
 go_ret2
 exact ⟨Zq, Zc1 GE165.out⟩
def Qa9.f (a0 : ByteArray) (a1 : ByteArray) : Option (Int) := (Qbo.f a0).bind fun t179 => ((Qbo.f a1).bind fun t180 => (if t179 = T then (if t180 = T then (some 0) else (some (-1))) else (if t180 = T then (some 1) else (if (Op.bytesLess a0.toList a1.toList) = T then (some (-1)) else (if a0.toList = a1.toList then (some 0) else (some 1))))))
set_option maxHeartbeats 8000000 in
theorem Qa9.calls (a0 : ByteArray) (a1 : ByteArray) (r : Int) (w : World) (h : Qa9.f a0 a1 = some r) :
  Calls Try.prog 107 #[.string a0, .string a1] w fun e w' => e = .returned (.int .i64 r) ∧ Drawn0 w w' := by
 have H : ((Qbo.f a0).bind fun t179 => ((Qbo.f a1).bind fun t180 => (if t179 = T then (if t180 = T then (some 0) else (some (-1))) else (if t180 = T then (some 1) else (if (Op.bytesLess a0.toList a1.toList) = T then (some (-1)) else (if a0.toList = a1.toList then (some 0) else (some 1))))))) = some r := h
 clear h
 replace H := Option.bind_eq_some_iff.mp H
 obtain ⟨t179, A30, H⟩ := H
 replace H : ((Qbo.f a1).bind fun t180 => (if t179 = T then (if t180 = T then (some 0) else (some (-1))) else (if t180 = T then (some 1) else (if (Op.bytesLess a0.toList a1.toList) = T then (some (-1)) else (if a0.toList = a1.toList then (some 0) else (some 1)))))) = some r := H
 have A3 := Aside0.mk A30
 clear A30
 replace H := Option.bind_eq_some_iff.mp H
 obtain ⟨t180, A40, H⟩ := H
 replace H : (if t179 = T then (if t180 = T then (some 0) else (some (-1))) else (if t180 = T then (some 1) else (if (Op.bytesLess a0.toList a1.toList) = T then (some (-1)) else (if a0.toList = a1.toList then (some 0) else (some 1))))) = some r := H
 have A4 := Aside0.mk A40
 clear A40
 go_enter Try.func107, Try.ntmps107
 go_upto_if 11 with (first | ((with_reducible refine Qay (f := 120) rfl ?_); refine goesL_ (some 8) rfl rfl Try.func120 (by kernel_rfl) rfl #[.string a0] rfl (Zl) ?_; (with_reducible refine (Qbo.calls a0 t179 _ A3.out).mono ?_); rintro e w' ⟨rfl, ⟨nd, rfl⟩⟩; refine ⟨_, rfl, ?_⟩) | ((with_reducible refine Qay (f := 120) rfl ?_); refine goesL_ (some 10) rfl rfl Try.func120 (by kernel_rfl) rfl #[.string a1] rfl (Zl) ?_; (with_reducible refine (Qbo.calls a1 t180 _ A4.out).mono ?_); rintro e w' ⟨rfl, ⟨nd, rfl⟩⟩; refine ⟨_, rfl, ?_⟩))
 (try simp only [Act.put, Zj, Zk, Zm])
 by_cases c5 : t179 = T
 ·subst c5
  have H1 : (if t180 = T then (some 0) else (some (-1))) = some r := by rw [if_pos rfl] at H; exact H
  clear H
  have H := H1
  clear H1
  by_cases c6 : t180 = T
  ·subst c6
   have H1 : (some 0) = some r := by rw [if_pos rfl] at H; exact H
   clear H
   have H := H1
   clear H1
   obtain rfl := Option.some.inj H
   go_wp2
   go_ret
   exact ⟨Zs, Zd⟩
  replace c6 := Bool.eq_false_iff.mpr c6
  subst c6
  have H1 : (some (-1)) = some r := by rw [if_neg (show ¬ (F = T) by decide)] at H; exact H
  clear H
  have H := H1
  clear H1
  obtain rfl := Option.some.inj H
  go_wp2
  go_ret
  exact ⟨Zs, Zd⟩
 replace c5 := Bool.eq_false_iff.mpr c5
 subst c5
 have H1 : (if t180 = T then (some 1) else (if (Op.bytesLess a0.toList a1.toList) = T then (some (-1)) else (if a0.toList = a1.toList then (some 0) else (some 1)))) = some r := by rw [if_neg (show ¬ (F = T) by decide)] at H; exact H
 clear H
 have H := H1
 clear H1
 by_cases c7 : t180 = T
 ·subst c7
  have H1 : (some 1) = some r := by rw [if_pos rfl] at H; exact H
  clear H
  have H := H1
  clear H1
  obtain rfl := Option.some.inj H
  go_wp2
  go_ret
  exact ⟨Zs, Zd⟩
 replace c7 := Bool.eq_false_iff.mpr c7
 subst c7
 have H1 : (if (Op.bytesLess a0.toList a1.toList) = T then (some (-1)) else (if a0.toList = a1.toList then (some 0) else (some 1))) = some r := by rw [if_neg (show ¬ (F = T) by decide)] at H; exact H
 clear H
 have H := H1
 clear H1
 by_cases c8 : (Op.bytesLess a0.toList a1.toList) = T
 ·rw [if_pos c8] at H
  have c8b0 : (Op.bytesLess a0.toList a1.toList) = T := c8
  clear c8
  (try simp only [c8b0])
  obtain rfl := Option.some.inj H
  go_wp2
  go_ret
  exact ⟨Zs, Zd⟩
 rw [if_neg c8] at H
 have c8b0 : (Op.bytesLess a0.toList a1.toList) = F := by simpa using c8
 clear c8
 (try simp only [c8b0])
 by_cases c9 : a0.toList = a1.toList
 ·rw [if_pos c9] at H
  have c9b0 : (a0.toList == a1.toList) = T := beq_iff_eq.mpr c9
  have c9b1 : (a0.toList != a1.toList) = F := bne_eq_false_iff_eq.mpr c9
  clear c9
  obtain rfl := Option.some.inj H
  go_wp2
  go_ret
  exact ⟨Zs, Zd⟩
 rw [if_neg c9] at H
 have c9b0 : (a0.toList == a1.toList) = F := beq_eq_false_iff_ne.mpr c9
 have c9b1 : (a0.toList != a1.toList) = T := bne_iff_ne.mpr c9
 obtain rfl := Option.some.inj H
 go_wp2
 go_ret
 exact ⟨Zs, Zd⟩
def Qbv.f (a0_0 : ByteArray) (a0_1 : ByteArray) (a0_2 : ByteArray) (a0_3 : Int) (a1_0 : ByteArray) (a1_1 : ByteArray) (a1_2 : ByteArray) (a1_3 : Int) : Option (Int) := (Qa9.f a0_0 a1_0).bind fun t183 => (if t183 = 0 then ((Qa9.f a0_1 a1_1).bind fun t184 => (if t184 = 0 then ((Qa9.f a0_2 a1_2).bind fun t185 => (some t185)) else (some t184))) else (some t183))
set_option maxHeartbeats 8000000 in
theorem Qbv.calls (a0_0 : ByteArray) (a0_1 : ByteArray) (a0_2 : ByteArray) (a0_3 : Int) (a1_0 : ByteArray) (a1_1 : ByteArray) (a1_2 : ByteArray) (a1_3 : Int) (r : Int) (w : World) (h : Qbv.f a0_0 a0_1 a0_2 a0_3 a1_0 a1_1 a1_2 a1_3 = some r) :
  Calls Try.prog 74 #[.agg #[.string a0_0, .string a0_1, .string a0_2, .int .i64 a0_3], .agg #[.string a1_0, .string a1_1, .string a1_2, .int .i64 a1_3]] w fun e w' => e = .returned (.int .i64 r) ∧ Below w.heap.size w w' := by
 have hu46 := Try.underlying46
 have HB := Aside0.mk (Below.refl w.heap.size w)
 have H : ((Qa9.f a0_0 a1_0).bind fun t183 => (if t183 = 0 then ((Qa9.f a0_1 a1_1).bind fun t184 => (if t184 = 0 then ((Qa9.f a0_2 a1_2).bind fun t185 => (some t185)) else (some t184))) else (some t183))) = some r := h
 clear h
 replace H := Option.bind_eq_some_iff.mp H
 obtain ⟨t183, A30, H⟩ := H
 replace H : (if t183 = 0 then ((Qa9.f a0_1 a1_1).bind fun t184 => (if t184 = 0 then ((Qa9.f a0_2 a1_2).bind fun t185 => (some t185)) else (some t184))) else (some t183)) = some r := H
 have A3 := Aside0.mk A30
 clear A30
 go_enter Try.func74, Try.ntmps74
 go_upto_if 15 with (first | ((with_reducible refine QaJ (N := 2) rfl ?_); refine Zbx (N := 2) (cs := #[.string a0_0, .string a0_1, .string a0_2, .int .i64 a0_3]) (t := 46) ?_; intro gb181 hg w4 hbox hb; have BK181 := Aside0.mk (hbox); have GW181 := Aside0.mk (Zt w hg (Zb)); have GE181 := GW181; replace HB := Aside0.mk (Qap (Zb) hb); clear hb hbox hg) | ((with_reducible refine QaJ (N := 3) rfl ?_); refine Zbx (N := 3) (cs := #[.string a1_0, .string a1_1, .string a1_2, .int .i64 a1_3]) (t := 46) ?_; intro gb182 hg w5 hbox hb; have BK182 := Aside0.mk (hbox); have GW182 := Aside0.mk (Zt w hg (Zc1 GE181.out)); have GE182 := GW182; have NB181_182 := Aside0.mk (Zn hg BK181.out); have NB182_181 := Aside0.mk NB181_182.out.symm; replace BK181 := Aside0.mk (Zi BK181.out hb); replace HB := Aside0.mk (Qap (Zc1 GE181.out) hb); clear hb hbox hg; have hnb6 := NB181_182.out; have hnc6 := NB182_181.out; obtain ⟨hcz7_0, hfz7_0⟩ := Zy (v := (.string a0_0)) BK181.out 0; obtain ⟨hcz7_1, hfz7_1⟩ := Zy (v := (.string a0_1)) BK181.out 1; obtain ⟨hcz7_2, hfz7_2⟩ := Zy (v := (.string a0_2)) BK181.out 2; obtain ⟨hcz7_3, hfz7_3⟩ := Zy (v := (.int .i64 a0_3)) BK181.out 3; obtain ⟨hcz8_0, hfz8_0⟩ := Zy (v := (.string a1_0)) BK182.out 0; obtain ⟨hcz8_1, hfz8_1⟩ := Zy (v := (.string a1_1)) BK182.out 1; obtain ⟨hcz8_2, hfz8_2⟩ := Zy (v := (.string a1_2)) BK182.out 2; obtain ⟨hcz8_3, hfz8_3⟩ := Zy (v := (.int .i64 a1_3)) BK182.out 3) | ((with_reducible refine Qay (f := 107) rfl ?_); refine goesL_ (some 13) rfl rfl Try.func107 (by kernel_rfl) rfl #[.string a0_0, .string a1_0] rfl (Zl) ?_; (with_reducible refine (Qa9.calls a0_0 a1_0 t183 _ A3.out).mono ?_); rintro e w' ⟨rfl, ⟨nd, rfl⟩⟩; refine ⟨_, rfl, ?_⟩))
 (try simp only [Act.put, Zj, Zk, Zm])
 by_cases c9 : t183 = 0
 ·rw [if_pos c9] at H
  have c9b0 : (t183 == 0) = T := beq_iff_eq.mpr c9
  have c9b1 : (t183 != 0) = F := bne_eq_false_iff_eq.mpr c9
  clear c9
  (try simp only [c9b0, c9b1])
  replace H := Option.bind_eq_some_iff.mp H
  obtain ⟨t184, A100, H⟩ := H
  replace H : (if t184 = 0 then ((Qa9.f a0_2 a1_2).bind fun t185 => (some t185)) else (some t184)) = some r := H
  have A10 := Aside0.mk A100
  clear A100
  have hnb11 := NB181_182.out
  have hnc11 := NB182_181.out
  obtain ⟨hcz12_0, hfz12_0⟩ := Zy (v := (.string a0_0)) BK181.out 0
  obtain ⟨hcz12_1, hfz12_1⟩ := Zy (v := (.string a0_1)) BK181.out 1
  obtain ⟨hcz12_2, hfz12_2⟩ := Zy (v := (.string a0_2)) BK181.out 2
  obtain ⟨hcz12_3, hfz12_3⟩ := Zy (v := (.int .i64 a0_3)) BK181.out 3
  obtain ⟨hcz13_0, hfz13_0⟩ := Zy (v := (.string a1_0)) BK182.out 0
  obtain ⟨hcz13_1, hfz13_1⟩ := Zy (v := (.string a1_1)) BK182.out 1
  obtain ⟨hcz13_2, hfz13_2⟩ := Zy (v := (.string a1_2)) BK182.out 2
  obtain ⟨hcz13_3, hfz13_3⟩ := Zy (v := (.int .i64 a1_3)) BK182.out 3
  go_upto_if 25 with (first | ((with_reducible refine Qay (f := 107) rfl ?_); refine goesL_ (some 23) rfl rfl Try.func107 (by kernel_rfl) rfl #[.string a0_1, .string a1_1] rfl (Zl) ?_; (with_reducible refine (Qa9.calls a0_1 a1_1 t184 _ A10.out).mono ?_); rintro e w' ⟨rfl, ⟨nd, rfl⟩⟩; refine ⟨_, rfl, ?_⟩))
  (try simp only [Act.put, Zj, Zk, Zm])
  by_cases c14 : t184 = 0
  ·rw [if_pos c14] at H
   have c14b0 : (t184 == 0) = T := beq_iff_eq.mpr c14
   have c14b1 : (t184 != 0) = F := bne_eq_false_iff_eq.mpr c14
   clear c14
   (try simp only [c14b0, c14b1])
   replace H := Option.bind_eq_some_iff.mp H
   obtain ⟨t185, A150, H⟩ := H
   replace H : (some t185) = some r := H
   have A15 := Aside0.mk A150
   clear A150
   obtain rfl := Option.some.inj H
   have hnb16 := NB181_182.out
   have hnc16 := NB182_181.out
   obtain ⟨hcz17_0, hfz17_0⟩ := Zy (v := (.string a0_0)) BK181.out 0
   obtain ⟨hcz17_1, hfz17_1⟩ := Zy (v := (.string a0_1)) BK181.out 1
   obtain ⟨hcz17_2, hfz17_2⟩ := Zy (v := (.string a0_2)) BK181.out 2
   obtain ⟨hcz17_3, hfz17_3⟩ := Zy (v := (.int .i64 a0_3)) BK181.out 3
   obtain ⟨hcz18_0, hfz18_0⟩ := Zy (v := (.string a1_0)) BK182.out 0
   obtain ⟨hcz18_1, hfz18_1⟩ := Zy (v := (.string a1_1)) BK182.out 1
   obtain ⟨hcz18_2, hfz18_2⟩ := Zy (v := (.string a1_2)) BK182.out 2
   obtain ⟨hcz18_3, hfz18_3⟩ := Zy (v := (.int .i64 a1_3)) BK182.out 3
   go_wp2_with (first | ((with_reducible refine Qay (f := 107) rfl ?_); refine goesL_ (some 31) rfl rfl Try.func107 (by kernel_rfl) rfl #[.string a0_2, .string a1_2] rfl (Zl) ?_; (with_reducible refine (Qa9.calls a0_2 a1_2 t185 _ A15.out).mono ?_); rintro e w' ⟨rfl, ⟨nd, rfl⟩⟩; refine ⟨_, rfl, ?_⟩))
   go_ret
   exact ⟨Zq, Zc2 GE181.out GE182.out⟩
  rw [if_neg c14] at H
  have c14b0 : (t184 == 0) = F := beq_eq_false_iff_ne.mpr c14
  have c14b1 : (t184 != 0) = T := bne_iff_ne.mpr c14
  (try simp only [c14b0, c14b1])
  obtain rfl := Option.some.inj H
  go_wp2
  go_ret
  exact ⟨Zq, Zc2 GE181.out GE182.out⟩
 rw [if_neg c9] at H
 have c9b0 : (t183 == 0) = F := beq_eq_false_iff_ne.mpr c9
 have c9b1 : (t183 != 0) = T := bne_iff_ne.mpr c9
 (try simp only [c9b0, c9b1])
 obtain rfl := Option.some.inj H
 go_wp2
 go_ret
 exact ⟨Zq, Zc2 GE181.out GE182.out⟩
def Qa0.l0 : Nat → List ByteArray → Int → Int → Option (Bool)
 | 0, _, _, _ => none
 | k + 1, x5, x6, x7 => if x7 < x6 then (if 0 ≤ x7 then (if x7 < (x5.length : Int) then ((QaF.f k (rdOf ByteArray.empty x5 x7)).bind fun t187 => (if t187 = T then (Qa0.l0 k x5 x6 (wrap64 (x7 + 1))) else (some F))) else (none)) else (none)) else (some T)
def Qa0.f (k : Nat) (l0 : List ByteArray) : Option (Bool) := Qa0.l0 k l0 (l0.length : Int) 0
theorem Qa0.mono_l : ∀ k, (∀ y0 y1 y2, LeO (Qa0.l0 k y0 y1 y2) (Qa0.l0 (k + 1) y0 y1 y2))
 | 0 => fun _ _ _ r h => by simp [Qa0.l0] at h
 | k + 1 => by
  have ih0 := Qa0.mono_l k
  intro y0 y1 y2
  unfold Qa0.l0
  exact ZM2 ih0 QaF.mono
theorem Qa0.mono : ∀ a0 k, LeO (Qa0.f k a0) (Qa0.f (k + 1) a0) := by
 intro a0 k
 have ih0 := Qa0.mono_l k
 unfold Qa0.f
 exact ZM2 ih0 QaF.mono
set_option maxHeartbeats 8000000 in
theorem Qa0.calls (k : Nat) (A0 : Option Addr) (c0 : Nat) (l0 : List ByteArray) (r : Bool) (w : World) (hr0 : Kd.C Kd.string w A0 l0.length l0) (hc0 : l0.length ≤ c0) (h : Qa0.f k l0 = some r) :
  Calls Try.prog 83 #[.slice A0 l0.length c0] w fun e w' => e = .returned (.bool r) ∧ Drawn0 w w' := by
 have HR0 := Aside0.mk hr0
 have HC0 := Aside0.mk hc0
 clear hr0 hc0
 have H : (Qa0.l0 k l0 (l0.length : Int) 0) = some r := h
 clear h
 have H' := Aside0.mk H
 clear H
 go_enter Try.func83, Try.ntmps83
 go_wp2
 go_loopg [7] k (fun kq v7 w' => ∃ (x7_1 : Int), v7 = .int .i64 x7_1 ∧ Aside0 (Qa0.l0 kq l0 (l0.length : Int) x7_1 = some r) ∧ Aside0 (kq ≤ k) ∧ Drawn0 w w')
 case atStart => exact ⟨(0), (Zs), H', ⟨Nat.le_refl _⟩, Zd⟩
 case round =>
  clear H'
  obtain ⟨x7_1, rfl, HA, HK1, ⟨m1, rfl⟩⟩ := hrel
  cases gk with
  | zero => exact absurd HA.out (by simp [Qa0.l0])
  | succ k1 =>
   have H := HA.out
   clear HA
   simp only [Qa0.l0] at H
   by_cases c2 : x7_1 < (l0.length : Int)
   ·rw [if_pos c2] at H
    have c2b0 : decide (x7_1 < (l0.length : Int)) = T := decide_eq_true c2
    clear c2
    (try simp only [c2b0])
    by_cases c3 : 0 ≤ x7_1
    ·rw [if_pos c3] at H
     have c3b0 : decide (0 ≤ x7_1) = T := decide_eq_true c3
     clear c3
     by_cases c4 : x7_1 < (l0.length : Int)
     ·rw [if_pos c4] at H
      have c4b0 : decide (x7_1 < (l0.length : Int)) = T := decide_eq_true c4
      clear c4
      replace H := Option.bind_eq_some_iff.mp H
      obtain ⟨t187, A50, H⟩ := H
      replace H : (if t187 = T then (Qa0.l0 k1 l0 (l0.length : Int) (wrap64 (x7_1 + 1))) else (some F)) = some r := H
      have A5 := Aside0.mk A50
      clear A50
      have p186 : 0 ≤ (x7_1 : Int) := Ze
      have q186 : x7_1 < (l0.length : Int) := Ze
      obtain ⟨ad186, e186, hx186_0⟩ := Kd.at_string HR0.out x7_1 p186 q186
      cases e186
      replace p186 := eq_true p186
      replace q186 := eq_true q186
      go_upto_if 13 with (first | ((with_reducible refine Qay (f := 108) rfl ?_); refine goesL_ (some 12) rfl rfl Try.func108 (by kernel_rfl) rfl #[.string (rdOf ByteArray.empty l0 x7_1)] rfl (Zl) ?_; (with_reducible refine (QaF.calls k1 (rdOf ByteArray.empty l0 x7_1) t187 _ A5.out).mono ?_); rintro e w' ⟨rfl, ⟨nd, rfl⟩⟩; refine ⟨_, rfl, ?_⟩))
      (try simp only [Act.put, Zj, Zk, Zm])
      by_cases c6 : t187 = T
      ·subst c6
       have H1 : (Qa0.l0 k1 l0 (l0.length : Int) (wrap64 (x7_1 + 1))) = some r := by rw [if_pos rfl] at H; exact H
       clear H
       have H := H1
       clear H1
       have H' := Aside0.mk H
       clear H
       go_wp2
       go_roundg k1
       case measure => have := HK1.out; omega
       case rel => exact ⟨(wrap64 (x7_1 + 1)), (Zs), H', ⟨by have := HK1.out; omega⟩, Zd⟩
      replace c6 := Bool.eq_false_iff.mpr c6
      subst c6
      have H1 : (some F) = some r := by rw [if_neg (show ¬ (F = T) by decide)] at H; exact H
      clear H
      have H := H1
      clear H1
      obtain rfl := Option.some.inj H
      go_wp2
      go_ret
      exact ⟨Zs, Zd⟩
     rw [if_neg c4] at H
     exact absurd H (by simp)
    rw [if_neg c3] at H
    exact absurd H (by simp)
   rw [if_neg c2] at H
   have c2b0 : decide (x7_1 < (l0.length : Int)) = F := decide_eq_false c2
   clear c2
   (try simp only [c2b0])
   obtain rfl := Option.some.inj H
   go_wp2
   go_ret
   exact ⟨Zs, Zd⟩
mutual
def QaN.l0 : Nat → Int → Int → List Int → Int → Int → Option (Int × Int)
 | 0, _, _, _, _, _ => none
 | k + 1, x4, x5, x9, x10, x11 => if x11 < x10 then (if 0 ≤ x11 then (if x11 < (x9.length : Int) then (QaN.l0 k (wrap64 (x4 + (wrap64 (Int.tdiv (rd x9 x11) 4294967296)))) (wrap64 (x5 + (Int.tmod (rd x9 x11) 4294967296))) x9 x10 (wrap64 (x11 + 1))) else (none)) else (none)) else (if (wrap64 (x4 + (wrap64 (Int.tdiv x5 4294967296)))) > 268435457 then (QaN.j1 k (wrap64 (x4 + (wrap64 (Int.tdiv x5 4294967296)))) (Int.tmod x5 4294967296) T) else (QaN.j1 k (wrap64 (x4 + (wrap64 (Int.tdiv x5 4294967296)))) (Int.tmod x5 4294967296) (decide ((wrap64 (x4 + (wrap64 (Int.tdiv x5 4294967296)))) < (-268435457)))))
def QaN.j1 : Nat → Int → Int → Bool → Option (Int × Int)
 | 0, _, _, _ => none
 | k + 1, x4, x5, x35 => if x35 = T then (some (0, 3)) else (if (wrap64 ((wrap64 (x4 * 4294967296)) + x5)) > 1152921504606846976 then (some (0, 3)) else (if (wrap64 ((wrap64 (x4 * 4294967296)) + x5)) < (-1152921504606846976) then (some (0, 3)) else (some (wrap64 ((wrap64 (x4 * 4294967296)) + x5), 0))))
end
def QaN.f (k : Nat) (l0 : List Int) : Option (Int × Int) := QaN.l0 k 0 0 l0 (l0.length : Int) 0
theorem QaN.mono_l : ∀ k, (∀ y0 y1 y2 y3 y4, LeO (QaN.l0 k y0 y1 y2 y3 y4) (QaN.l0 (k + 1) y0 y1 y2 y3 y4)) ∧ (∀ y0 y1 y2, LeO (QaN.j1 k y0 y1 y2) (QaN.j1 (k + 1) y0 y1 y2))
 | 0 => ⟨fun _ _ _ _ _ r h => by simp [QaN.l0] at h, fun _ _ _ r h => by simp [QaN.j1] at h⟩
 | k + 1 => by
  obtain ⟨ih0, ih1⟩ := QaN.mono_l k
  refine ⟨?_, ?_⟩
  ·intro y0 y1 y2 y3 y4
   unfold QaN.l0
   exact ZM2 ih0 ih1
  intro y0 y1 y2
  unfold QaN.j1
  exact ZM2 ih0 ih1
theorem QaN.mono : ∀ a0 k, LeO (QaN.f k a0) (QaN.f (k + 1) a0) := by
 intro a0 k
 obtain ⟨ih0, ih1⟩ := QaN.mono_l k
 unfold QaN.f
 exact ZM2 ih0 ih1
set_option maxHeartbeats 8000000 in
theorem QaN.calls (k : Nat) (A0 : Option Addr) (c0 : Nat) (l0 : List Int) (r1 : Int) (r2 : Int) (w : World) (hr0 : Kd.C (Kd.int .i64) w A0 l0.length l0) (hc0 : l0.length ≤ c0) (h : QaN.f k l0 = some (r1, r2)) :
  Calls Try.prog 53 #[.slice A0 l0.length c0] w fun e w' => e = .returned (.tuple #[.int .i64 r1, .int .i64 r2]) ∧ Drawn0 w w' := by
 have HR0 := Aside0.mk hr0
 have HC0 := Aside0.mk hc0
 clear hr0 hc0
 have H : (QaN.l0 k 0 0 l0 (l0.length : Int) 0) = some (r1, r2) := h
 clear h
 have H' := Aside0.mk H
 clear H
 go_enter Try.func53, Try.ntmps53
 go_wp2
 go_loopg [4, 5, 11] k (fun kq v4 v5 v11 w' => ∃ (x4_1 : Int) (x5_1 : Int) (x11_1 : Int), v4 = .int .i64 x4_1 ∧ v5 = .int .i64 x5_1 ∧ v11 = .int .i64 x11_1 ∧ Aside0 (QaN.l0 kq x4_1 x5_1 l0 (l0.length : Int) x11_1 = some (r1, r2)) ∧ Aside0 (kq ≤ k) ∧ Drawn0 w w')
 case atStart => exact ⟨(0), (0), (0), (Zs), (Zs), (Zs), H', ⟨Nat.le_refl _⟩, Zd⟩
 case round =>
  clear H'
  obtain ⟨x4_1, x5_1, x11_1, rfl, rfl, rfl, HA, HK1, ⟨m1, rfl⟩⟩ := hrel
  cases gk with
  | zero => exact absurd HA.out (by simp [QaN.l0])
  | succ k1 =>
   have H := HA.out
   clear HA
   simp only [QaN.l0] at H
   by_cases c2 : x11_1 < (l0.length : Int)
   ·rw [if_pos c2] at H
    have c2b0 : decide (x11_1 < (l0.length : Int)) = T := decide_eq_true c2
    clear c2
    (try simp only [c2b0])
    by_cases c3 : 0 ≤ x11_1
    ·rw [if_pos c3] at H
     have c3b0 : decide (0 ≤ x11_1) = T := decide_eq_true c3
     clear c3
     by_cases c4 : x11_1 < (l0.length : Int)
     ·rw [if_pos c4] at H
      have c4b0 : decide (x11_1 < (l0.length : Int)) = T := decide_eq_true c4
      clear c4
      have H' := Aside0.mk H
      clear H
      have p533 : 0 ≤ (x11_1 : Int) := Ze
      have q533 : x11_1 < (l0.length : Int) := Ze
      obtain ⟨ad533, e533, hx533_0⟩ := Kd.at_int HR0.out x11_1 p533 q533
      cases e533
      replace p533 := eq_true p533
      replace q533 := eq_true q533
      go_wp2
      go_roundg k1
      case measure => have := HK1.out; omega
      case rel => exact ⟨(wrap64 (x4_1 + (wrap64 (Int.tdiv (rd l0 x11_1) 4294967296)))), (wrap64 (x5_1 + (Int.tmod (rd l0 x11_1) 4294967296))), (wrap64 (x11_1 + 1)), (Zs), (Zs), (Zs), H', ⟨by have := HK1.out; omega⟩, Zd⟩
     rw [if_neg c4] at H
     exact absurd H (by simp)
    rw [if_neg c3] at H
    exact absurd H (by simp)
   rw [if_neg c2] at H
   have c2b0 : decide (x11_1 < (l0.length : Int)) = F := decide_eq_false c2
   clear c2
   (try simp only [c2b0])
   have HC5 := Aside0.mk H
   clear H
   go_upto_region 10 with (fail)
   go_cut [35] (fun v35 wc => ∃ (kq : Nat) (x35_4 : Bool), v35 = .bool x35_4 ∧ Aside0 (QaN.j1 kq (wrap64 (x4_1 + (wrap64 (Int.tdiv x5_1 4294967296)))) (Int.tmod x5_1 4294967296) x35_4 = some (r1, r2)) ∧ Aside0 (kq ≤ k1) ∧ Drawn0 w wc)
   case first =>
    have H := HC5.out
    clear HC5
    by_cases c6 : (wrap64 (x4_1 + (wrap64 (Int.tdiv x5_1 4294967296)))) > 268435457
    ·rw [if_pos c6] at H
     have c6b0 : decide (268435457 < (wrap64 (x4_1 + (wrap64 (Int.tdiv x5_1 4294967296))))) = T := decide_eq_true c6
     clear c6
     have H' := Aside0.mk H
     clear H
     go_wp2
     go_meet
     case rel => exact ⟨_, (T), (Zs), H', ⟨by have := HK1.out; first | omega | exact Nat.le_refl _⟩, Zd⟩
    rw [if_neg c6] at H
    have c6b0 : decide (268435457 < (wrap64 (x4_1 + (wrap64 (Int.tdiv x5_1 4294967296))))) = F := decide_eq_false c6
    clear c6
    have H' := Aside0.mk H
    clear H
    go_wp2
    go_meet
    case rel => exact ⟨_, (decide ((wrap64 (x4_1 + (wrap64 (Int.tdiv x5_1 4294967296)))) < (-268435457))), (Zs), H', ⟨by have := HK1.out; first | omega | exact Nat.le_refl _⟩, Zd⟩
   case rest =>
    clear HC5
    try clear c2
    try clear c2b0
    try clear p2
    try clear c3
    try clear c3b0
    try clear c4
    try clear c4b0
    try clear c5
    try clear p5
    try clear q5
    try clear hx5
    try clear c6
    try clear c6b0
    try clear p6
    try clear hx533_0
    try clear p533
    try clear q533
    obtain ⟨kq, x35_4, rfl, HA, HJ4, ⟨mc4, rfl⟩⟩ := hcut
    cases kq with
    | zero => exact absurd HA.out (by simp [QaN.j1])
    | succ kj4 =>
     have H := HA.out
     clear HA
     simp only [QaN.j1] at H
     by_cases c7 : x35_4 = T
     ·subst c7
      have H1 : (some (0, 3)) = some (r1, r2) := by rw [if_pos rfl] at H; exact H
      clear H
      have H := H1
      clear H1
      simp only [Option.some.injEq, Prod.mk.injEq] at H
      obtain ⟨rfl, rfl⟩ := H
      go_wp2
      go_ret2
      exact ⟨Zs, Zd⟩
     replace c7 := Bool.eq_false_iff.mpr c7
     subst c7
     have H1 : (if (wrap64 ((wrap64 ((wrap64 (x4_1 + (wrap64 (Int.tdiv x5_1 4294967296)))) * 4294967296)) + (Int.tmod x5_1 4294967296))) > 1152921504606846976 then (some (0, 3)) else (if (wrap64 ((wrap64 ((wrap64 (x4_1 + (wrap64 (Int.tdiv x5_1 4294967296)))) * 4294967296)) + (Int.tmod x5_1 4294967296))) < (-1152921504606846976) then (some (0, 3)) else (some (wrap64 ((wrap64 ((wrap64 (x4_1 + (wrap64 (Int.tdiv x5_1 4294967296)))) * 4294967296)) + (Int.tmod x5_1 4294967296)), 0)))) = some (r1, r2) := by rw [if_neg (show ¬ (F = T) by decide)] at H; exact H
     clear H
     have H := H1
     clear H1
     by_cases c8 : (wrap64 ((wrap64 ((wrap64 (x4_1 + (wrap64 (Int.tdiv x5_1 4294967296)))) * 4294967296)) + (Int.tmod x5_1 4294967296))) > 1152921504606846976
     ·rw [if_pos c8] at H
      have c8b0 : decide (1152921504606846976 < (wrap64 ((wrap64 ((wrap64 (x4_1 + (wrap64 (Int.tdiv x5_1 4294967296)))) * 4294967296)) + (Int.tmod x5_1 4294967296)))) = T := decide_eq_true c8
      clear c8
      simp only [Option.some.injEq, Prod.mk.injEq] at H
      obtain ⟨rfl, rfl⟩ := H
      go_wp2
      go_ret2
      exact ⟨Zs, Zd⟩
     rw [if_neg c8] at H
     have c8b0 : decide (1152921504606846976 < (wrap64 ((wrap64 ((wrap64 (x4_1 + (wrap64 (Int.tdiv x5_1 4294967296)))) * 4294967296)) + (Int.tmod x5_1 4294967296)))) = F := decide_eq_false c8
     clear c8
     by_cases c9 : (wrap64 ((wrap64 ((wrap64 (x4_1 + (wrap64 (Int.tdiv x5_1 4294967296)))) * 4294967296)) + (Int.tmod x5_1 4294967296))) < (-1152921504606846976)
     ·rw [if_pos c9] at H
      have c9b0 : decide ((wrap64 ((wrap64 ((wrap64 (x4_1 + (wrap64 (Int.tdiv x5_1 4294967296)))) * 4294967296)) + (Int.tmod x5_1 4294967296))) < (-1152921504606846976)) = T := decide_eq_true c9
      clear c9
      (try simp only [c9b0])
      simp only [Option.some.injEq, Prod.mk.injEq] at H
      obtain ⟨rfl, rfl⟩ := H
      go_wp2
      go_ret2
      exact ⟨Zs, Zd⟩
     rw [if_neg c9] at H
     have c9b0 : decide ((wrap64 ((wrap64 ((wrap64 (x4_1 + (wrap64 (Int.tdiv x5_1 4294967296)))) * 4294967296)) + (Int.tmod x5_1 4294967296))) < (-1152921504606846976)) = F := decide_eq_false c9
     clear c9
     (try simp only [c9b0])
     simp only [Option.some.injEq, Prod.mk.injEq] at H
     obtain ⟨rfl, rfl⟩ := H
     go_wp2
     go_ret2
     exact ⟨Zs, Zd⟩
def QaE.l0 : Nat → List Int → Int → Int → Int → Option (Int × Bool)
 | 0, _, _, _, _ => none
 | k + 1, x0, x4, x5, x6 => if x6 < (x0.length : Int) then (if 0 ≤ x6 then (QaE.l0 k x0 (wrap64 (x4 + ((rd x0 x6) / 1073741824))) (wrap64 (x5 + (Go.bits .and .i64 (rd x0 x6) 1073741823))) (wrap64 (x6 + 1))) else (none)) else (if (wrap64 (x4 + (x5 / 1073741824))) < (-1073741824) then (some (0, F)) else (if (wrap64 (x4 + (x5 / 1073741824))) > 1073741824 then (some (0, F)) else (if (wrap64 (x4 + (x5 / 1073741824))) = 1073741824 then (if (Go.bits .and .i64 x5 1073741823) > 0 then (some (0, F)) else (some (wrap64 ((wrap64 ((wrap64 (x4 + (x5 / 1073741824))) * 1073741824)) + (Go.bits .and .i64 x5 1073741823)), T))) else (some (wrap64 ((wrap64 ((wrap64 (x4 + (x5 / 1073741824))) * 1073741824)) + (Go.bits .and .i64 x5 1073741823)), T)))))
def QaE.f (k : Nat) (l0 : List Int) : Option (Int × Bool) := QaE.l0 k l0 0 0 0
theorem QaE.mono_l : ∀ k, (∀ y0 y1 y2 y3, LeO (QaE.l0 k y0 y1 y2 y3) (QaE.l0 (k + 1) y0 y1 y2 y3))
 | 0 => fun _ _ _ _ r h => by simp [QaE.l0] at h
 | k + 1 => by
  have ih0 := QaE.mono_l k
  intro y0 y1 y2 y3
  unfold QaE.l0
  exact ZM1 ih0
theorem QaE.mono : ∀ a0 k, LeO (QaE.f k a0) (QaE.f (k + 1) a0) := by
 intro a0 k
 have ih0 := QaE.mono_l k
 unfold QaE.f
 exact ZM1 ih0
set_option maxHeartbeats 8000000 in
theorem QaE.calls (k : Nat) (A0 : Option Addr) (c0 : Nat) (l0 : List Int) (r1 : Int) (r2 : Bool) (w : World) (hr0 : Kd.C (Kd.int .i64) w A0 l0.length l0) (hc0 : l0.length ≤ c0) (h : QaE.f k l0 = some (r1, r2)) :
  Calls Try.prog 54 #[.slice A0 l0.length c0] w fun e w' => e = .returned (.tuple #[.int .i64 r1, .bool r2]) ∧ Drawn0 w w' := by
 have HR0 := Aside0.mk hr0
 have HC0 := Aside0.mk hc0
 clear hr0 hc0
 have H : (QaE.l0 k l0 0 0 0) = some (r1, r2) := h
 clear h
 have H' := Aside0.mk H
 clear H
 go_enter Try.func54, Try.ntmps54
 go_wp2
 go_loopg [4, 5, 6] k (fun kq v4 v5 v6 w' => ∃ (x4_1 : Int) (x5_1 : Int) (x6_1 : Int), v4 = .int .i64 x4_1 ∧ v5 = .int .i64 x5_1 ∧ v6 = .int .i64 x6_1 ∧ Aside0 (QaE.l0 kq l0 x4_1 x5_1 x6_1 = some (r1, r2)) ∧ Aside0 (kq ≤ k) ∧ Drawn0 w w')
 case atStart => exact ⟨(0), (0), (0), (Zs), (Zs), (Zs), H', ⟨Nat.le_refl _⟩, Zd⟩
 case round =>
  clear H'
  obtain ⟨x4_1, x5_1, x6_1, rfl, rfl, rfl, HA, HK1, ⟨m1, rfl⟩⟩ := hrel
  cases gk with
  | zero => exact absurd HA.out (by simp [QaE.l0])
  | succ k1 =>
   have H := HA.out
   clear HA
   simp only [QaE.l0] at H
   by_cases c2 : x6_1 < (l0.length : Int)
   ·rw [if_pos c2] at H
    have c2b0 : decide (x6_1 < (l0.length : Int)) = T := decide_eq_true c2
    clear c2
    (try simp only [c2b0])
    by_cases c3 : 0 ≤ x6_1
    ·rw [if_pos c3] at H
     have c3b0 : decide (0 ≤ x6_1) = T := decide_eq_true c3
     clear c3
     have H' := Aside0.mk H
     clear H
     have p557 : 0 ≤ (x6_1 : Int) := Ze
     have q557 : x6_1 < (l0.length : Int) := Ze
     obtain ⟨ad557, e557, hx557_0⟩ := Kd.at_int HR0.out x6_1 p557 q557
     cases e557
     replace p557 := eq_true p557
     replace q557 := eq_true q557
     have p558 : 0 ≤ (x6_1 : Int) := Ze
     have q558 : x6_1 < (l0.length : Int) := Ze
     obtain ⟨ad558, e558, hx558_0⟩ := Kd.at_int HR0.out x6_1 p558 q558
     obtain rfl : ad557 = ad558 := (by injection e558)
     replace p558 := eq_true p558
     replace q558 := eq_true q558
     go_wp2
     go_roundg k1
     case measure => have := HK1.out; omega
     case rel => exact ⟨(wrap64 (x4_1 + ((rd l0 x6_1) / 1073741824))), (wrap64 (x5_1 + (Go.bits .and .i64 (rd l0 x6_1) 1073741823))), (wrap64 (x6_1 + 1)), (Zs), (Zs), (Zs), H', ⟨by have := HK1.out; omega⟩, Zd⟩
    rw [if_neg c3] at H
    exact absurd H (by simp)
   rw [if_neg c2] at H
   have c2b0 : decide (x6_1 < (l0.length : Int)) = F := decide_eq_false c2
   clear c2
   (try simp only [c2b0])
   by_cases c4 : (wrap64 (x4_1 + (x5_1 / 1073741824))) < (-1073741824)
   ·rw [if_pos c4] at H
    have c4b0 : decide ((wrap64 (x4_1 + (x5_1 / 1073741824))) < (-1073741824)) = T := decide_eq_true c4
    clear c4
    simp only [Option.some.injEq, Prod.mk.injEq] at H
    obtain ⟨rfl, rfl⟩ := H
    go_wp2
    go_ret2
    exact ⟨Zs, Zd⟩
   rw [if_neg c4] at H
   have c4b0 : decide ((wrap64 (x4_1 + (x5_1 / 1073741824))) < (-1073741824)) = F := decide_eq_false c4
   clear c4
   by_cases c5 : (wrap64 (x4_1 + (x5_1 / 1073741824))) > 1073741824
   ·rw [if_pos c5] at H
    have c5b0 : decide (1073741824 < (wrap64 (x4_1 + (x5_1 / 1073741824)))) = T := decide_eq_true c5
    clear c5
    simp only [Option.some.injEq, Prod.mk.injEq] at H
    obtain ⟨rfl, rfl⟩ := H
    go_wp2
    go_ret2
    exact ⟨Zs, Zd⟩
   rw [if_neg c5] at H
   have c5b0 : decide (1073741824 < (wrap64 (x4_1 + (x5_1 / 1073741824)))) = F := decide_eq_false c5
   clear c5
   by_cases c6 : (wrap64 (x4_1 + (x5_1 / 1073741824))) = 1073741824
   ·rw [if_pos c6] at H
    have c6b0 : ((wrap64 (x4_1 + (x5_1 / 1073741824))) == 1073741824) = T := beq_iff_eq.mpr c6
    have c6b1 : ((wrap64 (x4_1 + (x5_1 / 1073741824))) != 1073741824) = F := bne_eq_false_iff_eq.mpr c6
    clear c6
    by_cases c7 : (Go.bits .and .i64 x5_1 1073741823) > 0
    ·rw [if_pos c7] at H
     have c7b0 : decide (0 < (Go.bits .and .i64 x5_1 1073741823)) = T := decide_eq_true c7
     clear c7
     (try simp only [c7b0])
     simp only [Option.some.injEq, Prod.mk.injEq] at H
     obtain ⟨rfl, rfl⟩ := H
     go_wp2
     go_ret2
     exact ⟨Zs, Zd⟩
    rw [if_neg c7] at H
    have c7b0 : decide (0 < (Go.bits .and .i64 x5_1 1073741823)) = F := decide_eq_false c7
    clear c7
    (try simp only [c7b0])
    simp only [Option.some.injEq, Prod.mk.injEq] at H
    obtain ⟨rfl, rfl⟩ := H
    go_wp2
    go_ret2
    exact ⟨Zs, Zd⟩
   rw [if_neg c6] at H
   have c6b0 : ((wrap64 (x4_1 + (x5_1 / 1073741824))) == 1073741824) = F := beq_eq_false_iff_ne.mpr c6
   have c6b1 : ((wrap64 (x4_1 + (x5_1 / 1073741824))) != 1073741824) = T := bne_iff_ne.mpr c6
   simp only [Option.some.injEq, Prod.mk.injEq] at H
   obtain ⟨rfl, rfl⟩ := H
   go_wp2
   go_ret2
   exact ⟨Zs, Zd⟩
end Go.Proofs.Ytfcaaefdmabkhaa.Pr
