/- Functions' values and contracts, as the print wrote them. -/
import Derived.Test.YtgnmhfjfefgbfaaQ10EP0
import Derived.Test.YtgnmhfjfefgbfaaQ10EP4
namespace Go.Proofs.Ytgnmhfjfefgbfaa.Pr
open Bool renaming true → T
open Bool renaming false → F
open Go.RowKit Go.Proofs.YtgnmhfjfefgbfaaW.PrintWords Go.Proofs.YtgnmhfjfefgbfaaW.PrintLast Go.Proofs.YtgnmhfjfefgbfaaW.PrintMore
attribute [local go_sem] QaO QaQ QaU QaV QaK QaL QaP QaR   -- for this text's walks alone
set_option linter.unusedVariables false
set_option linter.unusedSimpArgs false
mutual
def Qak.j0 : Nat → List (S71) → Int → Bool → Option ((List (S67)) × Int)
 | 0, _, _, _ => none
 | k + 1, x0, x1, x24 => if x24 = T then (some (([] : List (S67)), 2)) else (if 0 ≤ x1 then (if (x1 : Int).toNat ≤ 11728124029610 then (Qak.l0 k (List.replicate (x1 : Int).toNat []) x0 (x0.length : Int) 0 x1 0) else (none)) else (none))
def Qak.l0 : Nat → List (List (S71)) → List (S71) → Int → Int → Int → Int → Option ((List (S67)) × Int)
 | 0, _, _, _, _, _, _ => none
 | k + 1, x8, x29, x30, x31, x618000, x619000 => if x31 < x30 then (if 0 ≤ x31 then (if x31 < (x29.length : Int) then (if 0 ≤ x618000 then (if (x618000 : Int).toNat ≤ 35184372088832 then ((some (List.replicate (x618000 : Int).toNat 0 : List Int)).bind fun y624 => (Qak.l2 k x8 x29 x30 x31 ((rd_T71 x29 x31).f1) y624 (y624.length : Int) 0 x618000 x619000 ((rd_T71 x29 x31).f0.f0) ((rd_T71 x29 x31).f0.f1) ((rd_T71 x29 x31).f0.f2) ((rd_T71 x29 x31).f0.f3) ((rd_T71 x29 x31).f1) ((rd_T71 x29 x31).f2))) else (none)) else (none)) else (none)) else (none)) else (if x8.length ≤ 1000000 then (some (someL x8 0, 0)) else (none))
def Qak.l2 : Nat → List (List (S71)) → List (S71) → Int → Int → Int → List Int → Int → Int → Int → Int → ByteArray → Int → Int → Int → Int → Int → Option ((List (S67)) × Int)
 | 0, _, _, _, _, _, _, _, _, _, _, _, _, _, _, _, _ => none
 | k + 1, x8, x29, x30, x31, x305, x310, x315, x316, x618000, x619000, x624000, x624001, x624002, x624003, x624004, x624005 => if x316 < x315 then (if x618000 = 0 then (none) else (if 0 ≤ x316 then (if x316 < (x310.length : Int) then (Qak.l2 k x8 x29 x30 x31 x305 (x310.set (x316 : Int).toNat (wrap64 (Int.tdiv x305 x618000))) x315 (wrap64 (x316 + 1)) x618000 x619000 x624000 x624001 x624002 x624003 x624004 x624005) else (none)) else (none))) else (if x618000 = 0 then (none) else (Qak.l3 k x8 x29 x30 x31 x310 (Int.tmod x305 x618000) 0 x618000 x619000 x624000 x624001 x624002 x624003 x624004 x624005))
def Qak.l3 : Nat → List (List (S71)) → List (S71) → Int → Int → List Int → Int → Int → Int → Int → ByteArray → Int → Int → Int → Int → Int → Option ((List (S67)) × Int)
 | 0, _, _, _, _, _, _, _, _, _, _, _, _, _, _, _ => none
 | k + 1, x8, x29, x30, x31, x310, x328, x329, x618000, x619000, x624000, x624001, x624002, x624003, x624004, x624005 => if x329 < x328 then (if 0 ≤ x619000 then (if x619000 < (x310.length : Int) then (if x618000 = 0 then (none) else (Qak.l3 k x8 x29 x30 x31 (x310.set (x619000 : Int).toNat (wrap64 ((rd x310 x619000) + 1))) x328 (wrap64 (x329 + 1)) x618000 (Int.tmod (wrap64 (x619000 + 1)) x618000) x624000 x624001 x624002 x624003 x624004 x624005)) else (none)) else (none)) else (if 0 ≤ x618000 then (if (x618000 : Int).toNat ≤ 35184372088832 then ((some (List.replicate (x618000 : Int).toNat 0 : List Int)).bind fun y630 => (Qak.l4 k x8 x310 x29 x30 x31 x624005 y630 (y630.length : Int) 0 x618000 x619000 x624000 x624001 x624002 x624003 x624004 x624005)) else (none)) else (none))
def Qak.l4 : Nat → List (List (S71)) → List Int → List (S71) → Int → Int → Int → List Int → Int → Int → Int → Int → ByteArray → Int → Int → Int → Int → Int → Option ((List (S67)) × Int)
 | 0, _, _, _, _, _, _, _, _, _, _, _, _, _, _, _, _, _ => none
 | k + 1, x8, x11, x29, x30, x31, x343, x348, x353, x354, x618000, x619000, x624000, x624001, x624002, x624003, x624004, x624005 => if x354 < x353 then (if x618000 = 0 then (none) else (if 0 ≤ x354 then (if x354 < (x348.length : Int) then (Qak.l4 k x8 x11 x29 x30 x31 x343 (x348.set (x354 : Int).toNat (wrap64 (Int.tdiv x343 x618000))) x353 (wrap64 (x354 + 1)) x618000 x619000 x624000 x624001 x624002 x624003 x624004 x624005) else (none)) else (none))) else (if x618000 = 0 then (none) else (Qak.l5 k x8 x11 x29 x30 x31 x348 (Int.tmod x343 x618000) 0 x618000 x619000 x624000 x624001 x624002 x624003 x624004 x624005))
def Qak.l5 : Nat → List (List (S71)) → List Int → List (S71) → Int → Int → List Int → Int → Int → Int → Int → ByteArray → Int → Int → Int → Int → Int → Option ((List (S67)) × Int)
 | 0, _, _, _, _, _, _, _, _, _, _, _, _, _, _, _, _ => none
 | k + 1, x8, x11, x29, x30, x31, x348, x366, x367, x618000, x619000, x624000, x624001, x624002, x624003, x624004, x624005 => if x367 < x366 then (if 0 ≤ x619000 then (if x619000 < (x348.length : Int) then (if x618000 = 0 then (none) else (Qak.l5 k x8 x11 x29 x30 x31 (x348.set (x619000 : Int).toNat (wrap64 ((rd x348 x619000) + 1))) x366 (wrap64 (x367 + 1)) x618000 (Int.tmod (wrap64 (x619000 + 1)) x618000) x624000 x624001 x624002 x624003 x624004 x624005)) else (none)) else (none)) else (Qak.l1 k x8 x11 x348 x29 x30 x31 (x8.length : Int) 0 x618000 x619000 x624000 x624001 x624002 x624003 x624004 x624005)
def Qak.l1 : Nat → List (List (S71)) → List Int → List Int → List (S71) → Int → Int → Int → Int → Int → Int → ByteArray → Int → Int → Int → Int → Int → Option ((List (S67)) × Int)
 | 0, _, _, _, _, _, _, _, _, _, _, _, _, _, _, _, _ => none
 | k + 1, x8, x11, x12, x29, x30, x31, x44, x45, x618000, x619000, x624000, x624001, x624002, x624003, x624004, x624005 => if x45 < x44 then (if 0 ≤ x45 then (if x45 < (x11.length : Int) then (if (rd x11 x45) > 0 then (if x45 < (x8.length : Int) then (if x45 < (x12.length : Int) then (if (rd_L7 x8 x45).length < 2513169434916 then (Qak.l1 k (x8.set (x45 : Int).toNat ((rd_L7 x8 x45) ++ [(⟨(⟨x624000, x624001, x624002, x624003⟩ : S69), rd x11 x45, rd x12 x45⟩ : S71)])) x11 x12 x29 x30 x31 x44 (wrap64 (x45 + 1)) x618000 x619000 x624000 x624001 x624002 x624003 x624004 x624005) else (none)) else (none)) else (none)) else (if x45 < (x12.length : Int) then (if (rd x12 x45) > 0 then (if x45 < (x8.length : Int) then (if (rd_L7 x8 x45).length < 2513169434916 then (Qak.l1 k (x8.set (x45 : Int).toNat ((rd_L7 x8 x45) ++ [(⟨(⟨x624000, x624001, x624002, x624003⟩ : S69), rd x11 x45, rd x12 x45⟩ : S71)])) x11 x12 x29 x30 x31 x44 (wrap64 (x45 + 1)) x618000 x619000 x624000 x624001 x624002 x624003 x624004 x624005) else (none)) else (none)) else (Qak.l1 k x8 x11 x12 x29 x30 x31 x44 (wrap64 (x45 + 1)) x618000 x619000 x624000 x624001 x624002 x624003 x624004 x624005)) else (none))) else (none)) else (none)) else (Qak.l0 k x8 x29 x30 (wrap64 (x31 + 1)) x618000 x619000)
end
def Qak.f (k : Nat) (l0 : List (S71)) (a1 : Int) : Option ((List (S67)) × Int) := (Qal.f k l0).bind fun t616 => (if t616 = 0 then (if a1 < 1 then (Qak.j0 k l0 a1 T) else (Qak.j0 k l0 a1 (decide (a1 > 1024)))) else (some (([] : List (S67)), t616)))
theorem Qak.mono_l : ∀ k, (∀ y0 y1 y2, LeO (Qak.j0 k y0 y1 y2) (Qak.j0 (k + 1) y0 y1 y2)) ∧ (∀ y0 y1 y2 y3 y4 y5, LeO (Qak.l0 k y0 y1 y2 y3 y4 y5) (Qak.l0 (k + 1) y0 y1 y2 y3 y4 y5)) ∧ (∀ y0 y1 y2 y3 y4 y5 y6 y7 y8 y9 y10 y11 y12 y13 y14 y15, LeO (Qak.l2 k y0 y1 y2 y3 y4 y5 y6 y7 y8 y9 y10 y11 y12 y13 y14 y15) (Qak.l2 (k + 1) y0 y1 y2 y3 y4 y5 y6 y7 y8 y9 y10 y11 y12 y13 y14 y15)) ∧ (∀ y0 y1 y2 y3 y4 y5 y6 y7 y8 y9 y10 y11 y12 y13 y14, LeO (Qak.l3 k y0 y1 y2 y3 y4 y5 y6 y7 y8 y9 y10 y11 y12 y13 y14) (Qak.l3 (k + 1) y0 y1 y2 y3 y4 y5 y6 y7 y8 y9 y10 y11 y12 y13 y14)) ∧ (∀ y0 y1 y2 y3 y4 y5 y6 y7 y8 y9 y10 y11 y12 y13 y14 y15 y16, LeO (Qak.l4 k y0 y1 y2 y3 y4 y5 y6 y7 y8 y9 y10 y11 y12 y13 y14 y15 y16) (Qak.l4 (k + 1) y0 y1 y2 y3 y4 y5 y6 y7 y8 y9 y10 y11 y12 y13 y14 y15 y16)) ∧ (∀ y0 y1 y2 y3 y4 y5 y6 y7 y8 y9 y10 y11 y12 y13 y14 y15, LeO (Qak.l5 k y0 y1 y2 y3 y4 y5 y6 y7 y8 y9 y10 y11 y12 y13 y14 y15) (Qak.l5 (k + 1) y0 y1 y2 y3 y4 y5 y6 y7 y8 y9 y10 y11 y12 y13 y14 y15)) ∧ (∀ y0 y1 y2 y3 y4 y5 y6 y7 y8 y9 y10 y11 y12 y13 y14 y15, LeO (Qak.l1 k y0 y1 y2 y3 y4 y5 y6 y7 y8 y9 y10 y11 y12 y13 y14 y15) (Qak.l1 (k + 1) y0 y1 y2 y3 y4 y5 y6 y7 y8 y9 y10 y11 y12 y13 y14 y15))
 | 0 => ⟨fun _ _ _ r h => by simp [Qak.j0] at h, fun _ _ _ _ _ _ r h => by simp [Qak.l0] at h, fun _ _ _ _ _ _ _ _ _ _ _ _ _ _ _ _ r h => by simp [Qak.l2] at h, fun _ _ _ _ _ _ _ _ _ _ _ _ _ _ _ r h => by simp [Qak.l3] at h, fun _ _ _ _ _ _ _ _ _ _ _ _ _ _ _ _ _ r h => by simp [Qak.l4] at h, fun _ _ _ _ _ _ _ _ _ _ _ _ _ _ _ _ r h => by simp [Qak.l5] at h, fun _ _ _ _ _ _ _ _ _ _ _ _ _ _ _ _ r h => by simp [Qak.l1] at h⟩
 | k + 1 => by
  obtain ⟨ih0, ih1, ih2, ih3, ih4, ih5, ih6⟩ := Qak.mono_l k
  refine ⟨?_, ?_, ?_, ?_, ?_, ?_, ?_⟩
  ·intro y0 y1 y2
   unfold Qak.j0
   exact ZM8 ih0 ih1 ih2 ih3 ih4 ih5 ih6 Qal.mono
  ·intro y0 y1 y2 y3 y4 y5
   unfold Qak.l0
   exact ZM8 ih0 ih1 ih2 ih3 ih4 ih5 ih6 Qal.mono
  ·intro y0 y1 y2 y3 y4 y5 y6 y7 y8 y9 y10 y11 y12 y13 y14 y15
   unfold Qak.l2
   exact ZM8 ih0 ih1 ih2 ih3 ih4 ih5 ih6 Qal.mono
  ·intro y0 y1 y2 y3 y4 y5 y6 y7 y8 y9 y10 y11 y12 y13 y14
   unfold Qak.l3
   exact ZM8 ih0 ih1 ih2 ih3 ih4 ih5 ih6 Qal.mono
  ·intro y0 y1 y2 y3 y4 y5 y6 y7 y8 y9 y10 y11 y12 y13 y14 y15 y16
   unfold Qak.l4
   exact ZM8 ih0 ih1 ih2 ih3 ih4 ih5 ih6 Qal.mono
  ·intro y0 y1 y2 y3 y4 y5 y6 y7 y8 y9 y10 y11 y12 y13 y14 y15
   unfold Qak.l5
   exact ZM8 ih0 ih1 ih2 ih3 ih4 ih5 ih6 Qal.mono
  intro y0 y1 y2 y3 y4 y5 y6 y7 y8 y9 y10 y11 y12 y13 y14 y15
  unfold Qak.l1
  exact ZM8 ih0 ih1 ih2 ih3 ih4 ih5 ih6 Qal.mono
theorem Qak.mono : ∀ a0 a1 k, LeO (Qak.f k a0 a1) (Qak.f (k + 1) a0 a1) := by
 intro a0 a1 k
 obtain ⟨ih0, ih1, ih2, ih3, ih4, ih5, ih6⟩ := Qak.mono_l k
 unfold Qak.f
 exact ZM8 ih0 ih1 ih2 ih3 ih4 ih5 ih6 Qal.mono
def Qak.T17 : Bool × List (List Nat × List Nat) := (T, [([], []), ([], []), ([], []), ([], []), ([2, 3], [2, 3]), ([4], [4]), ([], []), ([6], [6]), ([], []), ([], []), ([8, 9], [8, 9]), ([10], [10]), ([], []), ([], []), ([12, 13], [12, 13]), ([14], [14]), ([7, 11, 15], [7, 11, 15]), ([16], [16]), ([5, 17], [5, 17]), ([0, 1, 0, 1, 2, 3, 4, 5, 6, 7, 8, 9, 10, 11, 12, 13, 14, 15, 16, 17, 18], [0, 1]), ([19, 18, 18, 0, 1, 2, 3, 4, 5, 6, 7, 8, 9, 10, 11, 12, 13, 14, 15, 16, 17, 18], [18, 19])])
def Qak.B17 : List Nat := [0, 0, 0, 0, 12, 28, 0, 64, 0, 0, 768, 1792, 0, 0, 12288, 28672, 65472, 131008, 262140, 524287, 1048575]
theorem Qak.tab17 : rtab .any (opsOf Try.f26 17) = Qak.T17 := by kernel_rfl
theorem Qak.bits17 : Qbg Qak.T17.2 Qak.B17 = T := by kernel_rfl
theorem QcY {a0 a1 a2 a3 a4 d : Value} {l : List Value} : (List.toArray (a0 :: a1 :: a2 :: a3 :: a4 :: l)).getD 4 d = a4 := rfl
set_option maxHeartbeats 8000000 in
set_option maxRecDepth 100000 in
theorem Qak.calls (k : Nat) (A0 : Option Addr) (c0 : Nat) (l0 : List (S71)) (a1 : Int) (r1 : List (S67)) (r2 : Int) (w : World) (hr0 : Kd.C k71 w A0 l0.length l0) (hc0 : l0.length ≤ c0) (h : Qak.f k l0 a1 = some (r1, r2)) :
  Calls Try.prog 26 #[.slice A0 l0.length c0, .int .i64 a1] w fun e w' => ∃ v0_ : Value, e = .returned (.tuple #[v0_, .int .i64 r2]) ∧ Kd.S k67 67 w' w.heap.size (fun _ => True) v0_ r1 ∧ Below w.heap.size w w' := by
 have hu71 := Try.underlying71
 have hu69 := Try.underlying69
 have HR0 := Aside0.mk hr0
 have HC0 := Aside0.mk hc0
 clear hr0 hc0
 have HB := Aside0.mk (Below.refl w.heap.size w)
 have H : ((Qal.f k l0).bind fun t616 => (if t616 = 0 then (if a1 < 1 then (Qak.j0 k l0 a1 T) else (Qak.j0 k l0 a1 (decide (a1 > 1024)))) else (some (([] : List (S67)), t616)))) = some (r1, r2) := h
 clear h
 replace H := Option.bind_eq_some_iff.mp H
 obtain ⟨t616, A30, H⟩ := H
 replace H : (if t616 = 0 then (if a1 < 1 then (Qak.j0 k l0 a1 T) else (Qak.j0 k l0 a1 (decide (a1 > 1024)))) else (some (([] : List (S67)), t616))) = some (r1, r2) := H
 have A3 := Aside0.mk A30
 clear A30
 go_enter Try.func26, Try.ntmps26
 go_upto_if 17 with (first | ((with_reducible refine QaF (f := 9) rfl ?_); refine goesL_ (some 15) rfl rfl Try.func9 (by kernel_rfl) rfl #[.slice A0 l0.length c0] rfl (Zl) ?_; (with_reducible refine (Qal.calls k _ _ l0 t616 _ ?side1 ?side2 A3.out).mono ?_); (case side1 => exact Zv HR0.out); (case side2 => exact HC0.out); rintro e w4 ⟨rfl, hb⟩; refine ⟨_, rfl, ?_⟩; replace HB := Aside0.mk (Qav (Zb) hb); (try clear hb); (try clear hb2); (try clear hk); (try clear hi)))
 (try simp only [Act.put, Zj, Zk, Zm])
 by_cases c5 : t616 = 0
 ·rw [if_pos c5] at H
  have c5b0 : (t616 == 0) = T := beq_iff_eq.mpr c5
  have c5b1 : (t616 != 0) = F := bne_eq_false_iff_eq.mpr c5
  clear c5
  (try simp only [c5b0, c5b1])
  have HC6 := Aside0.mk H
  clear H
  go_upto_region 4 with (fail)
  go_cut [24] (fun v24 wc => ∃ (kq : Nat) (x24_5 : Bool), v24 = .bool x24_5 ∧ Aside0 (Qak.j0 kq l0 a1 x24_5 = some (r1, r2)) ∧ Aside0 (kq ≤ k) ∧ Aside0 (Below w.heap.size w wc))
  case first =>
   have H := HC6.out
   clear HC6
   by_cases c7 : a1 < 1
   ·rw [if_pos c7] at H
    have c7b0 : decide (a1 < 1) = T := decide_eq_true c7
    clear c7
    have H' := Aside0.mk H
    clear H
    go_wp2
    go_meet
    case rel => exact ⟨_, (T), (Zs), H', ⟨by first | omega | exact Nat.le_refl _⟩, ⟨Zb⟩⟩
   rw [if_neg c7] at H
   have c7b0 : decide (a1 < 1) = F := decide_eq_false c7
   clear c7
   have H' := Aside0.mk H
   clear H
   go_wp2
   go_meet
   case rel => exact ⟨_, (decide (a1 > 1024)), (Zs), H', ⟨by first | omega | exact Nat.le_refl _⟩, ⟨Zb⟩⟩
  case rest =>
   clear HC6
   try clear c2
   try clear p2
   try clear c5
   try clear c5b0
   try clear c5b1
   try clear c7
   try clear c7b0
   obtain ⟨kq, x24_5, rfl, HA, HJ5, HB⟩ := hcut
   cases kq with
   | zero => exact absurd HA.out (by simp [Qak.j0])
   | succ kj5 =>
    have H := HA.out
    clear HA
    simp only [Qak.j0] at H
    by_cases c8 : x24_5 = T
    ·subst c8
     have H1 : (some (([] : List (S67)), 2)) = some (r1, r2) := by rw [if_pos rfl] at H; exact H
     clear H
     have H := H1
     clear H1
     simp only [Option.some.injEq, Prod.mk.injEq] at H
     obtain ⟨rfl, rfl⟩ := H
     go_wp2
     go_ret2
     exact ⟨_, Zq, by first | exact Kd.S_nil _ _ _ _ _ | exact Kd.N_nil _ _ _ _ _ | exact Kd.V_nil _ _ _ _ _ | exact Kd.Q_nil _ _ _ _ _ | exact Kd.R_nil _ _ _ _ _, Zb⟩
    replace c8 := Bool.eq_false_iff.mpr c8
    subst c8
    have H1 : (if 0 ≤ a1 then (if (a1 : Int).toNat ≤ 11728124029610 then (Qak.l0 kj5 (List.replicate (a1 : Int).toNat []) l0 (l0.length : Int) 0 a1 0) else (none)) else (none)) = some (r1, r2) := by rw [if_neg (show ¬ (F = T) by decide)] at H; exact H
    clear H
    have H := H1
    clear H1
    go_upto_region 7 with (first | (go_at_call 73; go_in) | ((with_reducible refine QaX (N := 1) rfl ?_); (refine gate_n (n := 5) rfl ?_); refine Zbx (N := 1) (cs := #[.int .i64 a1]) (t := 3) ?_; intro gb617 hg w9 hbox hb; have BK617 := Aside0.mk (hbox); have GW617 := Aside0.mk (Zt w hg (Zb)); have GE617 := GW617; replace HB := Aside0.mk (Qav (Zb) hb); clear hb hbox hg) | ((with_reducible refine QaX (N := 3) rfl ?_); (refine gate_n (n := 5) rfl ?_); refine Zbx (N := 3) (cs := #[.int .i64 0]) (t := 3) ?_; intro gb618 hg w10 hbox hb; have BK618 := Aside0.mk (hbox); have GW618 := Aside0.mk (Zt w hg (Zc1 GE617.out)); have GE618 := GW618; have NB617_618 := Aside0.mk (Zn hg BK617.out); have NB618_617 := Aside0.mk NB617_618.out.symm; replace BK617 := Aside0.mk (Zi BK617.out hb); replace HB := Aside0.mk (Qav (Zc1 GE617.out) hb); clear hb hbox hg; have hnb11 := NB618_617.out; have hnc11 := NB617_618.out; obtain ⟨hcz12_0, hfz12_0⟩ := Zy (v := (.int .i64 0)) BK618.out 0))
    (try simp only [Act.put, Zj, Zk, Zm])
    by_cases c13 : 0 ≤ a1
    ·rw [if_pos c13] at H
     have c13b0 := eq_true c13
     have c13b1 : decide (0 ≤ a1) = T := decide_eq_true c13
     clear c13
     by_cases c14 : (a1 : Int).toNat ≤ 11728124029610
     ·rw [if_pos c14] at H
      have c14b0 := eq_true c14
      have c14b1 : decide ((a1 : Int).toNat ≤ 11728124029610) = T := decide_eq_true c14
      clear c14
      obtain ⟨y619, hy619⟩ : ∃ y_ : List (List (S71)), y_ = (List.replicate (a1 : Int).toNat []) := ⟨_, rfl⟩
      replace H : (Qak.l0 kj5 y619 l0 (l0.length : Int) 0 a1 0) = some (r1, r2) := by first | (rw [hy619]; with_reducible exact H) | (have H2_ := (Option.bind_some _ _).symm.trans H; rw [hy619]; with_reducible exact H2_) | (have H2_ := (Option.bind_some _ _).symm.trans H; with_reducible exact H2_) | with_reducible exact H | (rw [hy619]; exact H) | exact H
      have Ny619 := Aside0.mk hy619
      clear hy619
      have H' := Aside0.mk H
      clear H
      go_wp2_with (first | ((with_reducible refine QaX (N := 28) rfl ?_); (refine gate_n (n := 85) rfl ?_); refine Kd.S_make (Kd.slice 71 k71) _ 22 rfl (N := 28) rfl 44 _ _ rfl a1 rfl rfl Try.underlying44 (.slice none 0 0) 24 info22 rfl (by decide) (by omega) [] (ok := fun _ => True) (okp := fun _ => True) ⟨_, rfl, Kd.R_nil _ _ _ _ _⟩ (fun _ hk => hk) trivial (Ze) (Nat.le_trans (Nat.mul_le_mul_right _ (Ze : a1.toNat ≤ 11728124029610)) (by omega)) (Below.refl _ _) (Nat.le_refl _) ?_; intro v620 w15 ho16 hb hg_ hnew_; clear hg_ hnew_; (first | rw [← Ny619.out] at ho16 | (simp only [Int.reduceToNat] at ho16; rw [← Ny619.out] at ho16)); have HO621 := Aside0.mk (Kd.S_lower ho16 (Qau (Zc2 GE617.out GE618.out))); replace BK617 := Aside0.mk (Qa5 (g := gb617) (o := .cells #[.int .i64 a1] 3 (0, 0)) (Zg1 BK617.out NB617_618.out) hb); replace BK618 := Aside0.mk (Zpi #[.int .i64 0] BK618.out hb); replace HB := Aside0.mk (Qav (Zc2 GE617.out GE618.out) hb); clear hb ho16))
      go_loopg [31] kj5 (fun kq v31 w' => ∃ (x8_2 : List (List (S71))) (x31_2 : Int) (x619000_2 : Int), v31 = .int .i64 x31_2 ∧ Aside0 (Qak.l0 kq x8_2 l0 (l0.length : Int) x31_2 a1 x619000_2 = some (r1, r2)) ∧ Aside0 (kq ≤ kj5) ∧ Aside0 (Kd.S (Kd.slice 71 k71) 22 w' w.heap.size (fun _ => True) v620 x8_2) ∧ Aside0 (w'.heap[gb617]? = some (.cells #[.int .i64 a1] 3 (0, 0))) ∧ Aside0 (w'.heap[gb618]? = some (.cells #[.int .i64 x619000_2] 3 (0, 0))) ∧ Aside0 (Below w.heap.size w w'))
      case atStart => exact ⟨(y619), (0), (0), (Zs), H', ⟨Nat.le_refl _⟩, ⟨by (with_reducible repeat (first | apply Kd.S_alloc | apply Kd.S_drewN | apply Kd.S_drew)); exact HO621.out⟩, ⟨Zu BK617.out⟩, ⟨Zu BK618.out⟩, ⟨Zc2 GE617.out GE618.out⟩⟩
      case round =>
       clear H'
       try clear c1
       try clear c2
       try clear p2
       try clear c5
       try clear c5b0
       try clear c5b1
       try clear c7
       try clear c7b0
       try clear c8
       try clear c9
       try clear c11
       try clear c13
       try clear c13b0
       try clear c13b1
       try clear c14
       try clear c14b0
       try clear c14b1
       try clear hcz12_0
       try clear hfz12_0
       try clear p2
       obtain ⟨x8_2, x31_2, x619000_2, rfl, HA, HK2, HO_8, BK617, BK618, HB⟩ := hrel
       cases gk with
       | zero => exact absurd HA.out (by simp [Qak.l0])
       | succ k2 =>
        have H := HA.out
        clear HA
        simp only [Qak.l0] at H
        by_cases c17 : x31_2 < (l0.length : Int)
        ·rw [if_pos c17] at H
         have c17b0 : decide (x31_2 < (l0.length : Int)) = T := decide_eq_true c17
         clear c17
         (try simp only [c17b0])
         by_cases c18 : 0 ≤ x31_2
         ·rw [if_pos c18] at H
          have c18b0 : decide (0 ≤ x31_2) = T := decide_eq_true c18
          clear c18
          by_cases c19 : x31_2 < (l0.length : Int)
          ·rw [if_pos c19] at H
           have c19b0 : decide (x31_2 < (l0.length : Int)) = T := decide_eq_true c19
           clear c19
           by_cases c20 : 0 ≤ a1
           ·rw [if_pos c20] at H
            have c20b0 := eq_true c20
            have c20b1 : decide (0 ≤ a1) = T := decide_eq_true c20
            clear c20
            by_cases c21 : (a1 : Int).toNat ≤ 35184372088832
            ·rw [if_pos c21] at H
             have c21b0 := eq_true c21
             have c21b1 : decide ((a1 : Int).toNat ≤ 35184372088832) = T := decide_eq_true c21
             clear c21
             obtain ⟨y624, hy624⟩ : ∃ y_ : List Int, y_ = (List.replicate (a1 : Int).toNat 0) := ⟨_, rfl⟩
             replace H : (Qak.l2 k2 x8_2 l0 (l0.length : Int) x31_2 ((rd_T71 l0 x31_2).f1) y624 (y624.length : Int) 0 a1 x619000_2 ((rd_T71 l0 x31_2).f0.f0) ((rd_T71 l0 x31_2).f0.f1) ((rd_T71 l0 x31_2).f0.f2) ((rd_T71 l0 x31_2).f0.f3) ((rd_T71 l0 x31_2).f1) ((rd_T71 l0 x31_2).f2)) = some (r1, r2) := by first | (rw [hy624]; with_reducible exact H) | (have H2_ := (Option.bind_some _ _).symm.trans H; rw [hy624]; with_reducible exact H2_) | (have H2_ := (Option.bind_some _ _).symm.trans H; with_reducible exact H2_) | with_reducible exact H | (rw [hy624]; exact H) | exact H
             have Ny624 := Aside0.mk hy624
             clear hy624
             have H' := Aside0.mk H
             clear H
             have p622 : 0 ≤ (x31_2 : Int) := Ze
             have q622 : x31_2 < (l0.length : Int) := Ze
             obtain ⟨ad622, e622, hx622_0, hx622_1, hx622_2, hx622_3, hx622_4, hx622_5⟩ := at_T71 HR0.out x31_2 p622 q622
             cases e622
             replace hx622_0 := Zx HB.out hx622_0
             replace hx622_1 := Zx HB.out hx622_1
             replace hx622_2 := Zx HB.out hx622_2
             replace hx622_3 := Zx HB.out hx622_3
             replace hx622_4 := Zx HB.out hx622_4
             replace hx622_5 := Zx HB.out hx622_5
             replace p622 := eq_true p622
             replace q622 := eq_true q622
             go_wp2_with (first | ((with_reducible refine QaX (N := 10) rfl ?_); (refine gate_n (n := 85) rfl ?_); refine Zbx (N := 10) (cs := #[.string (⟨#[]⟩ : ByteArray), .int .i64 0, .int .i64 0, .int .i64 0, .int .i64 0, .int .i64 0]) (t := 71) ?_; intro gb623 hg w22 hbox hb; have BK623 := Aside0.mk (hbox); have GW623 := Aside0.mk (Zt w hg (Zc2 GE617.out GE618.out)); have GE623 := GW623; have NB617_623 := Aside0.mk (Zn hg BK617.out); have NB623_617 := Aside0.mk NB617_623.out.symm; have NB618_623 := Aside0.mk (Zn hg BK618.out); have NB623_618 := Aside0.mk NB618_623.out.symm; replace HO_8 := Aside0.mk (Kd.S_below (Kd.S_elderB (by (with_reducible repeat (first | apply Kd.S_alloc | apply Kd.S_drewN | apply Kd.S_drew)); exact HO_8.out) gb623 (Nat.le_of_eq hg.symm)) hb); replace BK617 := Aside0.mk (Zi BK617.out hb); replace BK618 := Aside0.mk (Zi BK618.out hb); replace HB := Aside0.mk (Qav (Zc2 GE617.out GE618.out) hb); clear hb hbox hg; have hnb23 := NB623_617.out; have hnc23 := NB617_623.out; have hnb24 := NB623_618.out; have hnc24 := NB618_623.out; obtain ⟨hcz25_0, hfz25_0⟩ := Zy (v := (.string (⟨#[]⟩ : ByteArray))) BK623.out 0; obtain ⟨hcz25_1, hfz25_1⟩ := Zy (v := (.int .i64 0)) BK623.out 1; obtain ⟨hcz25_2, hfz25_2⟩ := Zy (v := (.int .i64 0)) BK623.out 2; obtain ⟨hcz25_3, hfz25_3⟩ := Zy (v := (.int .i64 0)) BK623.out 3; obtain ⟨hcz25_4, hfz25_4⟩ := Zy (v := (.int .i64 0)) BK623.out 4; obtain ⟨hcz25_5, hfz25_5⟩ := Zy (v := (.int .i64 0)) BK623.out 5; have hnb26 := NB617_618.out; have hnc26 := NB618_617.out; obtain ⟨hcz27_0, hfz27_0⟩ := Zy (v := (.int .i64 a1)) BK617.out 0) | (go_at_call 153; go_in) | ((with_reducible refine QaX (N := 8) rfl ?_); (refine gate_n (n := 38) rfl ?_); refine Kd.R_make (Kd.int .i64) _ 3 rfl (N := 8) rfl 32 _ _ rfl a1 rfl rfl Try.underlying32 (.int .i64 0) 8 info3 rfl (by decide) (by omega) 0 (ok := fun _ => True) (okp := fun _ => True) rfl (fun _ hk => hk) trivial (Ze) (Nat.le_trans (Nat.mul_le_mul_right _ (Ze : a1.toNat ≤ 35184372088832)) (by omega)) (Below.refl _ _) (Nat.le_refl _) ?_; intro v625 w28 ho29 hb hg_ hnew_; clear hg_ hnew_; (first | rw [← Ny624.out] at ho29 | (simp only [Int.reduceToNat] at ho29; rw [← Ny624.out] at ho29)); have HO626 := Aside0.mk (Kd.R_lower (Kd.R_newB (Kd.R_newB ho29 (g := gb617) (o := .cells #[.int .i64 a1] 3 (0, 0)) (Zg6 BK617.out NB617_623.out NB617_623.out NB617_623.out NB617_623.out NB617_623.out NB617_623.out)) (g := gb618) (o := .cells #[.int .i64 x619000_2] 3 (0, 0)) (Zg6 BK618.out NB618_623.out NB618_623.out NB618_623.out NB618_623.out NB618_623.out NB618_623.out)) (Qau (Zc3 GE617.out GE618.out GE623.out))); replace HO_8 := Aside0.mk (Kd.S_below (by (with_reducible repeat (first | apply Kd.S_alloc | apply Kd.S_drewN | apply Kd.S_drew)); exact (Kd.S_mono (Kd.S_far (p := ⟨gb623, 5, none⟩) (Kd.S_far (p := ⟨gb623, 4, none⟩) (Kd.S_far (p := ⟨gb623, 3, none⟩) (Kd.S_far (p := ⟨gb623, 2, none⟩) (Kd.S_far (p := ⟨gb623, 1, none⟩) (Kd.S_far (p := ⟨gb623, 0, none⟩) (Kd.S_mono HO_8.out (fun k_ hk => (⟨hk, hk.2⟩ : _ ∧ k_ ≠ gb623))) (fun _ hk => hk.2) (.string ((rd_T71 l0 x31_2).f0.f0))) (fun _ hk => hk.2) (.int .i64 ((rd_T71 l0 x31_2).f0.f1))) (fun _ hk => hk.2) (.int .i64 ((rd_T71 l0 x31_2).f0.f2))) (fun _ hk => hk.2) (.int .i64 ((rd_T71 l0 x31_2).f0.f3))) (fun _ hk => hk.2) (.int .i64 ((rd_T71 l0 x31_2).f1))) (fun _ hk => hk.2) (.int .i64 ((rd_T71 l0 x31_2).f2))) (fun _ h_ => h_.1))) hb); replace BK617 := Aside0.mk (Qa5 (g := gb617) (o := .cells #[.int .i64 a1] 3 (0, 0)) (Zg6 BK617.out NB617_623.out NB617_623.out NB617_623.out NB617_623.out NB617_623.out NB617_623.out) hb); replace BK618 := Aside0.mk (Qa5 (g := gb618) (o := .cells #[.int .i64 x619000_2] 3 (0, 0)) (Zg6 BK618.out NB618_623.out NB618_623.out NB618_623.out NB618_623.out NB618_623.out NB618_623.out) hb); replace BK623 := Aside0.mk (Zpi #[.string ((rd_T71 l0 x31_2).f0.f0), .int .i64 ((rd_T71 l0 x31_2).f0.f1), .int .i64 ((rd_T71 l0 x31_2).f0.f2), .int .i64 ((rd_T71 l0 x31_2).f0.f3), .int .i64 ((rd_T71 l0 x31_2).f1), .int .i64 ((rd_T71 l0 x31_2).f2)] BK623.out hb); replace HB := Aside0.mk (Qav (Zc3 GE617.out GE618.out GE623.out) hb); clear hb ho29; obtain ⟨Ao30, co30, eo30⟩ := Kd.R_slice HO626.out; subst eo30))
             go_loopg [11] k2 (fun kq v316 w' => ∃ (x310_3 : List Int) (x316_3 : Int), v316 = .int .i64 x316_3 ∧ Aside0 (Qak.l2 kq x8_2 l0 (l0.length : Int) x31_2 ((rd_T71 l0 x31_2).f1) x310_3 (y624.length : Int) x316_3 a1 x619000_2 ((rd_T71 l0 x31_2).f0.f0) ((rd_T71 l0 x31_2).f0.f1) ((rd_T71 l0 x31_2).f0.f2) ((rd_T71 l0 x31_2).f0.f3) ((rd_T71 l0 x31_2).f1) ((rd_T71 l0 x31_2).f2) = some (r1, r2)) ∧ Aside0 (kq ≤ k2) ∧ Aside0 (Kd.S (Kd.slice 71 k71) 22 w' w.heap.size (fun k_ => k_ ≠ gb623) v620 x8_2) ∧ Aside0 (Kd.R (Kd.int .i64) 3 w' w.heap.size (fun k_ => k_ ≠ gb617 ∧ k_ ≠ gb618) (.slice Ao30 y624.length co30) x310_3) ∧ Aside0 (w'.heap[gb617]? = some (.cells #[.int .i64 a1] 3 (0, 0))) ∧ Aside0 (w'.heap[gb618]? = some (.cells #[.int .i64 x619000_2] 3 (0, 0))) ∧ Aside0 (w'.heap[gb623]? = some (.cells #[.string ((rd_T71 l0 x31_2).f0.f0), .int .i64 ((rd_T71 l0 x31_2).f0.f1), .int .i64 ((rd_T71 l0 x31_2).f0.f2), .int .i64 ((rd_T71 l0 x31_2).f0.f3), .int .i64 ((rd_T71 l0 x31_2).f1), .int .i64 ((rd_T71 l0 x31_2).f2)] 71 (0, 0))) ∧ Aside0 (Below w.heap.size w w'))
             case atStart => exact ⟨(y624), (0), (Zs), H', ⟨Nat.le_refl _⟩, ⟨by (with_reducible repeat (first | apply Kd.S_alloc | apply Kd.S_drewN | apply Kd.S_drew)); exact Kd.S_mono HO_8.out (fun _ hk => hk.2)⟩, ⟨by (with_reducible repeat (first | apply Kd.R_alloc | apply Kd.R_drewN | apply Kd.R_drew)); exact Kd.R_mono HO626.out (fun _ hk => ⟨hk.1.2, hk.2⟩)⟩, ⟨Zu BK617.out⟩, ⟨Zu BK618.out⟩, ⟨Zu BK623.out⟩, ⟨Zc3 GE617.out GE618.out GE623.out⟩⟩
             case round =>
              clear H'
              try clear c1
              try clear c2
              try clear p2
              try clear c5
              try clear c5b0
              try clear c5b1
              try clear p6
              try clear q6
              try clear hx6
              try clear c7
              try clear c7b0
              try clear c8
              try clear c9
              try clear c11
              try clear c13
              try clear c13b0
              try clear c13b1
              try clear c14
              try clear c14b0
              try clear c14b1
              try clear c17
              try clear c17b0
              try clear c18
              try clear c18b0
              try clear c19
              try clear c19b0
              try clear c20
              try clear c20b0
              try clear c20b1
              try clear c21
              try clear c21b0
              try clear c21b1
              try clear c23
              try clear c24
              try clear c26
              try clear hcz12_0
              try clear hcz25_0
              try clear hcz25_1
              try clear hcz25_2
              try clear hcz25_3
              try clear hcz25_4
              try clear hcz25_5
              try clear hcz27_0
              try clear hfz12_0
              try clear hfz25_0
              try clear hfz25_1
              try clear hfz25_2
              try clear hfz25_3
              try clear hfz25_4
              try clear hfz25_5
              try clear hfz27_0
              try clear hx622_0
              try clear hx622_1
              try clear hx622_2
              try clear hx622_3
              try clear hx622_4
              try clear hx622_5
              try clear p2
              try clear p622
              try clear q622
              obtain ⟨x310_3, x316_3, rfl, HA, HK3, HO_8, HO_310, BK617, BK618, BK623, HB⟩ := hrel
              have hl310_3 := (Kd.R_reads' HO_310.out).1
              rw [hl310_3] at HO_310
              (try simp only [hl310_3])
              (try simp only [hl310_3] at BK617)
              (try simp only [hl310_3] at BK618)
              (try simp only [hl310_3] at BK623)
              (try simp only [hl310_3] at HO_8)
              cases gk with
              | zero => exact absurd HA.out (by simp [Qak.l2])
              | succ k3 =>
               have H := HA.out
               clear HA
               simp only [Qak.l2] at H
               by_cases c31 : x316_3 < (y624.length : Int)
               ·rw [if_pos c31] at H
                have c31b0 : decide (x316_3 < (y624.length : Int)) = T := decide_eq_true c31
                clear c31
                (try simp only [c31b0])
                by_cases c32 : a1 = 0
                ·rw [if_pos c32] at H
                 exact absurd H (by simp)
                rw [if_neg c32] at H
                have c32b0 : (a1 == 0) = F := beq_eq_false_iff_ne.mpr c32
                have c32b1 : (a1 != 0) = T := bne_iff_ne.mpr c32
                by_cases c33 : 0 ≤ x316_3
                ·rw [if_pos c33] at H
                 have c33b0 : decide (0 ≤ x316_3) = T := decide_eq_true c33
                 clear c33
                 by_cases c34 : x316_3 < (x310_3.length : Int)
                 ·rw [if_pos c34] at H
                  have c34b0 : decide (x316_3 < (x310_3.length : Int)) = T := decide_eq_true c34
                  clear c34
                  obtain ⟨y627, hy627⟩ : ∃ y_ : List Int, y_ = (x310_3.set (x316_3 : Int).toNat (wrap64 (Int.tdiv ((rd_T71 l0 x31_2).f1) a1))) := ⟨_, rfl⟩
                  replace H : (Qak.l2 k3 x8_2 l0 (l0.length : Int) x31_2 ((rd_T71 l0 x31_2).f1) y627 (y624.length : Int) (wrap64 (x316_3 + 1)) a1 x619000_2 ((rd_T71 l0 x31_2).f0.f0) ((rd_T71 l0 x31_2).f0.f1) ((rd_T71 l0 x31_2).f0.f2) ((rd_T71 l0 x31_2).f0.f3) ((rd_T71 l0 x31_2).f1) ((rd_T71 l0 x31_2).f2)) = some (r1, r2) := by first | (rw [hy627]; with_reducible exact H) | (have H2_ := (Option.bind_some _ _).symm.trans H; rw [hy627]; with_reducible exact H2_) | (have H2_ := (Option.bind_some _ _).symm.trans H; with_reducible exact H2_) | with_reducible exact H | (rw [hy627]; exact H) | exact H
                  have Ny627 := Aside0.mk hy627
                  clear hy627
                  have H' := Aside0.mk H
                  clear H
                  have hnb36 := NB617_618.out
                  have hnc36 := NB618_617.out
                  have hnb37 := NB617_623.out
                  have hnc37 := NB623_617.out
                  obtain ⟨hcz38_0, hfz38_0⟩ := Zy (v := (.int .i64 a1)) BK617.out 0
                  have p35 : 0 ≤ (x316_3 : Int) := Ze
                  have q35 : (x316_3 : Int) < ((x310_3.length : Int) : Int) := Ze
                  obtain ⟨go35, co35, eo35, gb35, gl35, cl35, HG35⟩ := Kd.R_form HO_310.out (by omega)
                  (first | cases eo35 | (injection eo35 with ea_ en_ ec_; (first | subst ea_ | (injection ea_ with ea_; subst ea_)); subst ec_; clear en_))
                  have GB35 := Aside0.mk gb35
                  have GG35 := Aside0.mk HG35
                  clear gb35 gl35 HG35
                  obtain ⟨hx35_0, hf35_0⟩ := Kd.R_celln 0 HO_310.out (x316_3 : Int) p35 q35
                  replace p35 := eq_true p35
                  replace q35 := eq_true q35
                  have HP39 := Kd.R_putg HO_310.out (x316_3 : Int) (wrap64 (Int.tdiv ((rd_T71 l0 x31_2).f1) a1))
                  go_wp2_with (first | ((with_reducible refine Qba (t := 3) (p := 19) rfl ?_); (refine gate_n (n := 38) rfl ?_); refine Qa6 (t := 3) (p := 19) (v := ?vo_w40) (w1 := (wr.setCell ⟨go35, (x316_3 : Int).toNat, none⟩ (.int .i64 (wrap64 (Int.tdiv ((rd_T71 l0 x31_2).f1) a1))))) ?hg ?ho ?hn ?hr ?_; (case ho => rfl); (case hg => rfl); (case hn => rfl); (case hr => first | (go_simp; done) | (go_simp; rfl)); intro w40 hw; have hg : wr.grownBy w40 (some go35) := (by rw [hw]; exact HP39.2); have hp_ : Kd.R (Kd.int .i64) 3 w40 w.heap.size (fun k_ => k_ ≠ gb617 ∧ k_ ≠ gb618) (.slice (some ⟨go35, 0, none⟩) x310_3.length co30) y627 := (by rw [hw, Ny627.out]; exact HP39.1); clear HP39; replace HO_8 := Aside0.mk (Kd.S_over' (v := (.slice (some ⟨go35, 0, none⟩) x310_3.length co30)) (by (with_reducible repeat (first | apply Kd.S_alloc | apply Kd.S_drewN | apply Kd.S_drew)); exact HO_8.out) (Kd.R_typed HO_310.out) (by decide) hg); replace BK617 := Aside0.mk (QaN (g := gb617) (o := .cells #[.int .i64 a1] 3 (0, 0)) (Zu BK617.out) hg (Kd.R_away HO_310.out (fun _ hk => hk.1))); replace BK618 := Aside0.mk (QaN (g := gb618) (o := .cells #[.int .i64 x619000_2] 3 (0, 0)) (Zu BK618.out) hg (Kd.R_away HO_310.out (fun _ hk => hk.2))); replace BK623 := Aside0.mk (QaN (g := gb623) (o := .cells #[.string ((rd_T71 l0 x31_2).f0.f0), .int .i64 ((rd_T71 l0 x31_2).f0.f1), .int .i64 ((rd_T71 l0 x31_2).f0.f2), .int .i64 ((rd_T71 l0 x31_2).f0.f3), .int .i64 ((rd_T71 l0 x31_2).f1), .int .i64 ((rd_T71 l0 x31_2).f2)] 71 (0, 0)) (Zu BK623.out) hg (Kd.R_ne HO_310.out BK623.out (by decide))); replace HO_310 := Aside0.mk (hp_); replace HB := Aside0.mk ((by rw [hw]; exact Qam (HB.out) GB35.out : Below w.heap.size w w40)); clear hg hw hp_))
                  (try simp only [← hl310_3])
                  go_roundg k3
                  case measure => have := HJ5.out; have := HK2.out; have := HK3.out; omega
                  case rel => exact ⟨(y627), (wrap64 (x316_3 + 1)), (Zs), H', ⟨by have := HJ5.out; have := HK2.out; have := HK3.out; omega⟩, ⟨by (try simp only [hl310_3]); (with_reducible repeat (first | apply Kd.S_alloc | apply Kd.S_drewN | apply Kd.S_drew)); exact HO_8.out⟩, ⟨by (try simp only [hl310_3]); (with_reducible repeat (first | apply Kd.R_alloc | apply Kd.R_drewN | apply Kd.R_drew)); exact HO_310.out⟩, ⟨by (try simp only [hl310_3]); (with_reducible repeat (first | refine Qag ?_ _ | refine Qah ?_ | refine Qaf ?_ _)); exact BK617.out⟩, ⟨by (try simp only [hl310_3]); (with_reducible repeat (first | refine Qag ?_ _ | refine Qah ?_ | refine Qaf ?_ _)); exact BK618.out⟩, ⟨by (try simp only [hl310_3]); (with_reducible repeat (first | refine Qag ?_ _ | refine Qah ?_ | refine Qaf ?_ _)); exact BK623.out⟩, ⟨Zc3 GE617.out GE618.out GE623.out⟩⟩
                 rw [if_neg c34] at H
                 exact absurd H (by simp)
                rw [if_neg c33] at H
                exact absurd H (by simp)
               rw [if_neg c31] at H
               have c31b0 : decide (x316_3 < (y624.length : Int)) = F := decide_eq_false c31
               (try simp only [hl310_3] at c31b0)
               clear c31
               (try simp only [c31b0])
               by_cases c41 : a1 = 0
               ·rw [if_pos c41] at H
                exact absurd H (by simp)
               rw [if_neg c41] at H
               have c41b0 : (a1 == 0) = F := beq_eq_false_iff_ne.mpr c41
               have c41b1 : (a1 != 0) = T := bne_iff_ne.mpr c41
               have H' := Aside0.mk H
               clear H
               have hnb42 := NB617_618.out
               have hnc42 := NB618_617.out
               have hnb43 := NB617_623.out
               have hnc43 := NB623_617.out
               obtain ⟨hcz44_0, hfz44_0⟩ := Zy (v := (.int .i64 a1)) BK617.out 0
               go_wp2
               go_loopg [24] k3 (fun kq v329 w' => ∃ (x310_4 : List Int) (x329_4 : Int) (x619000_4 : Int), v329 = .int .i64 x329_4 ∧ Aside0 (Qak.l3 kq x8_2 l0 (l0.length : Int) x31_2 x310_4 (Int.tmod ((rd_T71 l0 x31_2).f1) a1) x329_4 a1 x619000_4 ((rd_T71 l0 x31_2).f0.f0) ((rd_T71 l0 x31_2).f0.f1) ((rd_T71 l0 x31_2).f0.f2) ((rd_T71 l0 x31_2).f0.f3) ((rd_T71 l0 x31_2).f1) ((rd_T71 l0 x31_2).f2) = some (r1, r2)) ∧ Aside0 (kq ≤ k3) ∧ Aside0 (Kd.S (Kd.slice 71 k71) 22 w' w.heap.size (fun k_ => k_ ≠ gb623) v620 x8_2) ∧ Aside0 (Kd.R (Kd.int .i64) 3 w' w.heap.size (fun k_ => k_ ≠ gb617 ∧ k_ ≠ gb618) (.slice Ao30 x310_3.length co30) x310_4) ∧ Aside0 (w'.heap[gb617]? = some (.cells #[.int .i64 a1] 3 (0, 0))) ∧ Aside0 (w'.heap[gb618]? = some (.cells #[.int .i64 x619000_4] 3 (0, 0))) ∧ Aside0 (w'.heap[gb623]? = some (.cells #[.string ((rd_T71 l0 x31_2).f0.f0), .int .i64 ((rd_T71 l0 x31_2).f0.f1), .int .i64 ((rd_T71 l0 x31_2).f0.f2), .int .i64 ((rd_T71 l0 x31_2).f0.f3), .int .i64 ((rd_T71 l0 x31_2).f1), .int .i64 ((rd_T71 l0 x31_2).f2)] 71 (0, 0))) ∧ Aside0 (Below w.heap.size w w'))
               case atStart => exact ⟨(x310_3), (0), (x619000_2), (Zs), H', ⟨Nat.le_refl _⟩, ⟨by (try simp only [hl310_3]); (with_reducible repeat (first | apply Kd.S_alloc | apply Kd.S_drewN | apply Kd.S_drew)); exact HO_8.out⟩, ⟨by (try simp only [hl310_3]); (with_reducible repeat (first | apply Kd.R_alloc | apply Kd.R_drewN | apply Kd.R_drew)); exact HO_310.out⟩, ⟨by (try simp only [hl310_3]); (with_reducible repeat (first | refine Qag ?_ _ | refine Qah ?_ | refine Qaf ?_ _)); exact BK617.out⟩, ⟨by (try simp only [hl310_3]); (with_reducible repeat (first | refine Qag ?_ _ | refine Qah ?_ | refine Qaf ?_ _)); exact BK618.out⟩, ⟨by (try simp only [hl310_3]); (with_reducible repeat (first | refine Qag ?_ _ | refine Qah ?_ | refine Qaf ?_ _)); exact BK623.out⟩, ⟨Zc3 GE617.out GE618.out GE623.out⟩⟩
               case round =>
                clear H'
                try clear c1
                try clear c2
                try clear p2
                try clear c3
                try clear p3
                try clear q3
                try clear hx3
                try clear hf3
                try clear c4
                try clear c5
                try clear c5b0
                try clear c5b1
                try clear p6
                try clear q6
                try clear hx6
                try clear c7
                try clear c7b0
                try clear c8
                try clear c9
                try clear c11
                try clear c13
                try clear c13b0
                try clear c13b1
                try clear c14
                try clear c14b0
                try clear c14b1
                try clear c17
                try clear c17b0
                try clear c18
                try clear c18b0
                try clear c19
                try clear c19b0
                try clear c20
                try clear c20b0
                try clear c20b1
                try clear c21
                try clear c21b0
                try clear c21b1
                try clear c23
                try clear c24
                try clear c26
                try clear c31
                try clear c31b0
                try clear c32
                try clear c32b0
                try clear c32b1
                try clear c33
                try clear c33b0
                try clear c34
                try clear c34b0
                try clear p35
                try clear q35
                try clear hx35
                try clear hf35
                try clear c36
                try clear c37
                try clear c41
                try clear c41b0
                try clear c41b1
                try clear c42
                try clear c43
                try clear hcz12_0
                try clear hcz25_0
                try clear hcz25_1
                try clear hcz25_2
                try clear hcz25_3
                try clear hcz25_4
                try clear hcz25_5
                try clear hcz27_0
                try clear hcz38_0
                try clear hcz44_0
                try clear hfz12_0
                try clear hfz25_0
                try clear hfz25_1
                try clear hfz25_2
                try clear hfz25_3
                try clear hfz25_4
                try clear hfz25_5
                try clear hfz27_0
                try clear hfz38_0
                try clear hfz44_0
                try clear hx35_0
                try clear hx622_0
                try clear hx622_1
                try clear hx622_2
                try clear hx622_3
                try clear hx622_4
                try clear hx622_5
                try clear p2
                try clear p35
                try clear p6
                try clear p622
                try clear q35
                try clear q6
                try clear q622
                obtain ⟨x310_4, x329_4, x619000_4, rfl, HA, HK4, HO_8, HO_310, BK617, BK618, BK623, HB⟩ := hrel
                have hl310_4 := (Kd.R_reads' HO_310.out).1
                rw [hl310_4] at HO_310
                (try simp only [hl310_4])
                (try simp only [hl310_4] at BK617)
                (try simp only [hl310_4] at BK618)
                (try simp only [hl310_4] at BK623)
                (try simp only [hl310_4] at HO_8)
                cases gk with
                | zero => exact absurd HA.out (by simp [Qak.l3])
                | succ k4 =>
                 have H := HA.out
                 clear HA
                 simp only [Qak.l3] at H
                 by_cases c45 : x329_4 < (Int.tmod ((rd_T71 l0 x31_2).f1) a1)
                 ·rw [if_pos c45] at H
                  have c45b0 : decide (x329_4 < (Int.tmod ((rd_T71 l0 x31_2).f1) a1)) = T := decide_eq_true c45
                  clear c45
                  (try simp only [c45b0])
                  by_cases c46 : 0 ≤ x619000_4
                  ·rw [if_pos c46] at H
                   have c46b0 : decide (0 ≤ x619000_4) = T := decide_eq_true c46
                   clear c46
                   by_cases c47 : x619000_4 < (x310_4.length : Int)
                   ·rw [if_pos c47] at H
                    have c47b0 : decide (x619000_4 < (x310_4.length : Int)) = T := decide_eq_true c47
                    clear c47
                    obtain ⟨y629, hy629⟩ : ∃ y_ : List Int, y_ = (x310_4.set (x619000_4 : Int).toNat (wrap64 ((rd x310_4 x619000_4) + 1))) := ⟨_, rfl⟩
                    replace H : (if a1 = 0 then (none) else (Qak.l3 k4 x8_2 l0 (l0.length : Int) x31_2 y629 (Int.tmod ((rd_T71 l0 x31_2).f1) a1) (wrap64 (x329_4 + 1)) a1 (Int.tmod (wrap64 (x619000_4 + 1)) a1) ((rd_T71 l0 x31_2).f0.f0) ((rd_T71 l0 x31_2).f0.f1) ((rd_T71 l0 x31_2).f0.f2) ((rd_T71 l0 x31_2).f0.f3) ((rd_T71 l0 x31_2).f1) ((rd_T71 l0 x31_2).f2))) = some (r1, r2) := by first | (rw [hy629]; with_reducible exact H) | (have H2_ := (Option.bind_some _ _).symm.trans H; rw [hy629]; with_reducible exact H2_) | (have H2_ := (Option.bind_some _ _).symm.trans H; with_reducible exact H2_) | with_reducible exact H | (rw [hy629]; exact H) | exact H
                    have Ny629 := Aside0.mk hy629
                    clear hy629
                    by_cases c49 : a1 = 0
                    ·rw [if_pos c49] at H
                     exact absurd H (by simp)
                    rw [if_neg c49] at H
                    have c49b0 : (a1 == 0) = F := beq_eq_false_iff_ne.mpr c49
                    have c49b1 : (a1 != 0) = T := bne_iff_ne.mpr c49
                    have H' := Aside0.mk H
                    clear H
                    have hnb50 := NB618_617.out
                    have hnc50 := NB617_618.out
                    have hnb51 := NB618_623.out
                    have hnc51 := NB623_618.out
                    obtain ⟨hcz52_0, hfz52_0⟩ := Zy (v := (.int .i64 x619000_4)) BK618.out 0
                    have p628 : 0 ≤ (x619000_4 : Int) := Ze
                    have q628 : x619000_4 < (x310_4.length : Int) := Ze
                    obtain ⟨ad628, e628, hx628_0⟩ := Kd.at_int (Kd.R_reads' HO_310.out).2.2 x619000_4 p628 q628
                    cases e628
                    replace p628 := eq_true p628
                    replace q628 := eq_true q628
                    have p48 : 0 ≤ (x619000_4 : Int) := Ze
                    have q48 : (x619000_4 : Int) < ((x310_4.length : Int) : Int) := Ze
                    obtain ⟨go48, co48, eo48, gb48, gl48, cl48, HG48⟩ := Kd.R_form HO_310.out (by omega)
                    (first | cases eo48 | (injection eo48 with ea_ en_ ec_; (first | subst ea_ | (injection ea_ with ea_; subst ea_)); subst ec_; clear en_))
                    have GB48 := Aside0.mk gb48
                    have GG48 := Aside0.mk HG48
                    clear gb48 gl48 HG48
                    (first | simp only [QaT] at hx628_0 | skip)
                    obtain ⟨hx48_0, hf48_0⟩ := Kd.R_celln 0 HO_310.out (x619000_4 : Int) p48 q48
                    replace p48 := eq_true p48
                    replace q48 := eq_true q48
                    have HP53 := Kd.R_putg HO_310.out (x619000_4 : Int) (wrap64 ((rd x310_4 x619000_4) + 1))
                    go_wp2_with (first | ((with_reducible refine Qba (t := 3) (p := 31) rfl ?_); (refine gate_n (n := 38) rfl ?_); refine Qa6 (t := 3) (p := 31) (v := ?vo_w54) (w1 := (wr.setCell ⟨go48, (x619000_4 : Int).toNat, none⟩ (.int .i64 (wrap64 ((rd x310_4 x619000_4) + 1))))) ?hg ?ho ?hn ?hr ?_; (case ho => rfl); (case hg => rfl); (case hn => rfl); (case hr => first | (go_simp; done) | (go_simp; rfl)); intro w54 hw; have hg : wr.grownBy w54 (some go48) := (by rw [hw]; exact HP53.2); have hp_ : Kd.R (Kd.int .i64) 3 w54 w.heap.size (fun k_ => k_ ≠ gb617 ∧ k_ ≠ gb618) (.slice (some ⟨go48, 0, none⟩) x310_4.length co30) y629 := (by rw [hw, Ny629.out]; exact HP53.1); clear HP53; replace HO_8 := Aside0.mk (Kd.S_over' (v := (.slice (some ⟨go48, 0, none⟩) x310_4.length co30)) (by (with_reducible repeat (first | apply Kd.S_alloc | apply Kd.S_drewN | apply Kd.S_drew)); exact HO_8.out) (Kd.R_typed HO_310.out) (by decide) hg); replace BK617 := Aside0.mk (QaN (g := gb617) (o := .cells #[.int .i64 a1] 3 (0, 0)) (Zu BK617.out) hg (Kd.R_away HO_310.out (fun _ hk => hk.1))); replace BK618 := Aside0.mk (QaN (g := gb618) (o := .cells #[.int .i64 x619000_4] 3 (0, 0)) (Zu BK618.out) hg (Kd.R_away HO_310.out (fun _ hk => hk.2))); replace BK623 := Aside0.mk (QaN (g := gb623) (o := .cells #[.string ((rd_T71 l0 x31_2).f0.f0), .int .i64 ((rd_T71 l0 x31_2).f0.f1), .int .i64 ((rd_T71 l0 x31_2).f0.f2), .int .i64 ((rd_T71 l0 x31_2).f0.f3), .int .i64 ((rd_T71 l0 x31_2).f1), .int .i64 ((rd_T71 l0 x31_2).f2)] 71 (0, 0)) (Zu BK623.out) hg (Kd.R_ne HO_310.out BK623.out (by decide))); replace HO_310 := Aside0.mk (hp_); replace HB := Aside0.mk ((by rw [hw]; exact Qam (HB.out) GB48.out : Below w.heap.size w w54)); clear hg hw hp_; obtain ⟨hcz55_0, hfz55_0⟩ := Zy (v := (.int .i64 x619000_4)) BK618.out 0; have hnb56 := NB617_623.out; have hnc56 := NB623_617.out; obtain ⟨hcz57_0, hfz57_0⟩ := Zy (v := (.int .i64 a1)) BK617.out 0))
                    (try simp only [← hl310_4])
                    go_roundg k4
                    case measure => have := HJ5.out; have := HK2.out; have := HK3.out; have := HK4.out; omega
                    case rel => exact ⟨(y629), (wrap64 (x329_4 + 1)), (Int.tmod (wrap64 (x619000_4 + 1)) a1), (Zs), H', ⟨by have := HJ5.out; have := HK2.out; have := HK3.out; have := HK4.out; omega⟩, ⟨by (try simp only [hl310_3]); (try simp only [hl310_4]); (with_reducible repeat (first | apply Kd.S_alloc | apply Kd.S_drewN | apply Kd.S_drew)); exact Kd.S_mono (Kd.S_far (p := ⟨gb618, 0, none⟩) (Kd.S_types HO_8.out BK618.out (by decide)) (fun _ hk => hk.2) (.int .i64 (Int.tmod (wrap64 (x619000_4 + 1)) a1))) (fun _ hk => hk.1)⟩, ⟨by (try simp only [hl310_3]); (try simp only [hl310_4]); (with_reducible repeat (first | apply Kd.R_alloc | apply Kd.R_drewN | apply Kd.R_drew)); exact Kd.R_mono (Kd.R_far (p := ⟨gb618, 0, none⟩) (Kd.R_mono HO_310.out (fun k_ hk => (⟨hk, hk.2⟩ : _ ∧ k_ ≠ gb618))) (fun _ hk => hk.2) (.int .i64 (Int.tmod (wrap64 (x619000_4 + 1)) a1))) (fun _ hk => ⟨hk.1.1, hk.1.2⟩)⟩, ⟨by (try simp only [hl310_3]); (try simp only [hl310_4]); (with_reducible repeat (first | refine Qag ?_ _ | refine Qah ?_ | refine Qaf ?_ _)); refine QaI ?_ NB617_618.out _; (with_reducible repeat (first | refine Qag ?_ _ | refine Qah ?_ | refine Qaf ?_ _)); exact BK617.out⟩, ⟨by (try simp only [hl310_3]); (try simp only [hl310_4]); (with_reducible repeat (first | refine Qag ?_ _ | refine Qah ?_ | refine Qaf ?_ _)); refine QaB (cs := #[.int .i64 x619000_4]) ?_ 0 _ rfl; (with_reducible repeat (first | refine Qag ?_ _ | refine Qah ?_ | refine Qaf ?_ _)); exact BK618.out⟩, ⟨by (try simp only [hl310_3]); (try simp only [hl310_4]); (with_reducible repeat (first | refine Qag ?_ _ | refine Qah ?_ | refine Qaf ?_ _)); refine QaI ?_ NB623_618.out _; (with_reducible repeat (first | refine Qag ?_ _ | refine Qah ?_ | refine Qaf ?_ _)); exact BK623.out⟩, ⟨Zc3 GE617.out GE618.out GE623.out⟩⟩
                   rw [if_neg c47] at H
                   exact absurd H (by simp)
                  rw [if_neg c46] at H
                  exact absurd H (by simp)
                 rw [if_neg c45] at H
                 have c45b0 : decide (x329_4 < (Int.tmod ((rd_T71 l0 x31_2).f1) a1)) = F := decide_eq_false c45
                 clear c45
                 (try simp only [c45b0])
                 by_cases c58 : 0 ≤ a1
                 ·rw [if_pos c58] at H
                  have c58b0 := eq_true c58
                  have c58b1 : decide (0 ≤ a1) = T := decide_eq_true c58
                  clear c58
                  by_cases c59 : (a1 : Int).toNat ≤ 35184372088832
                  ·rw [if_pos c59] at H
                   have c59b0 := eq_true c59
                   have c59b1 : decide ((a1 : Int).toNat ≤ 35184372088832) = T := decide_eq_true c59
                   clear c59
                   obtain ⟨y630, hy630⟩ : ∃ y_ : List Int, y_ = (List.replicate (a1 : Int).toNat 0) := ⟨_, rfl⟩
                   replace H : (Qak.l4 k4 x8_2 x310_4 l0 (l0.length : Int) x31_2 ((rd_T71 l0 x31_2).f2) y630 (y630.length : Int) 0 a1 x619000_4 ((rd_T71 l0 x31_2).f0.f0) ((rd_T71 l0 x31_2).f0.f1) ((rd_T71 l0 x31_2).f0.f2) ((rd_T71 l0 x31_2).f0.f3) ((rd_T71 l0 x31_2).f1) ((rd_T71 l0 x31_2).f2)) = some (r1, r2) := by first | (rw [hy630]; with_reducible exact H) | (have H2_ := (Option.bind_some _ _).symm.trans H; rw [hy630]; with_reducible exact H2_) | (have H2_ := (Option.bind_some _ _).symm.trans H; with_reducible exact H2_) | with_reducible exact H | (rw [hy630]; exact H) | exact H
                   have Ny630 := Aside0.mk hy630
                   clear hy630
                   have H' := Aside0.mk H
                   clear H
                   have hnb60 := NB623_617.out
                   have hnc60 := NB617_623.out
                   have hnb61 := NB623_618.out
                   have hnc61 := NB618_623.out
                   obtain ⟨hcz62_0, hfz62_0⟩ := Zy (v := (.string ((rd_T71 l0 x31_2).f0.f0))) BK623.out 0
                   obtain ⟨hcz62_1, hfz62_1⟩ := Zy (v := (.int .i64 ((rd_T71 l0 x31_2).f0.f1))) BK623.out 1
                   obtain ⟨hcz62_2, hfz62_2⟩ := Zy (v := (.int .i64 ((rd_T71 l0 x31_2).f0.f2))) BK623.out 2
                   obtain ⟨hcz62_3, hfz62_3⟩ := Zy (v := (.int .i64 ((rd_T71 l0 x31_2).f0.f3))) BK623.out 3
                   obtain ⟨hcz62_4, hfz62_4⟩ := Zy (v := (.int .i64 ((rd_T71 l0 x31_2).f1))) BK623.out 4
                   obtain ⟨hcz62_5, hfz62_5⟩ := Zy (v := (.int .i64 ((rd_T71 l0 x31_2).f2))) BK623.out 5
                   have hnb63 := NB617_618.out
                   have hnc63 := NB618_617.out
                   obtain ⟨hcz64_0, hfz64_0⟩ := Zy (v := (.int .i64 a1)) BK617.out 0
                   go_wp2_with (first | (go_at_call 153; go_in) | ((with_reducible refine QaX (N := 8) rfl ?_); (refine gate_n (n := 38) rfl ?_); refine Kd.R_make (Kd.int .i64) _ 3 rfl (N := 8) rfl 32 _ _ rfl a1 rfl rfl Try.underlying32 (.int .i64 0) 8 info3 rfl (by decide) (by omega) 0 (ok := fun _ => True) (okp := fun _ => True) rfl (fun _ hk => hk) trivial (Ze) (Nat.le_trans (Nat.mul_le_mul_right _ (Ze : a1.toNat ≤ 35184372088832)) (by omega)) (Below.refl _ _) (Nat.le_refl _) ?_; intro v631 w65 ho66 hb hg_ hnew_; clear hg_ hnew_; (first | rw [← Ny630.out] at ho66 | (simp only [Int.reduceToNat] at ho66; rw [← Ny630.out] at ho66)); have HO632 := Aside0.mk (Kd.R_lower (Kd.R_newB (Kd.R_newB (Kd.R_new' ho66 (Kd.R_lt (Zr HO_310.out))) (g := gb617) (o := .cells #[.int .i64 a1] 3 (0, 0)) (Zu BK617.out)) (g := gb618) (o := .cells #[.int .i64 x619000_4] 3 (0, 0)) (Zu BK618.out)) (Qau (Zc3 GE617.out GE618.out GE623.out))); replace HO_8 := Aside0.mk (Kd.S_below (by (with_reducible repeat (first | apply Kd.S_alloc | apply Kd.S_drewN | apply Kd.S_drew)); exact HO_8.out) hb); replace HO_310 := Aside0.mk (Kd.R_elder' (Zr HO_310.out) (Kd.R_base ho66) hb); replace BK617 := Aside0.mk (Zi BK617.out hb); replace BK618 := Aside0.mk (Zi BK618.out hb); replace BK623 := Aside0.mk (Zi BK623.out hb); replace HB := Aside0.mk (Qav (Zc3 GE617.out GE618.out GE623.out) hb); clear hb ho66; obtain ⟨Ao67, co67, eo67⟩ := Kd.R_slice HO632.out; subst eo67))
                   (try simp only [QcY])
                   go_loopg [11] k4 (fun kq v354 w' => ∃ (x348_5 : List Int) (x354_5 : Int), v354 = .int .i64 x354_5 ∧ Aside0 (Qak.l4 kq x8_2 x310_4 l0 (l0.length : Int) x31_2 ((rd_T71 l0 x31_2).f2) x348_5 (y630.length : Int) x354_5 a1 x619000_4 ((rd_T71 l0 x31_2).f0.f0) ((rd_T71 l0 x31_2).f0.f1) ((rd_T71 l0 x31_2).f0.f2) ((rd_T71 l0 x31_2).f0.f3) ((rd_T71 l0 x31_2).f1) ((rd_T71 l0 x31_2).f2) = some (r1, r2)) ∧ Aside0 (kq ≤ k4) ∧ Aside0 (Kd.S (Kd.slice 71 k71) 22 w' w.heap.size (fun k_ => k_ ≠ gb623) v620 x8_2) ∧ Aside0 (Kd.R (Kd.int .i64) 3 w' w.heap.size (fun k_ => some k_ ≠ ((.slice Ao67 y630.length co67) : Value).ownBlock ∧ k_ ≠ gb617 ∧ k_ ≠ gb618) (.slice Ao30 x310_4.length co30) x310_4) ∧ Aside0 (Kd.R (Kd.int .i64) 3 w' w.heap.size (fun k_ => some k_ ≠ ((.slice Ao30 x310_4.length co30) : Value).ownBlock ∧ k_ ≠ gb617 ∧ k_ ≠ gb618) (.slice Ao67 y630.length co67) x348_5) ∧ Aside0 (w'.heap[gb617]? = some (.cells #[.int .i64 a1] 3 (0, 0))) ∧ Aside0 (w'.heap[gb618]? = some (.cells #[.int .i64 x619000_4] 3 (0, 0))) ∧ Aside0 (w'.heap[gb623]? = some (.cells #[.string ((rd_T71 l0 x31_2).f0.f0), .int .i64 ((rd_T71 l0 x31_2).f0.f1), .int .i64 ((rd_T71 l0 x31_2).f0.f2), .int .i64 ((rd_T71 l0 x31_2).f0.f3), .int .i64 ((rd_T71 l0 x31_2).f1), .int .i64 ((rd_T71 l0 x31_2).f2)] 71 (0, 0))) ∧ Aside0 (Below w.heap.size w w'))
                   case atStart => exact ⟨(y630), (0), (Zs), H', ⟨Nat.le_refl _⟩, ⟨by (try simp only [hl310_3]); (try simp only [hl310_4]); (with_reducible repeat (first | apply Kd.S_alloc | apply Kd.S_drewN | apply Kd.S_drew)); exact HO_8.out⟩, ⟨by (try simp only [hl310_3]); (try simp only [hl310_4]); (with_reducible repeat (first | apply Kd.R_alloc | apply Kd.R_drewN | apply Kd.R_drew)); exact Kd.R_mono HO_310.out (fun _ hk => ⟨hk.2, ⟨hk.1.1, hk.1.2⟩⟩)⟩, ⟨by (try simp only [hl310_3]); (try simp only [hl310_4]); (with_reducible repeat (first | apply Kd.R_alloc | apply Kd.R_drewN | apply Kd.R_drew)); exact Kd.R_mono HO632.out (fun _ hk => ⟨hk.1.1.2, ⟨hk.1.2, hk.2⟩⟩)⟩, ⟨by (try simp only [hl310_3]); (try simp only [hl310_4]); (with_reducible repeat (first | refine Qag ?_ _ | refine Qah ?_ | refine Qaf ?_ _)); exact BK617.out⟩, ⟨by (try simp only [hl310_3]); (try simp only [hl310_4]); (with_reducible repeat (first | refine Qag ?_ _ | refine Qah ?_ | refine Qaf ?_ _)); exact BK618.out⟩, ⟨by (try simp only [hl310_3]); (try simp only [hl310_4]); (with_reducible repeat (first | refine Qag ?_ _ | refine Qah ?_ | refine Qaf ?_ _)); exact BK623.out⟩, ⟨Zc3 GE617.out GE618.out GE623.out⟩⟩
                   case round =>
                    clear H'
                    try clear c1
                    try clear c2
                    try clear p2
                    try clear c3
                    try clear p3
                    try clear q3
                    try clear hx3
                    try clear hf3
                    try clear c4
                    try clear p4
                    try clear q4
                    try clear hx4
                    try clear hf4
                    try clear c5
                    try clear c5b0
                    try clear c5b1
                    try clear c6
                    try clear p6
                    try clear q6
                    try clear hx6
                    try clear c7
                    try clear c7b0
                    try clear c8
                    try clear c9
                    try clear c11
                    try clear c13
                    try clear c13b0
                    try clear c13b1
                    try clear c14
                    try clear c14b0
                    try clear c14b1
                    try clear c17
                    try clear c17b0
                    try clear c18
                    try clear c18b0
                    try clear c19
                    try clear c19b0
                    try clear c20
                    try clear c20b0
                    try clear c20b1
                    try clear c21
                    try clear c21b0
                    try clear c21b1
                    try clear c23
                    try clear c24
                    try clear c26
                    try clear c31
                    try clear c31b0
                    try clear c32
                    try clear c32b0
                    try clear c32b1
                    try clear c33
                    try clear c33b0
                    try clear c34
                    try clear c34b0
                    try clear p35
                    try clear q35
                    try clear hx35
                    try clear hf35
                    try clear c36
                    try clear c37
                    try clear c41
                    try clear c41b0
                    try clear c41b1
                    try clear c42
                    try clear c43
                    try clear c45
                    try clear c45b0
                    try clear c46
                    try clear c46b0
                    try clear c47
                    try clear c47b0
                    try clear p48
                    try clear q48
                    try clear hx48
                    try clear hf48
                    try clear c49
                    try clear c49b0
                    try clear c49b1
                    try clear c50
                    try clear c51
                    try clear c56
                    try clear c58
                    try clear c58b0
                    try clear c58b1
                    try clear c59
                    try clear c59b0
                    try clear c59b1
                    try clear c60
                    try clear c61
                    try clear p62
                    try clear q62
                    try clear hx62
                    try clear c63
                    try clear p64
                    try clear hcz12_0
                    try clear hcz25_0
                    try clear hcz25_1
                    try clear hcz25_2
                    try clear hcz25_3
                    try clear hcz25_4
                    try clear hcz25_5
                    try clear hcz27_0
                    try clear hcz38_0
                    try clear hcz44_0
                    try clear hcz52_0
                    try clear hcz55_0
                    try clear hcz57_0
                    try clear hcz62_0
                    try clear hcz62_1
                    try clear hcz62_2
                    try clear hcz62_3
                    try clear hcz62_4
                    try clear hcz62_5
                    try clear hcz64_0
                    try clear hfz12_0
                    try clear hfz25_0
                    try clear hfz25_1
                    try clear hfz25_2
                    try clear hfz25_3
                    try clear hfz25_4
                    try clear hfz25_5
                    try clear hfz27_0
                    try clear hfz38_0
                    try clear hfz44_0
                    try clear hfz52_0
                    try clear hfz55_0
                    try clear hfz57_0
                    try clear hfz62_0
                    try clear hfz62_1
                    try clear hfz62_2
                    try clear hfz62_3
                    try clear hfz62_4
                    try clear hfz62_5
                    try clear hfz64_0
                    try clear hx35_0
                    try clear hx48_0
                    try clear hx622_0
                    try clear hx622_1
                    try clear hx622_2
                    try clear hx622_3
                    try clear hx622_4
                    try clear hx622_5
                    try clear hx628_0
                    try clear p2
                    try clear p3
                    try clear p35
                    try clear p48
                    try clear p6
                    try clear p622
                    try clear p628
                    try clear q3
                    try clear q35
                    try clear q48
                    try clear q6
                    try clear q622
                    try clear q628
                    obtain ⟨x348_5, x354_5, rfl, HA, HK5, HO_8, HO_11, HO_348, BK617, BK618, BK623, HB⟩ := hrel
                    have hl348_5 := (Kd.R_reads' HO_348.out).1
                    rw [hl348_5] at HO_348
                    (try simp only [hl348_5])
                    (try simp only [hl348_5] at BK617)
                    (try simp only [hl348_5] at BK618)
                    (try simp only [hl348_5] at BK623)
                    (try simp only [hl348_5] at HO_8)
                    (try simp only [hl348_5] at HO_11)
                    cases gk with
                    | zero => exact absurd HA.out (by simp [Qak.l4])
                    | succ k5 =>
                     have H := HA.out
                     clear HA
                     simp only [Qak.l4] at H
                     by_cases c68 : x354_5 < (y630.length : Int)
                     ·rw [if_pos c68] at H
                      have c68b0 : decide (x354_5 < (y630.length : Int)) = T := decide_eq_true c68
                      clear c68
                      (try simp only [c68b0])
                      by_cases c69 : a1 = 0
                      ·rw [if_pos c69] at H
                       exact absurd H (by simp)
                      rw [if_neg c69] at H
                      have c69b0 : (a1 == 0) = F := beq_eq_false_iff_ne.mpr c69
                      have c69b1 : (a1 != 0) = T := bne_iff_ne.mpr c69
                      by_cases c70 : 0 ≤ x354_5
                      ·rw [if_pos c70] at H
                       have c70b0 : decide (0 ≤ x354_5) = T := decide_eq_true c70
                       clear c70
                       by_cases c71 : x354_5 < (x348_5.length : Int)
                       ·rw [if_pos c71] at H
                        have c71b0 : decide (x354_5 < (x348_5.length : Int)) = T := decide_eq_true c71
                        clear c71
                        obtain ⟨y633, hy633⟩ : ∃ y_ : List Int, y_ = (x348_5.set (x354_5 : Int).toNat (wrap64 (Int.tdiv ((rd_T71 l0 x31_2).f2) a1))) := ⟨_, rfl⟩
                        replace H : (Qak.l4 k5 x8_2 x310_4 l0 (l0.length : Int) x31_2 ((rd_T71 l0 x31_2).f2) y633 (y630.length : Int) (wrap64 (x354_5 + 1)) a1 x619000_4 ((rd_T71 l0 x31_2).f0.f0) ((rd_T71 l0 x31_2).f0.f1) ((rd_T71 l0 x31_2).f0.f2) ((rd_T71 l0 x31_2).f0.f3) ((rd_T71 l0 x31_2).f1) ((rd_T71 l0 x31_2).f2)) = some (r1, r2) := by first | (rw [hy633]; with_reducible exact H) | (have H2_ := (Option.bind_some _ _).symm.trans H; rw [hy633]; with_reducible exact H2_) | (have H2_ := (Option.bind_some _ _).symm.trans H; with_reducible exact H2_) | with_reducible exact H | (rw [hy633]; exact H) | exact H
                        have Ny633 := Aside0.mk hy633
                        clear hy633
                        have H' := Aside0.mk H
                        clear H
                        have hnb73 := NB617_618.out
                        have hnc73 := NB618_617.out
                        have hnb74 := NB617_623.out
                        have hnc74 := NB623_617.out
                        obtain ⟨hcz75_0, hfz75_0⟩ := Zy (v := (.int .i64 a1)) BK617.out 0
                        have p72 : 0 ≤ (x354_5 : Int) := Ze
                        have q72 : (x354_5 : Int) < ((x348_5.length : Int) : Int) := Ze
                        obtain ⟨go72, co72, eo72, gb72, gl72, cl72, HG72⟩ := Kd.R_form HO_348.out (by omega)
                        (first | cases eo72 | (injection eo72 with ea_ en_ ec_; (first | subst ea_ | (injection ea_ with ea_; subst ea_)); subst ec_; clear en_))
                        have GB72 := Aside0.mk gb72
                        have GG72 := Aside0.mk HG72
                        clear gb72 gl72 HG72
                        obtain ⟨hx72_0, hf72_0⟩ := Kd.R_celln 0 HO_348.out (x354_5 : Int) p72 q72
                        replace p72 := eq_true p72
                        replace q72 := eq_true q72
                        have HP76 := Kd.R_putg HO_348.out (x354_5 : Int) (wrap64 (Int.tdiv ((rd_T71 l0 x31_2).f2) a1))
                        go_wp2_with (first | ((with_reducible refine Qba (t := 3) (p := 19) rfl ?_); (refine gate_n (n := 38) rfl ?_); refine Qa6 (t := 3) (p := 19) (v := ?vo_w77) (w1 := (wr.setCell ⟨go72, (x354_5 : Int).toNat, none⟩ (.int .i64 (wrap64 (Int.tdiv ((rd_T71 l0 x31_2).f2) a1))))) ?hg ?ho ?hn ?hr ?_; (case ho => rfl); (case hg => rfl); (case hn => rfl); (case hr => first | (go_simp; done) | (go_simp; rfl)); intro w77 hw; have hg : wr.grownBy w77 (some go72) := (by rw [hw]; exact HP76.2); have hp_ : Kd.R (Kd.int .i64) 3 w77 w.heap.size (fun k_ => some k_ ≠ (.slice Ao30 x310_4.length co30 : Value).ownBlock ∧ k_ ≠ gb617 ∧ k_ ≠ gb618) (.slice (some ⟨go72, 0, none⟩) x348_5.length co67) y633 := (by rw [hw, Ny633.out]; exact HP76.1); clear HP76; replace HO_8 := Aside0.mk (Kd.S_over' (v := (.slice (some ⟨go72, 0, none⟩) x348_5.length co67)) (by (with_reducible repeat (first | apply Kd.S_alloc | apply Kd.S_drewN | apply Kd.S_drew)); exact HO_8.out) (Kd.R_typed HO_348.out) (by decide) hg); replace HO_11 := Aside0.mk (Kd.R_after (v := (.slice (some ⟨go72, 0, none⟩) x348_5.length co67)) (v1 := (.slice (some ⟨go72, 0, none⟩) x348_5.length co67)) (ok := (fun k_ => k_ ≠ gb617 ∧ k_ ≠ gb618)) (by (with_reducible repeat (first | apply Kd.R_alloc | apply Kd.R_drewN | apply Kd.R_drew)); exact Kd.R_mono HO_11.out (fun _ hk => ⟨⟨hk.2.1, hk.2.2⟩, hk.1⟩)) hg (.inl rfl)); replace BK617 := Aside0.mk (QaN (g := gb617) (o := .cells #[.int .i64 a1] 3 (0, 0)) (Zu BK617.out) hg (Kd.R_away HO_348.out (fun _ hk => hk.2.1))); replace BK618 := Aside0.mk (QaN (g := gb618) (o := .cells #[.int .i64 x619000_4] 3 (0, 0)) (Zu BK618.out) hg (Kd.R_away HO_348.out (fun _ hk => hk.2.2))); replace BK623 := Aside0.mk (QaN (g := gb623) (o := .cells #[.string ((rd_T71 l0 x31_2).f0.f0), .int .i64 ((rd_T71 l0 x31_2).f0.f1), .int .i64 ((rd_T71 l0 x31_2).f0.f2), .int .i64 ((rd_T71 l0 x31_2).f0.f3), .int .i64 ((rd_T71 l0 x31_2).f1), .int .i64 ((rd_T71 l0 x31_2).f2)] 71 (0, 0)) (Zu BK623.out) hg (Kd.R_ne HO_348.out BK623.out (by decide))); replace HO_348 := Aside0.mk (hp_); replace HB := Aside0.mk ((by rw [hw]; exact Qam (HB.out) GB72.out : Below w.heap.size w w77)); clear hg hw hp_))
                        (try simp only [← hl348_5])
                        go_roundg k5
                        case measure => have := HJ5.out; have := HK2.out; have := HK3.out; have := HK4.out; have := HK5.out; omega
                        case rel => exact ⟨(y633), (wrap64 (x354_5 + 1)), (Zs), H', ⟨by have := HJ5.out; have := HK2.out; have := HK3.out; have := HK4.out; have := HK5.out; omega⟩, ⟨by (try simp only [hl310_3]); (try simp only [hl310_4]); (try simp only [hl348_5]); (with_reducible repeat (first | apply Kd.S_alloc | apply Kd.S_drewN | apply Kd.S_drew)); exact HO_8.out⟩, ⟨by (try simp only [hl310_3]); (try simp only [hl310_4]); (try simp only [hl348_5]); (with_reducible repeat (first | apply Kd.R_alloc | apply Kd.R_drewN | apply Kd.R_drew)); exact Kd.R_mono HO_11.out (fun _ hk => ⟨hk.2, ⟨hk.1.1, hk.1.2⟩⟩)⟩, ⟨by (try simp only [hl310_3]); (try simp only [hl310_4]); (try simp only [hl348_5]); (with_reducible repeat (first | apply Kd.R_alloc | apply Kd.R_drewN | apply Kd.R_drew)); exact HO_348.out⟩, ⟨by (try simp only [hl310_3]); (try simp only [hl310_4]); (try simp only [hl348_5]); (with_reducible repeat (first | refine Qag ?_ _ | refine Qah ?_ | refine Qaf ?_ _)); exact BK617.out⟩, ⟨by (try simp only [hl310_3]); (try simp only [hl310_4]); (try simp only [hl348_5]); (with_reducible repeat (first | refine Qag ?_ _ | refine Qah ?_ | refine Qaf ?_ _)); exact BK618.out⟩, ⟨by (try simp only [hl310_3]); (try simp only [hl310_4]); (try simp only [hl348_5]); (with_reducible repeat (first | refine Qag ?_ _ | refine Qah ?_ | refine Qaf ?_ _)); exact BK623.out⟩, ⟨Zc3 GE617.out GE618.out GE623.out⟩⟩
                       rw [if_neg c71] at H
                       exact absurd H (by simp)
                      rw [if_neg c70] at H
                      exact absurd H (by simp)
                     rw [if_neg c68] at H
                     have c68b0 : decide (x354_5 < (y630.length : Int)) = F := decide_eq_false c68
                     (try simp only [hl348_5] at c68b0)
                     clear c68
                     (try simp only [c68b0])
                     by_cases c78 : a1 = 0
                     ·rw [if_pos c78] at H
                      exact absurd H (by simp)
                     rw [if_neg c78] at H
                     have c78b0 : (a1 == 0) = F := beq_eq_false_iff_ne.mpr c78
                     have c78b1 : (a1 != 0) = T := bne_iff_ne.mpr c78
                     have H' := Aside0.mk H
                     clear H
                     have hnb79 := NB617_618.out
                     have hnc79 := NB618_617.out
                     have hnb80 := NB617_623.out
                     have hnc80 := NB623_617.out
                     obtain ⟨hcz81_0, hfz81_0⟩ := Zy (v := (.int .i64 a1)) BK617.out 0
                     go_wp2
                     go_loopg [24] k5 (fun kq v367 w' => ∃ (x348_6 : List Int) (x367_6 : Int) (x619000_6 : Int), v367 = .int .i64 x367_6 ∧ Aside0 (Qak.l5 kq x8_2 x310_4 l0 (l0.length : Int) x31_2 x348_6 (Int.tmod ((rd_T71 l0 x31_2).f2) a1) x367_6 a1 x619000_6 ((rd_T71 l0 x31_2).f0.f0) ((rd_T71 l0 x31_2).f0.f1) ((rd_T71 l0 x31_2).f0.f2) ((rd_T71 l0 x31_2).f0.f3) ((rd_T71 l0 x31_2).f1) ((rd_T71 l0 x31_2).f2) = some (r1, r2)) ∧ Aside0 (kq ≤ k5) ∧ Aside0 (Kd.S (Kd.slice 71 k71) 22 w' w.heap.size (fun k_ => k_ ≠ gb623) v620 x8_2) ∧ Aside0 (Kd.R (Kd.int .i64) 3 w' w.heap.size (fun k_ => some k_ ≠ ((.slice Ao67 x348_5.length co67) : Value).ownBlock ∧ k_ ≠ gb617 ∧ k_ ≠ gb618) (.slice Ao30 x310_4.length co30) x310_4) ∧ Aside0 (Kd.R (Kd.int .i64) 3 w' w.heap.size (fun k_ => some k_ ≠ ((.slice Ao30 x310_4.length co30) : Value).ownBlock ∧ k_ ≠ gb617 ∧ k_ ≠ gb618) (.slice Ao67 x348_5.length co67) x348_6) ∧ Aside0 (w'.heap[gb617]? = some (.cells #[.int .i64 a1] 3 (0, 0))) ∧ Aside0 (w'.heap[gb618]? = some (.cells #[.int .i64 x619000_6] 3 (0, 0))) ∧ Aside0 (w'.heap[gb623]? = some (.cells #[.string ((rd_T71 l0 x31_2).f0.f0), .int .i64 ((rd_T71 l0 x31_2).f0.f1), .int .i64 ((rd_T71 l0 x31_2).f0.f2), .int .i64 ((rd_T71 l0 x31_2).f0.f3), .int .i64 ((rd_T71 l0 x31_2).f1), .int .i64 ((rd_T71 l0 x31_2).f2)] 71 (0, 0))) ∧ Aside0 (Below w.heap.size w w'))
                     case atStart => exact ⟨(x348_5), (0), (x619000_4), (Zs), H', ⟨Nat.le_refl _⟩, ⟨by (try simp only [hl310_3]); (try simp only [hl310_4]); (try simp only [hl348_5]); (with_reducible repeat (first | apply Kd.S_alloc | apply Kd.S_drewN | apply Kd.S_drew)); exact HO_8.out⟩, ⟨by (try simp only [hl310_3]); (try simp only [hl310_4]); (try simp only [hl348_5]); (with_reducible repeat (first | apply Kd.R_alloc | apply Kd.R_drewN | apply Kd.R_drew)); exact HO_11.out⟩, ⟨by (try simp only [hl310_3]); (try simp only [hl310_4]); (try simp only [hl348_5]); (with_reducible repeat (first | apply Kd.R_alloc | apply Kd.R_drewN | apply Kd.R_drew)); exact HO_348.out⟩, ⟨by (try simp only [hl310_3]); (try simp only [hl310_4]); (try simp only [hl348_5]); (with_reducible repeat (first | refine Qag ?_ _ | refine Qah ?_ | refine Qaf ?_ _)); exact BK617.out⟩, ⟨by (try simp only [hl310_3]); (try simp only [hl310_4]); (try simp only [hl348_5]); (with_reducible repeat (first | refine Qag ?_ _ | refine Qah ?_ | refine Qaf ?_ _)); exact BK618.out⟩, ⟨by (try simp only [hl310_3]); (try simp only [hl310_4]); (try simp only [hl348_5]); (with_reducible repeat (first | refine Qag ?_ _ | refine Qah ?_ | refine Qaf ?_ _)); exact BK623.out⟩, ⟨Zc3 GE617.out GE618.out GE623.out⟩⟩
                     case round =>
                      clear H'
                      try clear c1
                      try clear c2
                      try clear p2
                      try clear c3
                      try clear p3
                      try clear q3
                      try clear hx3
                      try clear hf3
                      try clear c4
                      try clear p4
                      try clear q4
                      try clear hx4
                      try clear hf4
                      try clear c5
                      try clear c5b0
                      try clear c5b1
                      try clear c6
                      try clear p6
                      try clear q6
                      try clear hx6
                      try clear c7
                      try clear c7b0
                      try clear p7
                      try clear q7
                      try clear hx7
                      try clear hf7
                      try clear c8
                      try clear c9
                      try clear c11
                      try clear c13
                      try clear c13b0
                      try clear c13b1
                      try clear c14
                      try clear c14b0
                      try clear c14b1
                      try clear c17
                      try clear c17b0
                      try clear c18
                      try clear c18b0
                      try clear c19
                      try clear c19b0
                      try clear c20
                      try clear c20b0
                      try clear c20b1
                      try clear c21
                      try clear c21b0
                      try clear c21b1
                      try clear c23
                      try clear c24
                      try clear c26
                      try clear c31
                      try clear c31b0
                      try clear c32
                      try clear c32b0
                      try clear c32b1
                      try clear c33
                      try clear c33b0
                      try clear c34
                      try clear c34b0
                      try clear p35
                      try clear q35
                      try clear hx35
                      try clear hf35
                      try clear c36
                      try clear c37
                      try clear c41
                      try clear c41b0
                      try clear c41b1
                      try clear c42
                      try clear c43
                      try clear c45
                      try clear c45b0
                      try clear c46
                      try clear c46b0
                      try clear c47
                      try clear c47b0
                      try clear p48
                      try clear q48
                      try clear hx48
                      try clear hf48
                      try clear c49
                      try clear c49b0
                      try clear c49b1
                      try clear c50
                      try clear c51
                      try clear c56
                      try clear c58
                      try clear c58b0
                      try clear c58b1
                      try clear c59
                      try clear c59b0
                      try clear c59b1
                      try clear c60
                      try clear c61
                      try clear p62
                      try clear q62
                      try clear hx62
                      try clear c63
                      try clear p64
                      try clear c68
                      try clear c68b0
                      try clear c69
                      try clear c69b0
                      try clear c69b1
                      try clear c70
                      try clear c70b0
                      try clear c71
                      try clear c71b0
                      try clear p72
                      try clear q72
                      try clear hx72
                      try clear hf72
                      try clear c73
                      try clear c74
                      try clear c78
                      try clear c78b0
                      try clear c78b1
                      try clear c79
                      try clear c80
                      try clear hcz12_0
                      try clear hcz25_0
                      try clear hcz25_1
                      try clear hcz25_2
                      try clear hcz25_3
                      try clear hcz25_4
                      try clear hcz25_5
                      try clear hcz27_0
                      try clear hcz38_0
                      try clear hcz44_0
                      try clear hcz52_0
                      try clear hcz55_0
                      try clear hcz57_0
                      try clear hcz62_0
                      try clear hcz62_1
                      try clear hcz62_2
                      try clear hcz62_3
                      try clear hcz62_4
                      try clear hcz62_5
                      try clear hcz64_0
                      try clear hcz75_0
                      try clear hcz81_0
                      try clear hfz12_0
                      try clear hfz25_0
                      try clear hfz25_1
                      try clear hfz25_2
                      try clear hfz25_3
                      try clear hfz25_4
                      try clear hfz25_5
                      try clear hfz27_0
                      try clear hfz38_0
                      try clear hfz44_0
                      try clear hfz52_0
                      try clear hfz55_0
                      try clear hfz57_0
                      try clear hfz62_0
                      try clear hfz62_1
                      try clear hfz62_2
                      try clear hfz62_3
                      try clear hfz62_4
                      try clear hfz62_5
                      try clear hfz64_0
                      try clear hfz75_0
                      try clear hfz81_0
                      try clear hx35_0
                      try clear hx48_0
                      try clear hx622_0
                      try clear hx622_1
                      try clear hx622_2
                      try clear hx622_3
                      try clear hx622_4
                      try clear hx622_5
                      try clear hx628_0
                      try clear hx72_0
                      try clear p2
                      try clear p3
                      try clear p35
                      try clear p4
                      try clear p48
                      try clear p6
                      try clear p62
                      try clear p622
                      try clear p628
                      try clear p64
                      try clear p72
                      try clear q3
                      try clear q35
                      try clear q4
                      try clear q48
                      try clear q6
                      try clear q62
                      try clear q622
                      try clear q628
                      try clear q72
                      obtain ⟨x348_6, x367_6, x619000_6, rfl, HA, HK6, HO_8, HO_11, HO_348, BK617, BK618, BK623, HB⟩ := hrel
                      have hl348_6 := (Kd.R_reads' HO_348.out).1
                      rw [hl348_6] at HO_348
                      (try simp only [hl348_6])
                      (try simp only [hl348_6] at BK617)
                      (try simp only [hl348_6] at BK618)
                      (try simp only [hl348_6] at BK623)
                      (try simp only [hl348_6] at HO_8)
                      (try simp only [hl348_6] at HO_11)
                      cases gk with
                      | zero => exact absurd HA.out (by simp [Qak.l5])
                      | succ k6 =>
                       have H := HA.out
                       clear HA
                       simp only [Qak.l5] at H
                       by_cases c82 : x367_6 < (Int.tmod ((rd_T71 l0 x31_2).f2) a1)
                       ·rw [if_pos c82] at H
                        have c82b0 : decide (x367_6 < (Int.tmod ((rd_T71 l0 x31_2).f2) a1)) = T := decide_eq_true c82
                        clear c82
                        (try simp only [c82b0])
                        by_cases c83 : 0 ≤ x619000_6
                        ·rw [if_pos c83] at H
                         have c83b0 : decide (0 ≤ x619000_6) = T := decide_eq_true c83
                         clear c83
                         by_cases c84 : x619000_6 < (x348_6.length : Int)
                         ·rw [if_pos c84] at H
                          have c84b0 : decide (x619000_6 < (x348_6.length : Int)) = T := decide_eq_true c84
                          clear c84
                          obtain ⟨y635, hy635⟩ : ∃ y_ : List Int, y_ = (x348_6.set (x619000_6 : Int).toNat (wrap64 ((rd x348_6 x619000_6) + 1))) := ⟨_, rfl⟩
                          replace H : (if a1 = 0 then (none) else (Qak.l5 k6 x8_2 x310_4 l0 (l0.length : Int) x31_2 y635 (Int.tmod ((rd_T71 l0 x31_2).f2) a1) (wrap64 (x367_6 + 1)) a1 (Int.tmod (wrap64 (x619000_6 + 1)) a1) ((rd_T71 l0 x31_2).f0.f0) ((rd_T71 l0 x31_2).f0.f1) ((rd_T71 l0 x31_2).f0.f2) ((rd_T71 l0 x31_2).f0.f3) ((rd_T71 l0 x31_2).f1) ((rd_T71 l0 x31_2).f2))) = some (r1, r2) := by first | (rw [hy635]; with_reducible exact H) | (have H2_ := (Option.bind_some _ _).symm.trans H; rw [hy635]; with_reducible exact H2_) | (have H2_ := (Option.bind_some _ _).symm.trans H; with_reducible exact H2_) | with_reducible exact H | (rw [hy635]; exact H) | exact H
                          have Ny635 := Aside0.mk hy635
                          clear hy635
                          by_cases c86 : a1 = 0
                          ·rw [if_pos c86] at H
                           exact absurd H (by simp)
                          rw [if_neg c86] at H
                          have c86b0 : (a1 == 0) = F := beq_eq_false_iff_ne.mpr c86
                          have c86b1 : (a1 != 0) = T := bne_iff_ne.mpr c86
                          have H' := Aside0.mk H
                          clear H
                          have hnb87 := NB618_617.out
                          have hnc87 := NB617_618.out
                          have hnb88 := NB618_623.out
                          have hnc88 := NB623_618.out
                          obtain ⟨hcz89_0, hfz89_0⟩ := Zy (v := (.int .i64 x619000_6)) BK618.out 0
                          have p634 : 0 ≤ (x619000_6 : Int) := Ze
                          have q634 : x619000_6 < (x348_6.length : Int) := Ze
                          obtain ⟨ad634, e634, hx634_0⟩ := Kd.at_int (Kd.R_reads' HO_348.out).2.2 x619000_6 p634 q634
                          cases e634
                          replace p634 := eq_true p634
                          replace q634 := eq_true q634
                          have p85 : 0 ≤ (x619000_6 : Int) := Ze
                          have q85 : (x619000_6 : Int) < ((x348_6.length : Int) : Int) := Ze
                          obtain ⟨go85, co85, eo85, gb85, gl85, cl85, HG85⟩ := Kd.R_form HO_348.out (by omega)
                          (first | cases eo85 | (injection eo85 with ea_ en_ ec_; (first | subst ea_ | (injection ea_ with ea_; subst ea_)); subst ec_; clear en_))
                          have GB85 := Aside0.mk gb85
                          have GG85 := Aside0.mk HG85
                          clear gb85 gl85 HG85
                          (first | simp only [QaT] at hx634_0 | skip)
                          obtain ⟨hx85_0, hf85_0⟩ := Kd.R_celln 0 HO_348.out (x619000_6 : Int) p85 q85
                          replace p85 := eq_true p85
                          replace q85 := eq_true q85
                          have HP90 := Kd.R_putg HO_348.out (x619000_6 : Int) (wrap64 ((rd x348_6 x619000_6) + 1))
                          go_wp2_with (first | ((with_reducible refine Qba (t := 3) (p := 31) rfl ?_); (refine gate_n (n := 38) rfl ?_); refine Qa6 (t := 3) (p := 31) (v := ?vo_w91) (w1 := (wr.setCell ⟨go85, (x619000_6 : Int).toNat, none⟩ (.int .i64 (wrap64 ((rd x348_6 x619000_6) + 1))))) ?hg ?ho ?hn ?hr ?_; (case ho => rfl); (case hg => rfl); (case hn => rfl); (case hr => first | (go_simp; done) | (go_simp; rfl)); intro w91 hw; have hg : wr.grownBy w91 (some go85) := (by rw [hw]; exact HP90.2); have hp_ : Kd.R (Kd.int .i64) 3 w91 w.heap.size (fun k_ => some k_ ≠ (.slice Ao30 x310_4.length co30 : Value).ownBlock ∧ k_ ≠ gb617 ∧ k_ ≠ gb618) (.slice (some ⟨go85, 0, none⟩) x348_6.length co67) y635 := (by rw [hw, Ny635.out]; exact HP90.1); clear HP90; replace HO_8 := Aside0.mk (Kd.S_over' (v := (.slice (some ⟨go85, 0, none⟩) x348_6.length co67)) (by (with_reducible repeat (first | apply Kd.S_alloc | apply Kd.S_drewN | apply Kd.S_drew)); exact HO_8.out) (Kd.R_typed HO_348.out) (by decide) hg); replace HO_11 := Aside0.mk (Kd.R_after (v := (.slice (some ⟨go85, 0, none⟩) x348_6.length co67)) (v1 := (.slice (some ⟨go85, 0, none⟩) x348_6.length co67)) (ok := (fun k_ => k_ ≠ gb617 ∧ k_ ≠ gb618)) (by (with_reducible repeat (first | apply Kd.R_alloc | apply Kd.R_drewN | apply Kd.R_drew)); exact Kd.R_mono HO_11.out (fun _ hk => ⟨⟨hk.2.1, hk.2.2⟩, hk.1⟩)) hg (.inl rfl)); replace BK617 := Aside0.mk (QaN (g := gb617) (o := .cells #[.int .i64 a1] 3 (0, 0)) (Zu BK617.out) hg (Kd.R_away HO_348.out (fun _ hk => hk.2.1))); replace BK618 := Aside0.mk (QaN (g := gb618) (o := .cells #[.int .i64 x619000_6] 3 (0, 0)) (Zu BK618.out) hg (Kd.R_away HO_348.out (fun _ hk => hk.2.2))); replace BK623 := Aside0.mk (QaN (g := gb623) (o := .cells #[.string ((rd_T71 l0 x31_2).f0.f0), .int .i64 ((rd_T71 l0 x31_2).f0.f1), .int .i64 ((rd_T71 l0 x31_2).f0.f2), .int .i64 ((rd_T71 l0 x31_2).f0.f3), .int .i64 ((rd_T71 l0 x31_2).f1), .int .i64 ((rd_T71 l0 x31_2).f2)] 71 (0, 0)) (Zu BK623.out) hg (Kd.R_ne HO_348.out BK623.out (by decide))); replace HO_348 := Aside0.mk (hp_); replace HB := Aside0.mk ((by rw [hw]; exact Qam (HB.out) GB85.out : Below w.heap.size w w91)); clear hg hw hp_; obtain ⟨hcz92_0, hfz92_0⟩ := Zy (v := (.int .i64 x619000_6)) BK618.out 0; have hnb93 := NB617_623.out; have hnc93 := NB623_617.out; obtain ⟨hcz94_0, hfz94_0⟩ := Zy (v := (.int .i64 a1)) BK617.out 0))
                          (try simp only [← hl348_6])
                          go_roundg k6
                          case measure => have := HJ5.out; have := HK2.out; have := HK3.out; have := HK4.out; have := HK5.out; have := HK6.out; omega
                          case rel => exact ⟨(y635), (wrap64 (x367_6 + 1)), (Int.tmod (wrap64 (x619000_6 + 1)) a1), (Zs), H', ⟨by have := HJ5.out; have := HK2.out; have := HK3.out; have := HK4.out; have := HK5.out; have := HK6.out; omega⟩, ⟨by (try simp only [hl310_3]); (try simp only [hl310_4]); (try simp only [hl348_5]); (try simp only [hl348_6]); (with_reducible repeat (first | apply Kd.S_alloc | apply Kd.S_drewN | apply Kd.S_drew)); exact Kd.S_mono (Kd.S_far (p := ⟨gb618, 0, none⟩) (Kd.S_types HO_8.out BK618.out (by decide)) (fun _ hk => hk.2) (.int .i64 (Int.tmod (wrap64 (x619000_6 + 1)) a1))) (fun _ hk => hk.1)⟩, ⟨by (try simp only [hl310_3]); (try simp only [hl310_4]); (try simp only [hl348_5]); (try simp only [hl348_6]); (with_reducible repeat (first | apply Kd.R_alloc | apply Kd.R_drewN | apply Kd.R_drew)); exact Kd.R_mono (Kd.R_far (p := ⟨gb618, 0, none⟩) (Kd.R_mono HO_11.out (fun k_ hk => (⟨hk, hk.1.2⟩ : _ ∧ k_ ≠ gb618))) (fun _ hk => hk.2) (.int .i64 (Int.tmod (wrap64 (x619000_6 + 1)) a1))) (fun _ hk => ⟨hk.1.2, ⟨hk.1.1.1, hk.1.1.2⟩⟩)⟩, ⟨by (try simp only [hl310_3]); (try simp only [hl310_4]); (try simp only [hl348_5]); (try simp only [hl348_6]); (with_reducible repeat (first | apply Kd.R_alloc | apply Kd.R_drewN | apply Kd.R_drew)); exact Kd.R_mono (Kd.R_far (p := ⟨gb618, 0, none⟩) (Kd.R_mono HO_348.out (fun k_ hk => (⟨hk, hk.2.2⟩ : _ ∧ k_ ≠ gb618))) (fun _ hk => hk.2) (.int .i64 (Int.tmod (wrap64 (x619000_6 + 1)) a1))) (fun _ hk => ⟨hk.1.1, ⟨hk.1.2.1, hk.1.2.2⟩⟩)⟩, ⟨by (try simp only [hl310_3]); (try simp only [hl310_4]); (try simp only [hl348_5]); (try simp only [hl348_6]); (with_reducible repeat (first | refine Qag ?_ _ | refine Qah ?_ | refine Qaf ?_ _)); refine QaI ?_ NB617_618.out _; (with_reducible repeat (first | refine Qag ?_ _ | refine Qah ?_ | refine Qaf ?_ _)); exact BK617.out⟩, ⟨by (try simp only [hl310_3]); (try simp only [hl310_4]); (try simp only [hl348_5]); (try simp only [hl348_6]); (with_reducible repeat (first | refine Qag ?_ _ | refine Qah ?_ | refine Qaf ?_ _)); refine QaB (cs := #[.int .i64 x619000_6]) ?_ 0 _ rfl; (with_reducible repeat (first | refine Qag ?_ _ | refine Qah ?_ | refine Qaf ?_ _)); exact BK618.out⟩, ⟨by (try simp only [hl310_3]); (try simp only [hl310_4]); (try simp only [hl348_5]); (try simp only [hl348_6]); (with_reducible repeat (first | refine Qag ?_ _ | refine Qah ?_ | refine Qaf ?_ _)); refine QaI ?_ NB623_618.out _; (with_reducible repeat (first | refine Qag ?_ _ | refine Qah ?_ | refine Qaf ?_ _)); exact BK623.out⟩, ⟨Zc3 GE617.out GE618.out GE623.out⟩⟩
                         rw [if_neg c84] at H
                         exact absurd H (by simp)
                        rw [if_neg c83] at H
                        exact absurd H (by simp)
                       rw [if_neg c82] at H
                       have c82b0 : decide (x367_6 < (Int.tmod ((rd_T71 l0 x31_2).f2) a1)) = F := decide_eq_false c82
                       clear c82
                       (try simp only [c82b0])
                       go_upto_region 13 with (fail)
                       have H' := Aside0.mk H
                       clear H
                       obtain ⟨Ao95, co95, eo95⟩ := Kd.S_slice HO_8.out
                       subst eo95
                       go_wp2
                       (try simp only [QcY])
                       go_loopg [45] k6 (fun kq v45 w' => ∃ (x8_7 : List (List (S71))) (x45_7 : Int), v45 = .int .i64 x45_7 ∧ Aside0 (Qak.l1 kq x8_7 x310_4 x348_6 l0 (l0.length : Int) x31_2 (x8_2.length : Int) x45_7 a1 x619000_6 ((rd_T71 l0 x31_2).f0.f0) ((rd_T71 l0 x31_2).f0.f1) ((rd_T71 l0 x31_2).f0.f2) ((rd_T71 l0 x31_2).f0.f3) ((rd_T71 l0 x31_2).f1) ((rd_T71 l0 x31_2).f2) = some (r1, r2)) ∧ Aside0 (kq ≤ k6) ∧ Aside0 (Kd.S (Kd.slice 71 k71) 22 w' w.heap.size (fun k_ => k_ ≠ gb623) (.slice Ao95 x8_2.length co95) x8_7) ∧ Aside0 (Kd.R (Kd.int .i64) 3 w' w.heap.size (fun k_ => some k_ ≠ ((.slice Ao67 x348_6.length co67) : Value).ownBlock ∧ k_ ≠ gb617 ∧ k_ ≠ gb618) (.slice Ao30 x310_4.length co30) x310_4) ∧ Aside0 (Kd.R (Kd.int .i64) 3 w' w.heap.size (fun k_ => some k_ ≠ ((.slice Ao30 x310_4.length co30) : Value).ownBlock ∧ k_ ≠ gb617 ∧ k_ ≠ gb618) (.slice Ao67 x348_6.length co67) x348_6) ∧ Aside0 (w'.heap[gb617]? = some (.cells #[.int .i64 a1] 3 (0, 0))) ∧ Aside0 (w'.heap[gb618]? = some (.cells #[.int .i64 x619000_6] 3 (0, 0))) ∧ Aside0 (w'.heap[gb623]? = some (.cells #[.string ((rd_T71 l0 x31_2).f0.f0), .int .i64 ((rd_T71 l0 x31_2).f0.f1), .int .i64 ((rd_T71 l0 x31_2).f0.f2), .int .i64 ((rd_T71 l0 x31_2).f0.f3), .int .i64 ((rd_T71 l0 x31_2).f1), .int .i64 ((rd_T71 l0 x31_2).f2)] 71 (0, 0))) ∧ Aside0 (Below w.heap.size w w'))
                       case atStart => exact ⟨(x8_2), (0), (Zs), H', ⟨Nat.le_refl _⟩, ⟨by (try simp only [hl310_3]); (try simp only [hl310_4]); (try simp only [hl348_5]); (try simp only [hl348_6]); (with_reducible repeat (first | apply Kd.S_alloc | apply Kd.S_drewN | apply Kd.S_drew)); exact HO_8.out⟩, ⟨by (try simp only [hl310_3]); (try simp only [hl310_4]); (try simp only [hl348_5]); (try simp only [hl348_6]); (with_reducible repeat (first | apply Kd.R_alloc | apply Kd.R_drewN | apply Kd.R_drew)); exact HO_11.out⟩, ⟨by (try simp only [hl310_3]); (try simp only [hl310_4]); (try simp only [hl348_5]); (try simp only [hl348_6]); (with_reducible repeat (first | apply Kd.R_alloc | apply Kd.R_drewN | apply Kd.R_drew)); exact HO_348.out⟩, ⟨by (try simp only [hl310_3]); (try simp only [hl310_4]); (try simp only [hl348_5]); (try simp only [hl348_6]); (with_reducible repeat (first | refine Qag ?_ _ | refine Qah ?_ | refine Qaf ?_ _)); exact BK617.out⟩, ⟨by (try simp only [hl310_3]); (try simp only [hl310_4]); (try simp only [hl348_5]); (try simp only [hl348_6]); (with_reducible repeat (first | refine Qag ?_ _ | refine Qah ?_ | refine Qaf ?_ _)); exact BK618.out⟩, ⟨by (try simp only [hl310_3]); (try simp only [hl310_4]); (try simp only [hl348_5]); (try simp only [hl348_6]); (with_reducible repeat (first | refine Qag ?_ _ | refine Qah ?_ | refine Qaf ?_ _)); exact BK623.out⟩, ⟨Zc3 GE617.out GE618.out GE623.out⟩⟩
                       case round =>
                        clear H'
                        try clear c1
                        try clear c2
                        try clear p2
                        try clear c3
                        try clear p3
                        try clear q3
                        try clear hx3
                        try clear hf3
                        try clear c4
                        try clear p4
                        try clear q4
                        try clear hx4
                        try clear hf4
                        try clear c5
                        try clear c5b0
                        try clear c5b1
                        try clear c6
                        try clear p6
                        try clear q6
                        try clear hx6
                        try clear c7
                        try clear c7b0
                        try clear p7
                        try clear q7
                        try clear hx7
                        try clear hf7
                        try clear c8
                        try clear p8
                        try clear q8
                        try clear hx8
                        try clear hf8
                        try clear c9
                        try clear c11
                        try clear c13
                        try clear c13b0
                        try clear c13b1
                        try clear c14
                        try clear c14b0
                        try clear c14b1
                        try clear c17
                        try clear c17b0
                        try clear c18
                        try clear c18b0
                        try clear c19
                        try clear c19b0
                        try clear c20
                        try clear c20b0
                        try clear c20b1
                        try clear c21
                        try clear c21b0
                        try clear c21b1
                        try clear c23
                        try clear c24
                        try clear c26
                        try clear c31
                        try clear c31b0
                        try clear c32
                        try clear c32b0
                        try clear c32b1
                        try clear c33
                        try clear c33b0
                        try clear c34
                        try clear c34b0
                        try clear p35
                        try clear q35
                        try clear hx35
                        try clear hf35
                        try clear c36
                        try clear c37
                        try clear c41
                        try clear c41b0
                        try clear c41b1
                        try clear c42
                        try clear c43
                        try clear c45
                        try clear c45b0
                        try clear c46
                        try clear c46b0
                        try clear c47
                        try clear c47b0
                        try clear p48
                        try clear q48
                        try clear hx48
                        try clear hf48
                        try clear c49
                        try clear c49b0
                        try clear c49b1
                        try clear c50
                        try clear c51
                        try clear c56
                        try clear c58
                        try clear c58b0
                        try clear c58b1
                        try clear c59
                        try clear c59b0
                        try clear c59b1
                        try clear c60
                        try clear c61
                        try clear p62
                        try clear q62
                        try clear hx62
                        try clear c63
                        try clear p63
                        try clear q63
                        try clear hx63
                        try clear p64
                        try clear c68
                        try clear c68b0
                        try clear c69
                        try clear c69b0
                        try clear c69b1
                        try clear c70
                        try clear c70b0
                        try clear c71
                        try clear c71b0
                        try clear p72
                        try clear q72
                        try clear hx72
                        try clear hf72
                        try clear c73
                        try clear c74
                        try clear c78
                        try clear c78b0
                        try clear c78b1
                        try clear c79
                        try clear c80
                        try clear c82
                        try clear c82b0
                        try clear c83
                        try clear c83b0
                        try clear c84
                        try clear c84b0
                        try clear p85
                        try clear q85
                        try clear hx85
                        try clear hf85
                        try clear c86
                        try clear c86b0
                        try clear c86b1
                        try clear c87
                        try clear c88
                        try clear c93
                        try clear hcz12_0
                        try clear hcz25_0
                        try clear hcz25_1
                        try clear hcz25_2
                        try clear hcz25_3
                        try clear hcz25_4
                        try clear hcz25_5
                        try clear hcz27_0
                        try clear hcz38_0
                        try clear hcz44_0
                        try clear hcz52_0
                        try clear hcz55_0
                        try clear hcz57_0
                        try clear hcz62_0
                        try clear hcz62_1
                        try clear hcz62_2
                        try clear hcz62_3
                        try clear hcz62_4
                        try clear hcz62_5
                        try clear hcz64_0
                        try clear hcz75_0
                        try clear hcz81_0
                        try clear hcz89_0
                        try clear hcz92_0
                        try clear hcz94_0
                        try clear hfz12_0
                        try clear hfz25_0
                        try clear hfz25_1
                        try clear hfz25_2
                        try clear hfz25_3
                        try clear hfz25_4
                        try clear hfz25_5
                        try clear hfz27_0
                        try clear hfz38_0
                        try clear hfz44_0
                        try clear hfz52_0
                        try clear hfz55_0
                        try clear hfz57_0
                        try clear hfz62_0
                        try clear hfz62_1
                        try clear hfz62_2
                        try clear hfz62_3
                        try clear hfz62_4
                        try clear hfz62_5
                        try clear hfz64_0
                        try clear hfz75_0
                        try clear hfz81_0
                        try clear hfz89_0
                        try clear hfz92_0
                        try clear hfz94_0
                        try clear hx35_0
                        try clear hx48_0
                        try clear hx622_0
                        try clear hx622_1
                        try clear hx622_2
                        try clear hx622_3
                        try clear hx622_4
                        try clear hx622_5
                        try clear hx628_0
                        try clear hx634_0
                        try clear hx72_0
                        try clear hx85_0
                        try clear p2
                        try clear p3
                        try clear p35
                        try clear p4
                        try clear p48
                        try clear p6
                        try clear p62
                        try clear p622
                        try clear p628
                        try clear p634
                        try clear p64
                        try clear p7
                        try clear p72
                        try clear p85
                        try clear q3
                        try clear q35
                        try clear q4
                        try clear q48
                        try clear q6
                        try clear q62
                        try clear q622
                        try clear q628
                        try clear q634
                        try clear q7
                        try clear q72
                        try clear q85
                        obtain ⟨x8_7, x45_7, rfl, HA, HK7, HO_8, HO_11, HO_12, BK617, BK618, BK623, HB⟩ := hrel
                        have hl8_7 := (Kd.S_reads' HO_8.out).1
                        rw [hl8_7] at HO_8
                        (try simp only [hl8_7])
                        (try simp only [hl8_7] at BK617)
                        (try simp only [hl8_7] at BK618)
                        (try simp only [hl8_7] at BK623)
                        (try simp only [hl8_7] at HO_11)
                        (try simp only [hl8_7] at HO_12)
                        cases gk with
                        | zero => exact absurd HA.out (by simp [Qak.l1])
                        | succ k7 =>
                         have H := HA.out
                         clear HA
                         simp only [Qak.l1] at H
                         by_cases c96 : x45_7 < (x8_2.length : Int)
                         ·rw [if_pos c96] at H
                          have c96b0 : decide (x45_7 < (x8_2.length : Int)) = T := decide_eq_true c96
                          have c96x : decide (x45_7 < (x8_7.length : Int)) = T := by rw [← hl8_7]; exact c96b0
                          clear c96
                          (try simp only [c96b0])
                          by_cases c97 : 0 ≤ x45_7
                          ·rw [if_pos c97] at H
                           have c97b0 : decide (0 ≤ x45_7) = T := decide_eq_true c97
                           clear c97
                           by_cases c98 : x45_7 < (x310_4.length : Int)
                           ·rw [if_pos c98] at H
                            have c98b0 : decide (x45_7 < (x310_4.length : Int)) = T := decide_eq_true c98
                            clear c98
                            by_cases c99 : (rd x310_4 x45_7) > 0
                            ·rw [if_pos c99] at H
                             have c99b0 : decide (0 < (rd x310_4 x45_7)) = T := decide_eq_true c99
                             clear c99
                             by_cases c100 : x45_7 < (x8_7.length : Int)
                             ·rw [if_pos c100] at H
                              have c100b0 : decide (x45_7 < (x8_7.length : Int)) = T := decide_eq_true c100
                              clear c100
                              by_cases c101 : x45_7 < (x348_6.length : Int)
                              ·rw [if_pos c101] at H
                               have c101b0 : decide (x45_7 < (x348_6.length : Int)) = T := decide_eq_true c101
                               clear c101
                               by_cases c102 : (rd_L7 x8_7 x45_7).length < 2513169434916
                               ·rw [if_pos c102] at H
                                have LMc102 := Aside0.mk c102
                                clear c102
                                obtain ⟨y640, hy640⟩ : ∃ y_ : List (S71), y_ = ((rd_L7 x8_7 x45_7) ++ [(⟨(⟨((rd_T71 l0 x31_2).f0.f0), ((rd_T71 l0 x31_2).f0.f1), ((rd_T71 l0 x31_2).f0.f2), ((rd_T71 l0 x31_2).f0.f3)⟩ : S69), rd x310_4 x45_7, rd x348_6 x45_7⟩ : S71)]) := ⟨_, rfl⟩
                                replace H : (Qak.l1 k7 (x8_7.set (x45_7 : Int).toNat y640) x310_4 x348_6 l0 (l0.length : Int) x31_2 (x8_2.length : Int) (wrap64 (x45_7 + 1)) a1 x619000_6 ((rd_T71 l0 x31_2).f0.f0) ((rd_T71 l0 x31_2).f0.f1) ((rd_T71 l0 x31_2).f0.f2) ((rd_T71 l0 x31_2).f0.f3) ((rd_T71 l0 x31_2).f1) ((rd_T71 l0 x31_2).f2)) = some (r1, r2) := by first | (rw [hy640]; with_reducible exact H) | (have H2_ := (Option.bind_some _ _).symm.trans H; rw [hy640]; with_reducible exact H2_) | (have H2_ := (Option.bind_some _ _).symm.trans H; with_reducible exact H2_) | with_reducible exact H | (rw [hy640]; exact H) | exact H
                                have Ny640 := Aside0.mk hy640
                                clear hy640
                                obtain ⟨y643, hy643⟩ : ∃ y_ : List (List (S71)), y_ = (x8_7.set (x45_7 : Int).toNat y640) := ⟨_, rfl⟩
                                replace H : (Qak.l1 k7 y643 x310_4 x348_6 l0 (l0.length : Int) x31_2 (x8_2.length : Int) (wrap64 (x45_7 + 1)) a1 x619000_6 ((rd_T71 l0 x31_2).f0.f0) ((rd_T71 l0 x31_2).f0.f1) ((rd_T71 l0 x31_2).f0.f2) ((rd_T71 l0 x31_2).f0.f3) ((rd_T71 l0 x31_2).f1) ((rd_T71 l0 x31_2).f2)) = some (r1, r2) := by first | (rw [hy643]; with_reducible exact H) | (have H2_ := (Option.bind_some _ _).symm.trans H; rw [hy643]; with_reducible exact H2_) | (have H2_ := (Option.bind_some _ _).symm.trans H; with_reducible exact H2_) | with_reducible exact H | (rw [hy643]; exact H) | exact H
                                have Ny643 := Aside0.mk hy643
                                clear hy643
                                have H' := Aside0.mk H
                                clear H
                                have p636 : 0 ≤ (x45_7 : Int) := Ze
                                have q636 : x45_7 < (x310_4.length : Int) := Ze
                                obtain ⟨ad636, e636, hx636_0⟩ := Kd.at_int (Kd.R_reads' HO_11.out).2.2 x45_7 p636 q636
                                cases e636
                                replace p636 := eq_true p636
                                replace q636 := eq_true q636
                                try go_wp2
                                replace HO_8 := Aside0.mk (Kd.S_drew HO_8.out)
                                replace HO_11 := Aside0.mk (Kd.R_drew HO_11.out)
                                replace HO_12 := Aside0.mk (Kd.R_drew HO_12.out)
                                replace BK617 := Aside0.mk (Qah BK617.out)
                                replace BK618 := Aside0.mk (Qah BK618.out)
                                replace BK623 := Aside0.mk (Qah BK623.out)
                                replace HB := Aside0.mk (Qad HB.out)
                                have p637 : 0 ≤ (x45_7 : Int) := Ze
                                have q637 : x45_7 < (x8_7.length : Int) := Ze
                                obtain ⟨ad637, A637_0, c637_0, e637, hx637_0, hl637_0, hi637_0⟩ := at_L7 (Kd.S_reads' HO_8.out).2.2 x45_7 p637 q637
                                cases e637
                                obtain ⟨ce637, hce637, hMe637, hcc637⟩ := Kd.S_get HO_8.out [] x45_7 p637 (by first | exact q637 | exact Ze | (have e_ := (Kd.S_reads' HO_8.out).1; omega))
                                obtain ⟨ve637_0, rfl, ge637_0⟩ := hMe637
                                have hv637_0 := hcc637 0 _ rfl
                                rw [Nat.add_zero, show ((Kd.slice 71 k71)).sz = 1 from rfl, Nat.mul_one] at hv637_0
                                replace hv637_0 := Option.some.inj (hv637_0.symm.trans hx637_0)
                                rw [hv637_0] at ge637_0
                                have HL637_0 := Aside0.mk (show Kd.R k71 71 _ _ _ _ (rd_L7 x8_7 x45_7) from ge637_0)
                                clear hv637_0 ge637_0
                                have HX637_0 := Aside0.mk hx637_0
                                clear hcc637 hce637
                                have HR637_0 := Aside0.mk hi637_0
                                have HC637_0 := Aside0.mk hl637_0
                                clear hi637_0 hl637_0
                                replace p637 := eq_true p637
                                replace q637 := eq_true q637
                                have p638 : 0 ≤ (x45_7 : Int) := Ze
                                have q638 : x45_7 < (x310_4.length : Int) := Ze
                                obtain ⟨ad638, e638, hx638_0⟩ := Kd.at_int (Kd.R_reads' HO_11.out).2.2 x45_7 p638 q638
                                obtain rfl : ad636 = ad638 := (by injection e638)
                                replace p638 := eq_true p638
                                replace q638 := eq_true q638
                                have p639 : 0 ≤ (x45_7 : Int) := Ze
                                have q639 : x45_7 < (x348_6.length : Int) := Ze
                                obtain ⟨ad639, e639, hx639_0⟩ := Kd.at_int (Kd.R_reads' HO_12.out).2.2 x45_7 p639 q639
                                cases e639
                                replace p639 := eq_true p639
                                replace q639 := eq_true q639
                                obtain ⟨go105, co105, eo105, gb105, gl105, cl105, HG105⟩ := Kd.S_form HO_8.out (by have h_ : (x45_7 : Int) < ((x8_7.length : Int) : Int) := Ze; have h2_ : 0 ≤ (x45_7 : Int) := (Ze); omega)
                                (first | cases eo105 | (injection eo105 with ea_ en_ ec_; (first | subst ea_ | (injection ea_ with ea_; subst ea_)); subst ec_; clear en_))
                                have GB105 := Aside0.mk gb105
                                have GG105 := Aside0.mk HG105
                                clear gb105 gl105 HG105
                                (first | simp only [QaT] at hx637_0 | skip)
                                obtain ⟨oki105, ce105, hcl105, hM105, hcc105, _, _, hH105⟩ := Kd.S_elem HO_8.out [] (x45_7 : Int) (Ze) (by have h_ : (x45_7 : Int) < ((x8_7.length : Int) : Int) := Ze; first | exact h_ | (have e_ := (Kd.S_reads' HO_8.out).1; omega) | simpa using h_)
                                obtain ⟨ve105_0, rfl, ge105_0⟩ := hM105
                                have hv105 := hcc105 0 _ rfl
                                have hX105 := HX637_0.out
                                (try simp only [QaT] at hX105)
                                (try simp only [Nat.add_zero] at hv105)
                                (try rw [show ((Kd.slice 71 k71)).sz = 1 from rfl, Nat.mul_one] at hv105)
                                replace hv105 := Option.some.inj (hv105.symm.trans hX105)
                                subst hv105
                                clear hX105 hcc105 hcl105
                                have UU105 := Aside0.mk (show Kd.R k71 71 _ w.heap.size oki105 (.slice A637_0 (rd_L7 x8_7 x45_7).length c637_0) (rd_L7 x8_7 x45_7) from ge105_0)
                                have HH105 := Aside0.mk hH105
                                have HN105 := Aside0.mk (Kd.S_reads' HO_8.out).1
                                clear hH105 ge105_0
                                refine start_ (n := 21) (S := fun w' => w'.cell? ⟨gb623, 0, none⟩ = some (.string ((rd_T71 l0 x31_2).f0.f0)) ∧ w'.cell? ⟨gb623, 1, none⟩ = some (.int .i64 ((rd_T71 l0 x31_2).f0.f1)) ∧ w'.cell? ⟨gb623, 2, none⟩ = some (.int .i64 ((rd_T71 l0 x31_2).f0.f2)) ∧ w'.cell? ⟨gb623, 3, none⟩ = some (.int .i64 ((rd_T71 l0 x31_2).f0.f3)) ∧ w'.cell? ⟨gb623, 4, none⟩ = some (.int .i64 ((rd_T71 l0 x31_2).f1)) ∧ w'.cell? ⟨gb623, 5, none⟩ = some (.int .i64 ((rd_T71 l0 x31_2).f2)) ∧ w'.cell? ⟨go105, (x45_7).toNat, none⟩ = some (.slice A637_0 (rd_L7 x8_7 x45_7).length c637_0) ∧ w'.cell? (ad636.add (x45_7).toNat) = some (.int .i64 (rd x310_4 x45_7)) ∧ w'.cell? (ad639.add (x45_7).toNat) = some (.int .i64 (rd x348_6 x45_7))) (ds := [18, 20]) #[F, F, F, F, F, F, F, F, F, F, F, F, F, F, F, F, F, F, F, F, F] (by kernel_rfl) rfl rfl ⟨(Qae BK623.out 0).trans rfl, (Qae BK623.out 1).trans rfl, (Qae BK623.out 2).trans rfl, (Qae BK623.out 3).trans rfl, (Qae BK623.out 4).trans rfl, (Qae BK623.out 5).trans rfl, hx637_0, hx638_0, hx639_0⟩ (fun hHeld => ?_); refine Qa3 Qak.tab17 Qak.bits17 (fun HT_ HW_ => ?_)
                                generalize wr.drew = w104 at HO_8 HO_11 HO_12 BK617 BK618 BK623 HB GG105 HH105 HL637_0 HR637_0 HX637_0 UU105 hx637_0 hx638_0 hx639_0 hHeld ⊢
                                refine Zsp (i := 0) (N := some 60) (pm 21 1) HT_ ?_
                                refine Zsp (i := 1) (N := some 61) (pm 21 2) HT_ ?_
                                refine Zsp (i := 2) (N := some 62) (pm 21 3) HT_ ?_
                                refine Zsp (i := 3) (N := some 63) (pm 21 4) HT_ ?_
                                refine Zsp (i := 4) (N := some 64) (pm 21 5) HT_ ?_
                                refine Zsp (i := 6) (N := some 66) #[T, T, T, T, T, F, T, F, F, F, F, F, F, F, F, F, F, F, F, F, F] HT_ ?_
                                refine Zsp (i := 8) (N := some 68) #[T, T, T, T, T, F, T, F, T, F, F, F, F, F, F, F, F, F, F, F, F] HT_ ?_
                                refine Zsp (i := 9) (N := some 69) #[T, T, T, T, T, F, T, F, T, T, F, F, F, F, F, F, F, F, F, F, F] HT_ ?_
                                refine Zsp (i := 10) (N := some 70) #[T, T, T, T, T, F, T, F, T, T, T, F, F, F, F, F, F, F, F, F, F] HT_ ?_
                                refine Zsp (i := 12) (N := some 72) #[T, T, T, T, T, F, T, F, T, T, T, F, T, F, F, F, F, F, F, F, F] HT_ ?_
                                refine Zsp (i := 13) (N := some 73) #[T, T, T, T, T, F, T, F, T, T, T, F, T, T, F, F, F, F, F, F, F] HT_ ?_
                                refine Zsp (i := 14) (N := some 74) #[T, T, T, T, T, F, T, F, T, T, T, F, T, T, T, F, F, F, F, F, F] HT_ ?_
                                refine Zst (i := 5) (N := some 65) #[T, T, T, T, T, T, T, F, T, T, T, F, T, T, T, F, F, F, F, F, F] HT_ HW_ hHeld ?_ (hy := by (refine Or.inl ⟨by rfl, ?_⟩; rintro w' ⟨s0, s1, s2, s3, s4, s5, s6, s7, s8⟩; go_simp; with_reducible rfl))
                                refine Zst (i := 7) (N := some 67) #[T, T, T, T, T, T, T, T, T, T, T, F, T, T, T, F, F, F, F, F, F] HT_ HW_ hHeld ?_ (hy := by (refine Or.inl ⟨by rfl, ?_⟩; rintro w' ⟨s0, s1, s2, s3, s4, s5, s6, s7, s8⟩; go_simp; with_reducible rfl))
                                refine Zst (i := 11) (N := some 71) (pm 21 15) HT_ HW_ hHeld ?_ (hy := by (refine Or.inl ⟨by rfl, ?_⟩; rintro w' ⟨s0, s1, s2, s3, s4, s5, s6, s7, s8⟩; go_simp; with_reducible rfl))
                                refine Zst (i := 15) (N := some 75) (pm 21 16) HT_ HW_ hHeld ?_ (hy := by (refine Or.inl ⟨by rfl, ?_⟩; rintro w' ⟨s0, s1, s2, s3, s4, s5, s6, s7, s8⟩; go_simp; with_reducible rfl))
                                refine Zsp (i := 16) (N := some 76) (pm 21 17) HT_ ?_
                                refine one_ (i := 17) (N := some 77) #[T, T, T, T, T, T, T, T, T, T, T, T, T, T, T, T, T, T, F, F, F] rfl rfl (one_of HT_.out (by kernel_rfl)) (by decide) (fun K hK => ?_)
                                refine value_ (w1 := ?_) (v := ?_) (by rfl) rfl ?_ ?_
                                rotate_left 2
                                ·go_simp
                                 constructor
                                 ·rfl
                                 rfl
                                refine hK.out _ _ ⟨(Qae (Qaf BK623.out _) 0).trans rfl, (Qae (Qaf BK623.out _) 1).trans rfl, (Qae (Qaf BK623.out _) 2).trans rfl, (Qae (Qaf BK623.out _) 3).trans rfl, (Qae (Qaf BK623.out _) 4).trans rfl, (Qae (Qaf BK623.out _) 5).trans rfl, (World.cell?_alloc_lt _ _ _ (World.block_lt_of_cell? _ _ (hHeld.2.2.2.2.2.2.1))).trans (hHeld.2.2.2.2.2.2.1), (World.cell?_alloc_lt _ _ _ (World.block_lt_of_cell? _ _ (hHeld.2.2.2.2.2.2.2.1))).trans (hHeld.2.2.2.2.2.2.2.1), (World.cell?_alloc_lt _ _ _ (World.block_lt_of_cell? _ _ (hHeld.2.2.2.2.2.2.2.2))).trans (hHeld.2.2.2.2.2.2.2.2)⟩ (fun hHeld => ?_)
                                clear hK K
                                refine norm_ (a' := ?_) ?_ ?_
                                rotate_left
                                ·show Act.put _ (some 77) _ = _
                                 simp only [Act.put, Zj, Zk, Zm, i64_w, i32_w]
                                 rfl
                                refine last_ (i := 18) (N := some 78) #[T, T, T, T, T, T, T, T, T, T, T, T, T, T, T, T, T, T, T, F, F] rfl rfl (one_of HT_.out (by kernel_rfl)) (by decide) (fun K hK => ?_)
                                refine Kd.R_append_step k71 (w0 := w) w.heap.size (by rfl) (.tmp 65) (.tmp 77) 22 71 (.agg #[(.string ⟨#[]⟩), (.int .i64 0), (.int .i64 0), (.int .i64 0), (.int .i64 0), (.int .i64 0)]) 56 rfl Try.underlying22 info71 rfl (by decide) (by omega) (.slice A637_0 (rd_L7 x8_7 x45_7).length c637_0) (rd_L7 x8_7 x45_7) (⟨(⟨((rd_T71 l0 x31_2).f0.f0), ((rd_T71 l0 x31_2).f0.f1), ((rd_T71 l0 x31_2).f0.f2), ((rd_T71 l0 x31_2).f0.f3)⟩ : S69), rd x310_4 x45_7, rd x348_6 x45_7⟩ : S71) [.string ((rd_T71 l0 x31_2).f0.f0), .int .i64 ((rd_T71 l0 x31_2).f0.f1), .int .i64 ((rd_T71 l0 x31_2).f0.f2), .int .i64 ((rd_T71 l0 x31_2).f0.f3), .int .i64 (rd x310_4 x45_7), .int .i64 (rd x348_6 x45_7)] (fun k_ => oki105 k_ ∨ ((fun k_ => k_ ≠ gb623)) k_ ∧ w104.heap.size ≤ k_) (fun _ => False) rfl rfl ?aP (fun _ hk => hk.elim) ?aF ?aO ?aB ?aS ?aL ?_
                                (case aP => exact Qbx _ _ _ (⟨(⟨((rd_T71 l0 x31_2).f0.f0), ((rd_T71 l0 x31_2).f0.f1), ((rd_T71 l0 x31_2).f0.f2), ((rd_T71 l0 x31_2).f0.f3)⟩ : S69), rd x310_4 x45_7, rd x348_6 x45_7⟩ : S71))
                                (case aB => exact (Zc3 GE617.out GE618.out GE623.out))
                                (case aF => exact (fun k_ hk => .inr ⟨Kd.freshB (g := gb623) (o := .cells #[.string ((rd_T71 l0 x31_2).f0.f0), .int .i64 ((rd_T71 l0 x31_2).f0.f1), .int .i64 ((rd_T71 l0 x31_2).f0.f2), .int .i64 ((rd_T71 l0 x31_2).f0.f3), .int .i64 ((rd_T71 l0 x31_2).f1), .int .i64 ((rd_T71 l0 x31_2).f2)] 71 (0, 0)) (Zu BK623.out) k_ hk, hk⟩))
                                (case aO => exact (by (with_reducible repeat (first | apply Kd.R_alloc | apply Kd.R_drewN | apply Kd.R_drew)); exact Kd.R_mono UU105.out (fun _ hk => .inl hk)))
                                (case aS => exact (Qau (Zc3 GE617.out GE618.out GE623.out)))
                                (case aL => have := LMc102.out; omega)
                                intro v641 w106 ho hb hg hat
                                rw [← Ny640.out] at ho
                                have HO642 := Aside0.mk (ho)
                                replace HO_11 := Aside0.mk (Kd.R_over' (v := (.slice A637_0 (rd_L7 x8_7 x45_7).length c637_0)) (Zr HO_11.out) (Kd.R_typed HL637_0.out) (by decide) hg)
                                replace HO_12 := Aside0.mk (Kd.R_over' (v := (.slice A637_0 (rd_L7 x8_7 x45_7).length c637_0)) (Zr HO_12.out) (Kd.R_typed HL637_0.out) (by decide) hg)
                                replace BK617 := Aside0.mk (QaN (g := gb617) (o := .cells #[.int .i64 a1] 3 (0, 0)) (Zu BK617.out) hg (Kd.R_ne HL637_0.out BK617.out (by decide)))
                                replace BK618 := Aside0.mk (QaN (g := gb618) (o := .cells #[.int .i64 x619000_6] 3 (0, 0)) (Zu BK618.out) hg (Kd.R_ne HL637_0.out BK618.out (by decide)))
                                replace BK623 := Aside0.mk (QaN (g := gb623) (o := .cells #[.string ((rd_T71 l0 x31_2).f0.f0), .int .i64 ((rd_T71 l0 x31_2).f0.f1), .int .i64 ((rd_T71 l0 x31_2).f0.f2), .int .i64 ((rd_T71 l0 x31_2).f0.f3), .int .i64 ((rd_T71 l0 x31_2).f1), .int .i64 ((rd_T71 l0 x31_2).f2)] 71 (0, 0)) (Zu BK623.out) hg (Kd.R_away HL637_0.out (fun _ hk => hk.1)))
                                replace HB := Aside0.mk (hb)
                                replace HH105 := Aside0.mk (Kd.H_grown (Kd.H_widen (by repeat (first | exact HH105.out | refine Kd.H_alloc ?_ _ | refine Kd.H_drewN ?_ _ | refine Kd.H_drew ?_))) hg (fun k_ e_ => .inl (UU105.out.1 k_ e_)))
                                clear HO_8 UU105 HL637_0
                                clear ho hb hg hat
                                have p103 : 0 ≤ (x45_7 : Int) := Ze
                                have q103 : (x45_7 : Int) < ((x8_7.length : Int) : Int) := Ze
                                replace p103 := eq_true p103
                                replace q103 := eq_true q103
                                obtain ⟨Ao109, co109, eo109⟩ := Kd.R_slice HO642.out
                                (first | subst eo109 | (injection eo109 with f1_ f2_ f3_; have f4_ := f1_.symm; have f5_ := f3_.symm; clear f1_ f2_ f3_; subst f4_; subst f5_))
                                obtain ⟨_, _, hraw107, _, _, hcc107, _⟩ := Kd.H_raw HH105.out (Ze) (by have h_ : (x45_7 : Int) < ((x8_7.length : Int) : Int) := Ze; first | exact h_ | (have e_ := (HN105.out); omega) | simpa using h_)
                                obtain ⟨_, hfr107⟩ := Kd.H_at HH105.out (Ze) (by have h_ : (x45_7 : Int) < ((x8_7.length : Int) : Int) := Ze; first | exact h_ | (have e_ := (HN105.out); omega) | simpa using h_)
                                have hx107_0 := hcc107 0 _ rfl
                                have hf107_0 := hfr107 0
                                (try simp only [Nat.add_zero] at hx107_0 hf107_0)
                                (try rw [show ((Kd.slice 71 k71)).sz = 1 from rfl, Nat.mul_one] at hx107_0)
                                (try rw [show ((Kd.slice 71 k71)).sz = 1 from rfl, Nat.mul_one] at hf107_0)
                                have HP107 := Kd.S_seg0 HH105.out (Ze) (by have h_ : (x45_7 : Int) < ((x8_7.length : Int) : Int) := Ze; first | exact h_ | (have e_ := (HN105.out); omega) | simpa using h_) (seg := [.slice Ao109 y640.length co109]) (j := 0) (show 1 ≤ 1 from by decide) (x' := y640) (Kd.M_row HO642.out) (fun _ hk => hk)
                                (try simp only [show ((Kd.slice 71 k71)).sz = 1 from rfl, Nat.mul_one, Nat.add_zero] at HP107)
                                clear hcc107 hfr107
                                have HNB617_go105 := Aside0.mk (show gb617 ≠ go105 from by have h_ := Kd.R_ne hraw107 BK617.out (by decide); intro e_; exact h_ (by rw [e_]; rfl))
                                have HNB618_go105 := Aside0.mk (show gb618 ≠ go105 from by have h_ := Kd.R_ne hraw107 BK618.out (by decide); intro e_; exact h_ (by rw [e_]; rfl))
                                have HNB623_go105 := Aside0.mk (show gb623 ≠ go105 from by have h_ := Kd.R_ne hraw107 BK623.out (by decide); intro e_; exact h_ (by rw [e_]; rfl))
                                have HS107 := HP107.1
                                rw [← Ny643.out] at HS107
                                have HQ107 := Aside0.mk HS107
                                obtain ⟨_, hgg107⟩ := Kd.R_typed hraw107 go105 rfl
                                have GG107_ := Aside0.mk hgg107
                                clear HP107 HS107 hgg107
                                refine hK.out _ _ ?_
                                clear hK K
                                refine norm_ (a' := ?_) ?_ ?_
                                rotate_left
                                ·show Act.put _ (some 78) _ = _
                                 simp only [Act.put, Zj, Zk, Zm, i64_w, i32_w]
                                 rfl
                                refine Zsp (i := 19) (N := some 79) (pm 21 20) HT_ ?_
                                refine last_ (i := 20) (N := none) #[T, T, T, T, T, T, T, T, T, T, T, T, T, T, T, T, T, T, T, T, T] rfl rfl (one_of HT_.out (by kernel_rfl)) (by decide) (fun K hK => ?_)
                                refine skip_ (w1 := ?_) (by rfl) rfl ?_ ?_
                                rotate_left
                                ·go_simp
                                 rfl
                                refine hK.out _ _ ?_
                                clear hK K
                                refine done_ (Qbc HT_.out (by kernel_rfl)) ?_
                                try go_wp2
                                (try simp only [← hl8_7])
                                go_roundg k7
                                case measure => have := HJ5.out; have := HK2.out; have := HK3.out; have := HK4.out; have := HK5.out; have := HK6.out; have := HK7.out; omega
                                case rel => exact ⟨(y643), (wrap64 (x45_7 + 1)), (Zs), H', ⟨by have := HJ5.out; have := HK2.out; have := HK3.out; have := HK4.out; have := HK5.out; have := HK6.out; have := HK7.out; omega⟩, ⟨by (try simp only [hl310_3]); (try simp only [hl310_4]); (try simp only [hl348_5]); (try simp only [hl348_6]); (try simp only [hl8_7]); (with_reducible repeat (first | apply Kd.S_alloc | apply Kd.S_drewN | apply Kd.S_drew)); exact HQ107.out⟩, ⟨by (try simp only [hl310_3]); (try simp only [hl310_4]); (try simp only [hl348_5]); (try simp only [hl348_6]); (try simp only [hl8_7]); (with_reducible repeat (first | apply Kd.R_alloc | apply Kd.R_drewN | apply Kd.R_drew)); exact Kd.R_mono (Kd.R_far (p := ⟨go105, (x45_7 : Int).toNat, none⟩) (Kd.R_types HO_11.out GG107_.out (by decide)) (fun _ hk => hk.2) (.slice Ao109 y640.length co109)) (fun _ hk => ⟨hk.1.1, ⟨hk.1.2.1, hk.1.2.2⟩⟩)⟩, ⟨by (try simp only [hl310_3]); (try simp only [hl310_4]); (try simp only [hl348_5]); (try simp only [hl348_6]); (try simp only [hl8_7]); (with_reducible repeat (first | apply Kd.R_alloc | apply Kd.R_drewN | apply Kd.R_drew)); exact Kd.R_mono (Kd.R_far (p := ⟨go105, (x45_7 : Int).toNat, none⟩) (Kd.R_types HO_12.out GG107_.out (by decide)) (fun _ hk => hk.2) (.slice Ao109 y640.length co109)) (fun _ hk => ⟨hk.1.1, ⟨hk.1.2.1, hk.1.2.2⟩⟩)⟩, ⟨by (try simp only [hl310_3]); (try simp only [hl310_4]); (try simp only [hl348_5]); (try simp only [hl348_6]); (try simp only [hl8_7]); (with_reducible repeat (first | refine Qag ?_ _ | refine Qah ?_ | refine Qaf ?_ _)); refine QaI ?_ HNB617_go105.out _; (with_reducible repeat (first | refine Qag ?_ _ | refine Qah ?_ | refine Qaf ?_ _)); exact BK617.out⟩, ⟨by (try simp only [hl310_3]); (try simp only [hl310_4]); (try simp only [hl348_5]); (try simp only [hl348_6]); (try simp only [hl8_7]); (with_reducible repeat (first | refine Qag ?_ _ | refine Qah ?_ | refine Qaf ?_ _)); refine QaI ?_ HNB618_go105.out _; (with_reducible repeat (first | refine Qag ?_ _ | refine Qah ?_ | refine Qaf ?_ _)); exact BK618.out⟩, ⟨by (try simp only [hl310_3]); (try simp only [hl310_4]); (try simp only [hl348_5]); (try simp only [hl348_6]); (try simp only [hl8_7]); (with_reducible repeat (first | refine Qag ?_ _ | refine Qah ?_ | refine Qaf ?_ _)); refine QaI ?_ HNB623_go105.out _; (with_reducible repeat (first | refine Qag ?_ _ | refine Qah ?_ | refine Qaf ?_ _)); exact BK623.out⟩, ⟨by repeat (first | (with_reducible first | exact HB.out | apply Qac | apply Qab | apply Qad | refine Qam ?_ GB105.out | refine Qam ?_ GE617.out | refine Qam ?_ GE618.out | refine Qam ?_ GE623.out) | exact HB.out)⟩⟩
                               rw [if_neg c102] at H
                               exact absurd H (by simp)
                              rw [if_neg c101] at H
                              exact absurd H (by simp)
                             rw [if_neg c100] at H
                             exact absurd H (by simp)
                            rw [if_neg c99] at H
                            have c99b0 : decide (0 < (rd x310_4 x45_7)) = F := decide_eq_false c99
                            clear c99
                            by_cases c110 : x45_7 < (x348_6.length : Int)
                            ·rw [if_pos c110] at H
                             have c110b0 : decide (x45_7 < (x348_6.length : Int)) = T := decide_eq_true c110
                             clear c110
                             have p636 : 0 ≤ (x45_7 : Int) := Ze
                             have q636 : x45_7 < (x310_4.length : Int) := Ze
                             obtain ⟨ad636, e636, hx636_0⟩ := Kd.at_int (Kd.R_reads' HO_11.out).2.2 x45_7 p636 q636
                             cases e636
                             replace p636 := eq_true p636
                             replace q636 := eq_true q636
                             have p644 : 0 ≤ (x45_7 : Int) := Ze
                             have q644 : x45_7 < (x348_6.length : Int) := Ze
                             obtain ⟨ad644, e644, hx644_0⟩ := Kd.at_int (Kd.R_reads' HO_12.out).2.2 x45_7 p644 q644
                             cases e644
                             replace p644 := eq_true p644
                             replace q644 := eq_true q644
                             go_upto_if 59 with (fail)
                             by_cases c111 : (rd x348_6 x45_7) > 0
                             ·rw [if_pos c111] at H
                              have c111b0 : decide (0 < (rd x348_6 x45_7)) = T := decide_eq_true c111
                              clear c111
                              (try simp only [c111b0])
                              by_cases c112 : x45_7 < (x8_7.length : Int)
                              ·rw [if_pos c112] at H
                               have c112b0 : decide (x45_7 < (x8_7.length : Int)) = T := decide_eq_true c112
                               clear c112
                               by_cases c113 : (rd_L7 x8_7 x45_7).length < 2513169434916
                               ·rw [if_pos c113] at H
                                have LMc113 := Aside0.mk c113
                                clear c113
                                obtain ⟨y648, hy648⟩ : ∃ y_ : List (S71), y_ = ((rd_L7 x8_7 x45_7) ++ [(⟨(⟨((rd_T71 l0 x31_2).f0.f0), ((rd_T71 l0 x31_2).f0.f1), ((rd_T71 l0 x31_2).f0.f2), ((rd_T71 l0 x31_2).f0.f3)⟩ : S69), rd x310_4 x45_7, rd x348_6 x45_7⟩ : S71)]) := ⟨_, rfl⟩
                                replace H : (Qak.l1 k7 (x8_7.set (x45_7 : Int).toNat y648) x310_4 x348_6 l0 (l0.length : Int) x31_2 (x8_2.length : Int) (wrap64 (x45_7 + 1)) a1 x619000_6 ((rd_T71 l0 x31_2).f0.f0) ((rd_T71 l0 x31_2).f0.f1) ((rd_T71 l0 x31_2).f0.f2) ((rd_T71 l0 x31_2).f0.f3) ((rd_T71 l0 x31_2).f1) ((rd_T71 l0 x31_2).f2)) = some (r1, r2) := by first | (rw [hy648]; with_reducible exact H) | (have H2_ := (Option.bind_some _ _).symm.trans H; rw [hy648]; with_reducible exact H2_) | (have H2_ := (Option.bind_some _ _).symm.trans H; with_reducible exact H2_) | with_reducible exact H | (rw [hy648]; exact H) | exact H
                                have Ny648 := Aside0.mk hy648
                                clear hy648
                                obtain ⟨y651, hy651⟩ : ∃ y_ : List (List (S71)), y_ = (x8_7.set (x45_7 : Int).toNat y648) := ⟨_, rfl⟩
                                replace H : (Qak.l1 k7 y651 x310_4 x348_6 l0 (l0.length : Int) x31_2 (x8_2.length : Int) (wrap64 (x45_7 + 1)) a1 x619000_6 ((rd_T71 l0 x31_2).f0.f0) ((rd_T71 l0 x31_2).f0.f1) ((rd_T71 l0 x31_2).f0.f2) ((rd_T71 l0 x31_2).f0.f3) ((rd_T71 l0 x31_2).f1) ((rd_T71 l0 x31_2).f2)) = some (r1, r2) := by first | (rw [hy651]; with_reducible exact H) | (have H2_ := (Option.bind_some _ _).symm.trans H; rw [hy651]; with_reducible exact H2_) | (have H2_ := (Option.bind_some _ _).symm.trans H; with_reducible exact H2_) | with_reducible exact H | (rw [hy651]; exact H) | exact H
                                have Ny651 := Aside0.mk hy651
                                clear hy651
                                have H' := Aside0.mk H
                                clear H
                                try go_wp2
                                replace HO_8 := Aside0.mk (Kd.S_drew HO_8.out)
                                replace HO_11 := Aside0.mk (Kd.R_drew HO_11.out)
                                replace HO_12 := Aside0.mk (Kd.R_drew HO_12.out)
                                replace BK617 := Aside0.mk (Qah BK617.out)
                                replace BK618 := Aside0.mk (Qah BK618.out)
                                replace BK623 := Aside0.mk (Qah BK623.out)
                                replace HB := Aside0.mk (Qad HB.out)
                                have p645 : 0 ≤ (x45_7 : Int) := Ze
                                have q645 : x45_7 < (x8_7.length : Int) := Ze
                                obtain ⟨ad645, A645_0, c645_0, e645, hx645_0, hl645_0, hi645_0⟩ := at_L7 (Kd.S_reads' HO_8.out).2.2 x45_7 p645 q645
                                cases e645
                                obtain ⟨ce645, hce645, hMe645, hcc645⟩ := Kd.S_get HO_8.out [] x45_7 p645 (by first | exact q645 | exact Ze | (have e_ := (Kd.S_reads' HO_8.out).1; omega))
                                obtain ⟨ve645_0, rfl, ge645_0⟩ := hMe645
                                have hv645_0 := hcc645 0 _ rfl
                                rw [Nat.add_zero, show ((Kd.slice 71 k71)).sz = 1 from rfl, Nat.mul_one] at hv645_0
                                replace hv645_0 := Option.some.inj (hv645_0.symm.trans hx645_0)
                                rw [hv645_0] at ge645_0
                                have HL645_0 := Aside0.mk (show Kd.R k71 71 _ _ _ _ (rd_L7 x8_7 x45_7) from ge645_0)
                                clear hv645_0 ge645_0
                                have HX645_0 := Aside0.mk hx645_0
                                clear hcc645 hce645
                                have HR645_0 := Aside0.mk hi645_0
                                have HC645_0 := Aside0.mk hl645_0
                                clear hi645_0 hl645_0
                                replace p645 := eq_true p645
                                replace q645 := eq_true q645
                                have p646 : 0 ≤ (x45_7 : Int) := Ze
                                have q646 : x45_7 < (x310_4.length : Int) := Ze
                                obtain ⟨ad646, e646, hx646_0⟩ := Kd.at_int (Kd.R_reads' HO_11.out).2.2 x45_7 p646 q646
                                obtain rfl : ad636 = ad646 := (by injection e646)
                                replace p646 := eq_true p646
                                replace q646 := eq_true q646
                                have p647 : 0 ≤ (x45_7 : Int) := Ze
                                have q647 : x45_7 < (x348_6.length : Int) := Ze
                                obtain ⟨ad647, e647, hx647_0⟩ := Kd.at_int (Kd.R_reads' HO_12.out).2.2 x45_7 p647 q647
                                obtain rfl : ad644 = ad647 := (by injection e647)
                                replace p647 := eq_true p647
                                replace q647 := eq_true q647
                                obtain ⟨go116, co116, eo116, gb116, gl116, cl116, HG116⟩ := Kd.S_form HO_8.out (by have h_ : (x45_7 : Int) < ((x8_7.length : Int) : Int) := Ze; have h2_ : 0 ≤ (x45_7 : Int) := (Ze); omega)
                                (first | cases eo116 | (injection eo116 with ea_ en_ ec_; (first | subst ea_ | (injection ea_ with ea_; subst ea_)); subst ec_; clear en_))
                                have GB116 := Aside0.mk gb116
                                have GG116 := Aside0.mk HG116
                                clear gb116 gl116 HG116
                                (first | simp only [QaT] at hx645_0 | skip)
                                obtain ⟨oki116, ce116, hcl116, hM116, hcc116, _, _, hH116⟩ := Kd.S_elem HO_8.out [] (x45_7 : Int) (Ze) (by have h_ : (x45_7 : Int) < ((x8_7.length : Int) : Int) := Ze; first | exact h_ | (have e_ := (Kd.S_reads' HO_8.out).1; omega) | simpa using h_)
                                obtain ⟨ve116_0, rfl, ge116_0⟩ := hM116
                                have hv116 := hcc116 0 _ rfl
                                have hX116 := HX645_0.out
                                (try simp only [QaT] at hX116)
                                (try simp only [Nat.add_zero] at hv116)
                                (try rw [show ((Kd.slice 71 k71)).sz = 1 from rfl, Nat.mul_one] at hv116)
                                replace hv116 := Option.some.inj (hv116.symm.trans hX116)
                                subst hv116
                                clear hX116 hcc116 hcl116
                                have UU116 := Aside0.mk (show Kd.R k71 71 _ w.heap.size oki116 (.slice A645_0 (rd_L7 x8_7 x45_7).length c645_0) (rd_L7 x8_7 x45_7) from ge116_0)
                                have HH116 := Aside0.mk hH116
                                have HN116 := Aside0.mk (Kd.S_reads' HO_8.out).1
                                clear hH116 ge116_0
                                refine start_ (n := 21) (S := fun w' => w'.cell? ⟨gb623, 0, none⟩ = some (.string ((rd_T71 l0 x31_2).f0.f0)) ∧ w'.cell? ⟨gb623, 1, none⟩ = some (.int .i64 ((rd_T71 l0 x31_2).f0.f1)) ∧ w'.cell? ⟨gb623, 2, none⟩ = some (.int .i64 ((rd_T71 l0 x31_2).f0.f2)) ∧ w'.cell? ⟨gb623, 3, none⟩ = some (.int .i64 ((rd_T71 l0 x31_2).f0.f3)) ∧ w'.cell? ⟨gb623, 4, none⟩ = some (.int .i64 ((rd_T71 l0 x31_2).f1)) ∧ w'.cell? ⟨gb623, 5, none⟩ = some (.int .i64 ((rd_T71 l0 x31_2).f2)) ∧ w'.cell? ⟨go116, (x45_7).toNat, none⟩ = some (.slice A645_0 (rd_L7 x8_7 x45_7).length c645_0) ∧ w'.cell? (ad636.add (x45_7).toNat) = some (.int .i64 (rd x310_4 x45_7)) ∧ w'.cell? (ad644.add (x45_7).toNat) = some (.int .i64 (rd x348_6 x45_7))) (ds := [18, 20]) #[F, F, F, F, F, F, F, F, F, F, F, F, F, F, F, F, F, F, F, F, F] (by kernel_rfl) rfl rfl ⟨(Qae BK623.out 0).trans rfl, (Qae BK623.out 1).trans rfl, (Qae BK623.out 2).trans rfl, (Qae BK623.out 3).trans rfl, (Qae BK623.out 4).trans rfl, (Qae BK623.out 5).trans rfl, hx645_0, hx646_0, hx647_0⟩ (fun hHeld => ?_); refine Qa3 Qak.tab17 Qak.bits17 (fun HT_ HW_ => ?_)
                                generalize wr.drew = w115 at HO_8 HO_11 HO_12 BK617 BK618 BK623 HB GG116 HH116 HL645_0 HR645_0 HX645_0 UU116 hx645_0 hx646_0 hx647_0 hHeld ⊢
                                refine Zsp (i := 0) (N := some 60) (pm 21 1) HT_ ?_
                                refine Zsp (i := 1) (N := some 61) (pm 21 2) HT_ ?_
                                refine Zsp (i := 2) (N := some 62) (pm 21 3) HT_ ?_
                                refine Zsp (i := 3) (N := some 63) (pm 21 4) HT_ ?_
                                refine Zsp (i := 4) (N := some 64) (pm 21 5) HT_ ?_
                                refine Zsp (i := 6) (N := some 66) #[T, T, T, T, T, F, T, F, F, F, F, F, F, F, F, F, F, F, F, F, F] HT_ ?_
                                refine Zsp (i := 8) (N := some 68) #[T, T, T, T, T, F, T, F, T, F, F, F, F, F, F, F, F, F, F, F, F] HT_ ?_
                                refine Zsp (i := 9) (N := some 69) #[T, T, T, T, T, F, T, F, T, T, F, F, F, F, F, F, F, F, F, F, F] HT_ ?_
                                refine Zsp (i := 10) (N := some 70) #[T, T, T, T, T, F, T, F, T, T, T, F, F, F, F, F, F, F, F, F, F] HT_ ?_
                                refine Zsp (i := 12) (N := some 72) #[T, T, T, T, T, F, T, F, T, T, T, F, T, F, F, F, F, F, F, F, F] HT_ ?_
                                refine Zsp (i := 13) (N := some 73) #[T, T, T, T, T, F, T, F, T, T, T, F, T, T, F, F, F, F, F, F, F] HT_ ?_
                                refine Zsp (i := 14) (N := some 74) #[T, T, T, T, T, F, T, F, T, T, T, F, T, T, T, F, F, F, F, F, F] HT_ ?_
                                refine Zst (i := 5) (N := some 65) #[T, T, T, T, T, T, T, F, T, T, T, F, T, T, T, F, F, F, F, F, F] HT_ HW_ hHeld ?_ (hy := by (refine Or.inl ⟨by rfl, ?_⟩; rintro w' ⟨s0, s1, s2, s3, s4, s5, s6, s7, s8⟩; go_simp; with_reducible rfl))
                                refine Zst (i := 7) (N := some 67) #[T, T, T, T, T, T, T, T, T, T, T, F, T, T, T, F, F, F, F, F, F] HT_ HW_ hHeld ?_ (hy := by (refine Or.inl ⟨by rfl, ?_⟩; rintro w' ⟨s0, s1, s2, s3, s4, s5, s6, s7, s8⟩; go_simp; with_reducible rfl))
                                refine Zst (i := 11) (N := some 71) (pm 21 15) HT_ HW_ hHeld ?_ (hy := by (refine Or.inl ⟨by rfl, ?_⟩; rintro w' ⟨s0, s1, s2, s3, s4, s5, s6, s7, s8⟩; go_simp; with_reducible rfl))
                                refine Zst (i := 15) (N := some 75) (pm 21 16) HT_ HW_ hHeld ?_ (hy := by (refine Or.inl ⟨by rfl, ?_⟩; rintro w' ⟨s0, s1, s2, s3, s4, s5, s6, s7, s8⟩; go_simp; with_reducible rfl))
                                refine Zsp (i := 16) (N := some 76) (pm 21 17) HT_ ?_
                                refine one_ (i := 17) (N := some 77) #[T, T, T, T, T, T, T, T, T, T, T, T, T, T, T, T, T, T, F, F, F] rfl rfl (one_of HT_.out (by kernel_rfl)) (by decide) (fun K hK => ?_)
                                refine value_ (w1 := ?_) (v := ?_) (by rfl) rfl ?_ ?_
                                rotate_left 2
                                ·go_simp
                                 constructor
                                 ·rfl
                                 rfl
                                refine hK.out _ _ ⟨(Qae (Qaf BK623.out _) 0).trans rfl, (Qae (Qaf BK623.out _) 1).trans rfl, (Qae (Qaf BK623.out _) 2).trans rfl, (Qae (Qaf BK623.out _) 3).trans rfl, (Qae (Qaf BK623.out _) 4).trans rfl, (Qae (Qaf BK623.out _) 5).trans rfl, (World.cell?_alloc_lt _ _ _ (World.block_lt_of_cell? _ _ (hHeld.2.2.2.2.2.2.1))).trans (hHeld.2.2.2.2.2.2.1), (World.cell?_alloc_lt _ _ _ (World.block_lt_of_cell? _ _ (hHeld.2.2.2.2.2.2.2.1))).trans (hHeld.2.2.2.2.2.2.2.1), (World.cell?_alloc_lt _ _ _ (World.block_lt_of_cell? _ _ (hHeld.2.2.2.2.2.2.2.2))).trans (hHeld.2.2.2.2.2.2.2.2)⟩ (fun hHeld => ?_)
                                clear hK K
                                refine norm_ (a' := ?_) ?_ ?_
                                rotate_left
                                ·show Act.put _ (some 77) _ = _
                                 simp only [Act.put, Zj, Zk, Zm, i64_w, i32_w]
                                 rfl
                                refine last_ (i := 18) (N := some 78) #[T, T, T, T, T, T, T, T, T, T, T, T, T, T, T, T, T, T, T, F, F] rfl rfl (one_of HT_.out (by kernel_rfl)) (by decide) (fun K hK => ?_)
                                refine Kd.R_append_step k71 (w0 := w) w.heap.size (by rfl) (.tmp 65) (.tmp 77) 22 71 (.agg #[(.string ⟨#[]⟩), (.int .i64 0), (.int .i64 0), (.int .i64 0), (.int .i64 0), (.int .i64 0)]) 56 rfl Try.underlying22 info71 rfl (by decide) (by omega) (.slice A645_0 (rd_L7 x8_7 x45_7).length c645_0) (rd_L7 x8_7 x45_7) (⟨(⟨((rd_T71 l0 x31_2).f0.f0), ((rd_T71 l0 x31_2).f0.f1), ((rd_T71 l0 x31_2).f0.f2), ((rd_T71 l0 x31_2).f0.f3)⟩ : S69), rd x310_4 x45_7, rd x348_6 x45_7⟩ : S71) [.string ((rd_T71 l0 x31_2).f0.f0), .int .i64 ((rd_T71 l0 x31_2).f0.f1), .int .i64 ((rd_T71 l0 x31_2).f0.f2), .int .i64 ((rd_T71 l0 x31_2).f0.f3), .int .i64 (rd x310_4 x45_7), .int .i64 (rd x348_6 x45_7)] (fun k_ => oki116 k_ ∨ ((fun k_ => k_ ≠ gb623)) k_ ∧ w115.heap.size ≤ k_) (fun _ => False) rfl rfl ?aP (fun _ hk => hk.elim) ?aF ?aO ?aB ?aS ?aL ?_
                                (case aP => exact Qbx _ _ _ (⟨(⟨((rd_T71 l0 x31_2).f0.f0), ((rd_T71 l0 x31_2).f0.f1), ((rd_T71 l0 x31_2).f0.f2), ((rd_T71 l0 x31_2).f0.f3)⟩ : S69), rd x310_4 x45_7, rd x348_6 x45_7⟩ : S71))
                                (case aB => exact (Zc3 GE617.out GE618.out GE623.out))
                                (case aF => exact (fun k_ hk => .inr ⟨Kd.freshB (g := gb623) (o := .cells #[.string ((rd_T71 l0 x31_2).f0.f0), .int .i64 ((rd_T71 l0 x31_2).f0.f1), .int .i64 ((rd_T71 l0 x31_2).f0.f2), .int .i64 ((rd_T71 l0 x31_2).f0.f3), .int .i64 ((rd_T71 l0 x31_2).f1), .int .i64 ((rd_T71 l0 x31_2).f2)] 71 (0, 0)) (Zu BK623.out) k_ hk, hk⟩))
                                (case aO => exact (by (with_reducible repeat (first | apply Kd.R_alloc | apply Kd.R_drewN | apply Kd.R_drew)); exact Kd.R_mono UU116.out (fun _ hk => .inl hk)))
                                (case aS => exact (Qau (Zc3 GE617.out GE618.out GE623.out)))
                                (case aL => have := LMc113.out; omega)
                                intro v649 w117 ho hb hg hat
                                rw [← Ny648.out] at ho
                                have HO650 := Aside0.mk (ho)
                                replace HO_11 := Aside0.mk (Kd.R_over' (v := (.slice A645_0 (rd_L7 x8_7 x45_7).length c645_0)) (Zr HO_11.out) (Kd.R_typed HL645_0.out) (by decide) hg)
                                replace HO_12 := Aside0.mk (Kd.R_over' (v := (.slice A645_0 (rd_L7 x8_7 x45_7).length c645_0)) (Zr HO_12.out) (Kd.R_typed HL645_0.out) (by decide) hg)
                                replace BK617 := Aside0.mk (QaN (g := gb617) (o := .cells #[.int .i64 a1] 3 (0, 0)) (Zu BK617.out) hg (Kd.R_ne HL645_0.out BK617.out (by decide)))
                                replace BK618 := Aside0.mk (QaN (g := gb618) (o := .cells #[.int .i64 x619000_6] 3 (0, 0)) (Zu BK618.out) hg (Kd.R_ne HL645_0.out BK618.out (by decide)))
                                replace BK623 := Aside0.mk (QaN (g := gb623) (o := .cells #[.string ((rd_T71 l0 x31_2).f0.f0), .int .i64 ((rd_T71 l0 x31_2).f0.f1), .int .i64 ((rd_T71 l0 x31_2).f0.f2), .int .i64 ((rd_T71 l0 x31_2).f0.f3), .int .i64 ((rd_T71 l0 x31_2).f1), .int .i64 ((rd_T71 l0 x31_2).f2)] 71 (0, 0)) (Zu BK623.out) hg (Kd.R_away HL645_0.out (fun _ hk => hk.1)))
                                replace HB := Aside0.mk (hb)
                                replace HH116 := Aside0.mk (Kd.H_grown (Kd.H_widen (by repeat (first | exact HH116.out | refine Kd.H_alloc ?_ _ | refine Kd.H_drewN ?_ _ | refine Kd.H_drew ?_))) hg (fun k_ e_ => .inl (UU116.out.1 k_ e_)))
                                clear HO_8 UU116 HL645_0
                                clear ho hb hg hat
                                have p114 : 0 ≤ (x45_7 : Int) := Ze
                                have q114 : (x45_7 : Int) < ((x8_7.length : Int) : Int) := Ze
                                replace p114 := eq_true p114
                                replace q114 := eq_true q114
                                obtain ⟨Ao120, co120, eo120⟩ := Kd.R_slice HO650.out
                                (first | subst eo120 | (injection eo120 with f1_ f2_ f3_; have f4_ := f1_.symm; have f5_ := f3_.symm; clear f1_ f2_ f3_; subst f4_; subst f5_))
                                obtain ⟨_, _, hraw118, _, _, hcc118, _⟩ := Kd.H_raw HH116.out (Ze) (by have h_ : (x45_7 : Int) < ((x8_7.length : Int) : Int) := Ze; first | exact h_ | (have e_ := (HN116.out); omega) | simpa using h_)
                                obtain ⟨_, hfr118⟩ := Kd.H_at HH116.out (Ze) (by have h_ : (x45_7 : Int) < ((x8_7.length : Int) : Int) := Ze; first | exact h_ | (have e_ := (HN116.out); omega) | simpa using h_)
                                have hx118_0 := hcc118 0 _ rfl
                                have hf118_0 := hfr118 0
                                (try simp only [Nat.add_zero] at hx118_0 hf118_0)
                                (try rw [show ((Kd.slice 71 k71)).sz = 1 from rfl, Nat.mul_one] at hx118_0)
                                (try rw [show ((Kd.slice 71 k71)).sz = 1 from rfl, Nat.mul_one] at hf118_0)
                                have HP118 := Kd.S_seg0 HH116.out (Ze) (by have h_ : (x45_7 : Int) < ((x8_7.length : Int) : Int) := Ze; first | exact h_ | (have e_ := (HN116.out); omega) | simpa using h_) (seg := [.slice Ao120 y648.length co120]) (j := 0) (show 1 ≤ 1 from by decide) (x' := y648) (Kd.M_row HO650.out) (fun _ hk => hk)
                                (try simp only [show ((Kd.slice 71 k71)).sz = 1 from rfl, Nat.mul_one, Nat.add_zero] at HP118)
                                clear hcc118 hfr118
                                have HNB617_go116 := Aside0.mk (show gb617 ≠ go116 from by have h_ := Kd.R_ne hraw118 BK617.out (by decide); intro e_; exact h_ (by rw [e_]; rfl))
                                have HNB618_go116 := Aside0.mk (show gb618 ≠ go116 from by have h_ := Kd.R_ne hraw118 BK618.out (by decide); intro e_; exact h_ (by rw [e_]; rfl))
                                have HNB623_go116 := Aside0.mk (show gb623 ≠ go116 from by have h_ := Kd.R_ne hraw118 BK623.out (by decide); intro e_; exact h_ (by rw [e_]; rfl))
                                have HS118 := HP118.1
                                rw [← Ny651.out] at HS118
                                have HQ118 := Aside0.mk HS118
                                obtain ⟨_, hgg118⟩ := Kd.R_typed hraw118 go116 rfl
                                have GG118_ := Aside0.mk hgg118
                                clear HP118 HS118 hgg118
                                refine hK.out _ _ ?_
                                clear hK K
                                refine norm_ (a' := ?_) ?_ ?_
                                rotate_left
                                ·show Act.put _ (some 78) _ = _
                                 simp only [Act.put, Zj, Zk, Zm, i64_w, i32_w]
                                 rfl
                                refine Zsp (i := 19) (N := some 79) (pm 21 20) HT_ ?_
                                refine last_ (i := 20) (N := none) #[T, T, T, T, T, T, T, T, T, T, T, T, T, T, T, T, T, T, T, T, T] rfl rfl (one_of HT_.out (by kernel_rfl)) (by decide) (fun K hK => ?_)
                                refine skip_ (w1 := ?_) (by rfl) rfl ?_ ?_
                                rotate_left
                                ·go_simp
                                 rfl
                                refine hK.out _ _ ?_
                                clear hK K
                                refine done_ (Qbc HT_.out (by kernel_rfl)) ?_
                                try go_wp2
                                (try simp only [← hl8_7])
                                go_roundg k7
                                case measure => have := HJ5.out; have := HK2.out; have := HK3.out; have := HK4.out; have := HK5.out; have := HK6.out; have := HK7.out; omega
                                case rel => exact ⟨(y651), (wrap64 (x45_7 + 1)), (Zs), H', ⟨by have := HJ5.out; have := HK2.out; have := HK3.out; have := HK4.out; have := HK5.out; have := HK6.out; have := HK7.out; omega⟩, ⟨by (try simp only [hl310_3]); (try simp only [hl310_4]); (try simp only [hl348_5]); (try simp only [hl348_6]); (try simp only [hl8_7]); (with_reducible repeat (first | apply Kd.S_alloc | apply Kd.S_drewN | apply Kd.S_drew)); exact HQ118.out⟩, ⟨by (try simp only [hl310_3]); (try simp only [hl310_4]); (try simp only [hl348_5]); (try simp only [hl348_6]); (try simp only [hl8_7]); (with_reducible repeat (first | apply Kd.R_alloc | apply Kd.R_drewN | apply Kd.R_drew)); exact Kd.R_mono (Kd.R_far (p := ⟨go116, (x45_7 : Int).toNat, none⟩) (Kd.R_types HO_11.out GG118_.out (by decide)) (fun _ hk => hk.2) (.slice Ao120 y648.length co120)) (fun _ hk => ⟨hk.1.1, ⟨hk.1.2.1, hk.1.2.2⟩⟩)⟩, ⟨by (try simp only [hl310_3]); (try simp only [hl310_4]); (try simp only [hl348_5]); (try simp only [hl348_6]); (try simp only [hl8_7]); (with_reducible repeat (first | apply Kd.R_alloc | apply Kd.R_drewN | apply Kd.R_drew)); exact Kd.R_mono (Kd.R_far (p := ⟨go116, (x45_7 : Int).toNat, none⟩) (Kd.R_types HO_12.out GG118_.out (by decide)) (fun _ hk => hk.2) (.slice Ao120 y648.length co120)) (fun _ hk => ⟨hk.1.1, ⟨hk.1.2.1, hk.1.2.2⟩⟩)⟩, ⟨by (try simp only [hl310_3]); (try simp only [hl310_4]); (try simp only [hl348_5]); (try simp only [hl348_6]); (try simp only [hl8_7]); (with_reducible repeat (first | refine Qag ?_ _ | refine Qah ?_ | refine Qaf ?_ _)); refine QaI ?_ HNB617_go116.out _; (with_reducible repeat (first | refine Qag ?_ _ | refine Qah ?_ | refine Qaf ?_ _)); exact BK617.out⟩, ⟨by (try simp only [hl310_3]); (try simp only [hl310_4]); (try simp only [hl348_5]); (try simp only [hl348_6]); (try simp only [hl8_7]); (with_reducible repeat (first | refine Qag ?_ _ | refine Qah ?_ | refine Qaf ?_ _)); refine QaI ?_ HNB618_go116.out _; (with_reducible repeat (first | refine Qag ?_ _ | refine Qah ?_ | refine Qaf ?_ _)); exact BK618.out⟩, ⟨by (try simp only [hl310_3]); (try simp only [hl310_4]); (try simp only [hl348_5]); (try simp only [hl348_6]); (try simp only [hl8_7]); (with_reducible repeat (first | refine Qag ?_ _ | refine Qah ?_ | refine Qaf ?_ _)); refine QaI ?_ HNB623_go116.out _; (with_reducible repeat (first | refine Qag ?_ _ | refine Qah ?_ | refine Qaf ?_ _)); exact BK623.out⟩, ⟨by repeat (first | (with_reducible first | exact HB.out | apply Qac | apply Qab | apply Qad | refine Qam ?_ GB116.out | refine Qam ?_ GE617.out | refine Qam ?_ GE618.out | refine Qam ?_ GE623.out) | exact HB.out)⟩⟩
                               rw [if_neg c113] at H
                               exact absurd H (by simp)
                              rw [if_neg c112] at H
                              exact absurd H (by simp)
                             rw [if_neg c111] at H
                             have c111b0 : decide (0 < (rd x348_6 x45_7)) = F := decide_eq_false c111
                             clear c111
                             (try simp only [c111b0])
                             have H' := Aside0.mk H
                             clear H
                             go_wp2
                             (try simp only [← hl8_7])
                             go_roundg k7
                             case measure => have := HJ5.out; have := HK2.out; have := HK3.out; have := HK4.out; have := HK5.out; have := HK6.out; have := HK7.out; omega
                             case rel => exact ⟨(x8_7), (wrap64 (x45_7 + 1)), (Zs), H', ⟨by have := HJ5.out; have := HK2.out; have := HK3.out; have := HK4.out; have := HK5.out; have := HK6.out; have := HK7.out; omega⟩, ⟨by (try simp only [hl310_3]); (try simp only [hl310_4]); (try simp only [hl348_5]); (try simp only [hl348_6]); (try simp only [hl8_7]); (with_reducible repeat (first | apply Kd.S_alloc | apply Kd.S_drewN | apply Kd.S_drew)); exact HO_8.out⟩, ⟨by (try simp only [hl310_3]); (try simp only [hl310_4]); (try simp only [hl348_5]); (try simp only [hl348_6]); (try simp only [hl8_7]); (with_reducible repeat (first | apply Kd.R_alloc | apply Kd.R_drewN | apply Kd.R_drew)); exact HO_11.out⟩, ⟨by (try simp only [hl310_3]); (try simp only [hl310_4]); (try simp only [hl348_5]); (try simp only [hl348_6]); (try simp only [hl8_7]); (with_reducible repeat (first | apply Kd.R_alloc | apply Kd.R_drewN | apply Kd.R_drew)); exact HO_12.out⟩, ⟨by (try simp only [hl310_3]); (try simp only [hl310_4]); (try simp only [hl348_5]); (try simp only [hl348_6]); (try simp only [hl8_7]); (with_reducible repeat (first | refine Qag ?_ _ | refine Qah ?_ | refine Qaf ?_ _)); exact BK617.out⟩, ⟨by (try simp only [hl310_3]); (try simp only [hl310_4]); (try simp only [hl348_5]); (try simp only [hl348_6]); (try simp only [hl8_7]); (with_reducible repeat (first | refine Qag ?_ _ | refine Qah ?_ | refine Qaf ?_ _)); exact BK618.out⟩, ⟨by (try simp only [hl310_3]); (try simp only [hl310_4]); (try simp only [hl348_5]); (try simp only [hl348_6]); (try simp only [hl8_7]); (with_reducible repeat (first | refine Qag ?_ _ | refine Qah ?_ | refine Qaf ?_ _)); exact BK623.out⟩, ⟨Zc3 GE617.out GE618.out GE623.out⟩⟩
                            rw [if_neg c110] at H
                            exact absurd H (by simp)
                           rw [if_neg c98] at H
                           exact absurd H (by simp)
                          rw [if_neg c97] at H
                          exact absurd H (by simp)
                         rw [if_neg c96] at H
                         have c96b0 : decide (x45_7 < (x8_2.length : Int)) = F := decide_eq_false c96
                         have c96x : decide (x45_7 < (x8_7.length : Int)) = F := by rw [← hl8_7]; exact c96b0
                         clear c96
                         (try simp only [c96b0])
                         have H' := Aside0.mk H
                         clear H
                         go_wp2
                         (try simp only [← hl310_3, ← hl310_4, ← hl348_5, ← hl348_6, ← hl8_7])
                         go_roundg k7
                         case measure => have := HJ5.out; have := HK2.out; have := HK3.out; have := HK4.out; have := HK5.out; have := HK6.out; have := HK7.out; omega
                         case rel => exact ⟨(x8_7), (wrap64 (x31_2 + 1)), (x619000_6), (Zs), H', ⟨by have := HJ5.out; have := HK2.out; have := HK3.out; have := HK4.out; have := HK5.out; have := HK6.out; have := HK7.out; omega⟩, ⟨by (try simp only [hl310_3]); (try simp only [hl310_4]); (try simp only [hl348_5]); (try simp only [hl348_6]); (try simp only [hl8_7]); (with_reducible repeat (first | apply Kd.S_alloc | apply Kd.S_drewN | apply Kd.S_drew)); exact Kd.S_mono HO_8.out (fun _ hk => trivial)⟩, ⟨by (try simp only [hl310_3]); (try simp only [hl310_4]); (try simp only [hl348_5]); (try simp only [hl348_6]); (try simp only [hl8_7]); (with_reducible repeat (first | refine Qag ?_ _ | refine Qah ?_ | refine Qaf ?_ _)); exact BK617.out⟩, ⟨by (try simp only [hl310_3]); (try simp only [hl310_4]); (try simp only [hl348_5]); (try simp only [hl348_6]); (try simp only [hl8_7]); (with_reducible repeat (first | refine Qag ?_ _ | refine Qah ?_ | refine Qaf ?_ _)); exact BK618.out⟩, ⟨Zc3 GE617.out GE618.out GE623.out⟩⟩
                  rw [if_neg c59] at H
                  exact absurd H (by simp)
                 rw [if_neg c58] at H
                 exact absurd H (by simp)
            rw [if_neg c21] at H
            exact absurd H (by simp)
           rw [if_neg c20] at H
           exact absurd H (by simp)
          rw [if_neg c19] at H
          exact absurd H (by simp)
         rw [if_neg c18] at H
         exact absurd H (by simp)
        rw [if_neg c17] at H
        have c17b0 : decide (x31_2 < (l0.length : Int)) = F := decide_eq_false c17
        clear c17
        (try simp only [c17b0])
        obtain ⟨Aoz, coz, eoz⟩ := Kd.S_slice HO_8.out
        subst eoz
        by_cases cz : x8_2.length ≤ 1000000
        ·rw [if_pos cz] at H
         simp only [Option.some.injEq, Prod.mk.injEq] at H
         obtain ⟨rfl, rfl⟩ := H
         have LZ := Aside0.mk cz
         clear cz
         go_wp2_with (first | (go_at_call 72; refine (callsIn_wide.1 (Qea Fence.wide 5 trivial rfl _ _ _ _)).mono ?_; rintro e wz1 ⟨rfl, rfl⟩) | (go_at_call 71; refine (lotsS.calls HO_8.out (Qau HB.out) LZ.out).mono ?_; rintro e wz2 ⟨vz, rfl, hz, hbz⟩; have HZ := Aside0.mk hz; have HBZ := Aside0.mk (Qav HB.out hbz); clear hz hbz))
         go_ret2
         exact ⟨_, rfl, HZ.out, HBZ.out⟩
        rw [if_neg cz] at H
        exact absurd H (by simp)
     rw [if_neg c14] at H
     exact absurd H (by simp)
    rw [if_neg c13] at H
    exact absurd H (by simp)
 rw [if_neg c5] at H
 have c5b0 : (t616 == 0) = F := beq_eq_false_iff_ne.mpr c5
 have c5b1 : (t616 != 0) = T := bne_iff_ne.mpr c5
 (try simp only [c5b0, c5b1])
 simp only [Option.some.injEq, Prod.mk.injEq] at H
 obtain ⟨rfl, rfl⟩ := H
 go_wp2
 go_ret2
 exact ⟨_, Zq, by first | exact Kd.S_nil _ _ _ _ _ | exact Kd.N_nil _ _ _ _ _ | exact Kd.V_nil _ _ _ _ _ | exact Kd.Q_nil _ _ _ _ _ | exact Kd.R_nil _ _ _ _ _, Zb⟩
end Go.Proofs.Ytgnmhfjfefgbfaa.Pr
