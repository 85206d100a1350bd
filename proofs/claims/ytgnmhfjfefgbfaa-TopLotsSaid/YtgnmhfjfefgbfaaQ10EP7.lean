/- Functions' values and contracts, as the print wrote them. -/
import Derived.Test.YtgnmhfjfefgbfaaQ10EP0
namespace Go.Proofs.Ytgnmhfjfefgbfaa.Pr
open Go.RowKit Go.Proofs.YtgnmhfjfefgbfaaW.PrintWords Go.Proofs.YtgnmhfjfefgbfaaW.PrintLast Go.Proofs.YtgnmhfjfefgbfaaW.PrintMore
attribute [local go_sem] QaO QaQ QaU QaV QaK QaL QaP QaR   -- for this text's walks alone
set_option linter.unusedVariables false
set_option linter.unusedSimpArgs false
attribute [local go_sem high] eqA71
mutual
def Qat.l0 : Nat → List (S71) → List (S71) → Int → Option (Bool)
 | 0, _, _, _ => none
 | k + 1, x0, x1, x5 => if x5 < (x0.length : Int) then (Qat.j1 k x0 x1 x5 (decide (x5 < (x1.length : Int)))) else (Qat.j1 k x0 x1 x5 false)
def Qat.j1 : Nat → List (S71) → List (S71) → Int → Bool → Option (Bool)
 | 0, _, _, _, _ => none
 | k + 1, x0, x1, x5, x15 => if x15 = true then (if 0 ≤ x5 then (if x5 < (x0.length : Int) then (if x5 < (x1.length : Int) then (if ((!((((rd_T71 x0 x5).f0.f0).toList) == (((rd_T71 x1 x5).f0.f0).toList)) || (!(((rd_T71 x0 x5).f0.f1) == ((rd_T71 x1 x5).f0.f1)) || (!(((rd_T71 x0 x5).f0.f2) == ((rd_T71 x1 x5).f0.f2)) || (!(((rd_T71 x0 x5).f0.f3) == ((rd_T71 x1 x5).f0.f3)))))) || (!(((rd_T71 x0 x5).f1) == ((rd_T71 x1 x5).f1)) || (!(((rd_T71 x0 x5).f2) == ((rd_T71 x1 x5).f2))))) = true then (some false) else (Qat.l0 k x0 x1 (wrap64 (x5 + 1)))) else (none)) else (none)) else (none)) else (some ((x0.length : Int) == (x1.length : Int)))
end
def Qat.f (k : Nat) (l0 : List (S71)) (l1 : List (S71)) : Option (Bool) := Qat.l0 k l0 l1 0
theorem Qat.mono_l : ∀ k, (∀ y0 y1 y2, LeO (Qat.l0 k y0 y1 y2) (Qat.l0 (k + 1) y0 y1 y2)) ∧ (∀ y0 y1 y2 y3, LeO (Qat.j1 k y0 y1 y2 y3) (Qat.j1 (k + 1) y0 y1 y2 y3))
 | 0 => ⟨fun _ _ _ r h => by simp [Qat.l0] at h, fun _ _ _ _ r h => by simp [Qat.j1] at h⟩
 | k + 1 => by
  obtain ⟨ih0, ih1⟩ := Qat.mono_l k
  refine ⟨?_, ?_⟩
  ·intro y0 y1 y2
   unfold Qat.l0
   exact ZM2 ih0 ih1
  intro y0 y1 y2 y3
  unfold Qat.j1
  exact ZM2 ih0 ih1
theorem Qat.mono : ∀ a0 a1 k, LeO (Qat.f k a0 a1) (Qat.f (k + 1) a0 a1) := by
 intro a0 a1 k
 obtain ⟨ih0, ih1⟩ := Qat.mono_l k
 unfold Qat.f
 exact ZM2 ih0 ih1
set_option maxHeartbeats 8000000 in
set_option maxRecDepth 100000 in
theorem Qat.calls (k : Nat) (A0 : Option Addr) (c0 : Nat) (l0 : List (S71)) (A1 : Option Addr) (c1 : Nat) (l1 : List (S71)) (r : Bool) (w : World) (hr0 : Kd.C k71 w A0 l0.length l0) (hc0 : l0.length ≤ c0) (hr1 : Kd.C k71 w A1 l1.length l1) (hc1 : l1.length ≤ c1) (h : Qat.f k l0 l1 = some r) :
  Calls Try.prog 76 #[.slice A0 l0.length c0, .slice A1 l1.length c1] w fun e w' => e = .returned (.bool r) ∧ Drawn0 w w' := by
 have hu71 := Try.underlying71
 have HR0 := Aside0.mk hr0
 have HC0 := Aside0.mk hc0
 clear hr0 hc0
 have HR1 := Aside0.mk hr1
 have HC1 := Aside0.mk hc1
 clear hr1 hc1
 have H : (Qat.l0 k l0 l1 0) = some r := h
 clear h
 have H' := Aside0.mk H
 clear H
 go_enter Try.func76, Try.ntmps76
 go_wp2
 repeat (go_quiet (fail); try go_wp2)
 go_loopg [5] k (fun kq v5 w' => ∃ (x5_1 : Int), v5 = .int .i64 x5_1 ∧ Aside0 (Qat.l0 kq l0 l1 x5_1 = some r) ∧ Aside0 (kq ≤ k) ∧ Drawn0 w w')
 case atStart => exact ⟨(0), (Zs), H', ⟨Nat.le_refl _⟩, Zd⟩
 case round =>
  clear H'
  try clear c1
  try clear p2
  obtain ⟨x5_1, rfl, HA, HK1, ⟨m1, rfl⟩⟩ := hrel
  cases gk with
  | zero => exact absurd HA.out (by simp [Qat.l0])
  | succ k1 =>
   have H := HA.out
   clear HA
   simp only [Qat.l0] at H
   have HC3 := Aside0.mk H
   clear H
   go_upto_region 2 with (fail)
   repeat (go_quiet (fail); go_upto_region 2 with (fail))
   go_cut [15] (fun v15 wc => ∃ (kq : Nat) (x15_2 : Bool), v15 = .bool x15_2 ∧ Aside0 (Qat.j1 kq l0 l1 x5_1 x15_2 = some r) ∧ Aside0 (kq ≤ k1) ∧ Drawn0 w wc)
   case first =>
    have H := HC3.out
    clear HC3
    by_cases c4 : x5_1 < (l0.length : Int)
    ·rw [if_pos c4] at H
     have c4b0 : decide (x5_1 < (l0.length : Int)) = true := decide_eq_true c4
     clear c4
     have H' := Aside0.mk H
     clear H
     go_wp2
     repeat (go_quiet (fail); try go_wp2)
     go_meet
     case rel => exact ⟨_, (decide (x5_1 < (l1.length : Int))), (Zs), H', ⟨by have := HK1.out; first | omega | exact Nat.le_refl _⟩, Zd⟩
    rw [if_neg c4] at H
    have c4b0 : decide (x5_1 < (l0.length : Int)) = false := decide_eq_false c4
    clear c4
    have H' := Aside0.mk H
    clear H
    go_wp2
    repeat (go_quiet (fail); try go_wp2)
    go_meet
    case rel => exact ⟨_, (false), (Zs), H', ⟨by have := HK1.out; first | omega | exact Nat.le_refl _⟩, Zd⟩
   case rest =>
    clear HC3
    try clear c1
    try clear p2
    try clear c4
    try clear c4b0
    try clear p2
    obtain ⟨kq, x15_2, rfl, HA, HJ2, ⟨mc2, rfl⟩⟩ := hcut
    cases kq with
    | zero => exact absurd HA.out (by simp [Qat.j1])
    | succ kj2 =>
     have H := HA.out
     clear HA
     simp only [Qat.j1] at H
     by_cases c5 : x15_2 = true
     ·subst c5
      have H1 : (if 0 ≤ x5_1 then (if x5_1 < (l0.length : Int) then (if x5_1 < (l1.length : Int) then (if ((!((((rd_T71 l0 x5_1).f0.f0).toList) == (((rd_T71 l1 x5_1).f0.f0).toList)) || (!(((rd_T71 l0 x5_1).f0.f1) == ((rd_T71 l1 x5_1).f0.f1)) || (!(((rd_T71 l0 x5_1).f0.f2) == ((rd_T71 l1 x5_1).f0.f2)) || (!(((rd_T71 l0 x5_1).f0.f3) == ((rd_T71 l1 x5_1).f0.f3)))))) || (!(((rd_T71 l0 x5_1).f1) == ((rd_T71 l1 x5_1).f1)) || (!(((rd_T71 l0 x5_1).f2) == ((rd_T71 l1 x5_1).f2))))) = true then (some false) else (Qat.l0 kj2 l0 l1 (wrap64 (x5_1 + 1)))) else (none)) else (none)) else (none)) = some r := by rw [if_pos rfl] at H; exact H
      clear H
      have H := H1
      clear H1
      by_cases c6 : 0 ≤ x5_1
      ·rw [if_pos c6] at H
       have c6b0 : decide (0 ≤ x5_1) = true := decide_eq_true c6
       clear c6
       (try simp only [c6b0])
       by_cases c7 : x5_1 < (l0.length : Int)
       ·rw [if_pos c7] at H
        have c7b0 : decide (x5_1 < (l0.length : Int)) = true := decide_eq_true c7
        clear c7
        by_cases c8 : x5_1 < (l1.length : Int)
        ·rw [if_pos c8] at H
         have c8b0 : decide (x5_1 < (l1.length : Int)) = true := decide_eq_true c8
         clear c8
         have p782 : 0 ≤ (x5_1 : Int) := Ze
         have q782 : x5_1 < (l0.length : Int) := Ze
         obtain ⟨ad782, e782, hx782_0, hx782_1, hx782_2, hx782_3, hx782_4, hx782_5⟩ := at_T71 HR0.out x5_1 p782 q782
         cases e782
         replace p782 := eq_true p782
         replace q782 := eq_true q782
         have p783 : 0 ≤ (x5_1 : Int) := Ze
         have q783 : x5_1 < (l1.length : Int) := Ze
         obtain ⟨ad783, e783, hx783_0, hx783_1, hx783_2, hx783_3, hx783_4, hx783_5⟩ := at_T71 HR1.out x5_1 p783 q783
         cases e783
         replace p783 := eq_true p783
         replace q783 := eq_true q783
         go_upto_if 26 with (fail)
         repeat (go_quiet (fail); go_upto_if 26 with (fail))
         by_cases c9 : ((!((((rd_T71 l0 x5_1).f0.f0).toList) == (((rd_T71 l1 x5_1).f0.f0).toList)) || (!(((rd_T71 l0 x5_1).f0.f1) == ((rd_T71 l1 x5_1).f0.f1)) || (!(((rd_T71 l0 x5_1).f0.f2) == ((rd_T71 l1 x5_1).f0.f2)) || (!(((rd_T71 l0 x5_1).f0.f3) == ((rd_T71 l1 x5_1).f0.f3)))))) || (!(((rd_T71 l0 x5_1).f1) == ((rd_T71 l1 x5_1).f1)) || (!(((rd_T71 l0 x5_1).f2) == ((rd_T71 l1 x5_1).f2))))) = true
         ·rw [if_pos c9] at H
          have c9b0 : ((!((((rd_T71 l0 x5_1).f0.f0).toList) == (((rd_T71 l1 x5_1).f0.f0).toList)) || (!(((rd_T71 l0 x5_1).f0.f1) == ((rd_T71 l1 x5_1).f0.f1)) || (!(((rd_T71 l0 x5_1).f0.f2) == ((rd_T71 l1 x5_1).f0.f2)) || (!(((rd_T71 l0 x5_1).f0.f3) == ((rd_T71 l1 x5_1).f0.f3)))))) || (!(((rd_T71 l0 x5_1).f1) == ((rd_T71 l1 x5_1).f1)) || (!(((rd_T71 l0 x5_1).f2) == ((rd_T71 l1 x5_1).f2))))) = true := c9
          clear c9
          (try simp only [c9b0])
          obtain rfl := Option.some.inj H
          go_wp2
          repeat (go_quiet (fail); try go_wp2)
          go_ret
          exact ⟨Zs, Zd⟩
         rw [if_neg c9] at H
         have c9b0 : ((!((((rd_T71 l0 x5_1).f0.f0).toList) == (((rd_T71 l1 x5_1).f0.f0).toList)) || (!(((rd_T71 l0 x5_1).f0.f1) == ((rd_T71 l1 x5_1).f0.f1)) || (!(((rd_T71 l0 x5_1).f0.f2) == ((rd_T71 l1 x5_1).f0.f2)) || (!(((rd_T71 l0 x5_1).f0.f3) == ((rd_T71 l1 x5_1).f0.f3)))))) || (!(((rd_T71 l0 x5_1).f1) == ((rd_T71 l1 x5_1).f1)) || (!(((rd_T71 l0 x5_1).f2) == ((rd_T71 l1 x5_1).f2))))) = false := by simpa using c9
         clear c9
         (try simp only [c9b0])
         have H' := Aside0.mk H
         clear H
         go_wp2
         repeat (go_quiet (fail); try go_wp2)
         go_roundg kj2
         case measure => have := HK1.out; have := HJ2.out; omega
         case rel => exact ⟨(wrap64 (x5_1 + 1)), (Zs), H', ⟨by have := HK1.out; have := HJ2.out; omega⟩, Zd⟩
        rw [if_neg c8] at H
        exact absurd H (by simp)
       rw [if_neg c7] at H
       exact absurd H (by simp)
      rw [if_neg c6] at H
      exact absurd H (by simp)
     replace c5 := Bool.eq_false_iff.mpr c5
     subst c5
     have H1 : (some ((l0.length : Int) == (l1.length : Int))) = some r := by rw [if_neg (show ¬ (false = true) by decide)] at H; exact H
     clear H
     have H := H1
     clear H1
     obtain rfl := Option.some.inj H
     go_wp2
     repeat (go_quiet (fail); try go_wp2)
     go_ret
     exact ⟨Zs, Zd⟩
end Go.Proofs.Ytgnmhfjfefgbfaa.Pr
