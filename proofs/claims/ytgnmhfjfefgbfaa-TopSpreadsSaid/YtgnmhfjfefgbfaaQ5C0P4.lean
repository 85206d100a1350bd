/- Functions' values and contracts, as the print wrote them. -/
import Derived.Test.YtgnmhfjfefgbfaaQ5C0P0
import Derived.Test.YtgnmhfjfefgbfaaQ5C0P3
import Derived.Test.YtgnmhfjfefgbfaaQ5C0P2
namespace Go.Proofs.Ytgnmhfjfefgbfaa.Pr
open Bool renaming true → T
open Bool renaming false → F
open Go.RowKit Go.Proofs.YtgnmhfjfefgbfaaW.PrintWords Go.Proofs.YtgnmhfjfefgbfaaW.PrintLast Go.Proofs.YtgnmhfjfefgbfaaW.PrintMore
attribute [local go_sem] QaR QaT QaY QaZ QaN QaO QaS QaU   -- for this text's walks alone
set_option linter.unusedVariables false
set_option linter.unusedSimpArgs false
set_option maxRecDepth 100000
set_option maxHeartbeats 8000000
mutual
def Qak.l0 : Nat → List Int → List Int → List (S146) → Int → Int → Option (List Int × List Int × Int)
 | 0, _, _, _, _, _ => none
 | k + 1, x0, x1, x2, x30, x31 => if x31 < x30 then (if 0 ≤ x31 then (if x31 < (x0.length : Int) then ((QaW.f (rd x0 x31) 0 73048).bind fun t450 => (if t450 = T then (if x31 > 0 then (if 0 ≤ (wrap64 (x31 - 1)) then (if (wrap64 (x31 - 1)) < (x0.length : Int) then (if (rd x0 x31) ≤ (rd x0 (wrap64 (x31 - 1))) then (some (([] : List Int), ([] : List Int), 2)) else (if x31 < (x1.length : Int) then ((QaW.f (rd x1 x31) (-1099511627776) 1099511627776).bind fun t454 => (if t454 = T then (Qak.l0 k x0 x1 x2 x30 (wrap64 (x31 + 1))) else (some (([] : List Int), ([] : List Int), 2)))) else (none))) else (none)) else (none)) else (if x31 < (x1.length : Int) then ((QaW.f (rd x1 x31) (-1099511627776) 1099511627776).bind fun t456 => (if t456 = T then (Qak.l0 k x0 x1 x2 x30 (wrap64 (x31 + 1))) else (some (([] : List Int), ([] : List Int), 2)))) else (none))) else (some (([] : List Int), ([] : List Int), 2)))) else (none)) else (none)) else ((Qa7.f x1).bind fun t457 => (if 0 ≤ (x2.length : Int) then (if ((x2.length : Int) : Int).toNat ≤ 35184372088832 then (Qak.l1 k x0 x2 (List.replicate ((x2.length : Int) : Int).toNat 0) t457 (x2.length : Int) 0) else (none)) else (none)))
def Qak.l1 : Nat → List Int → List (S146) → List Int → List Int → Int → Int → Option (List Int × List Int × Int)
 | 0, _, _, _, _, _, _ => none
 | k + 1, x0, x2, x6, x7, x71, x72 => if x72 < x71 then (if 0 ≤ x72 then (if x72 < (x2.length : Int) then (Qak.l2 k x0 x2 x6 x7 x72 x71 x72 0 0 0) else (none)) else (none)) else (some (x6, x7, 0))
def Qak.l2 : Nat → List Int → List (S146) → List Int → List Int → Int → Int → Int → Int → Int → Int → Option (List Int × List Int × Int)
 | 0, _, _, _, _, _, _, _, _, _, _ => none
 | k + 1, x0, x2, x6, x7, x10, x71, x72, x86, x464000, x464001 => if x86 < 2 then (if x86 = 0 then ((Qal.f k x0 ((QaB x2 x72).f0)).bind fun bt466 => (if bt466.2 = T then (Qak.l2 k x0 x2 x6 x7 x10 x71 x72 (wrap64 (x86 + 1)) bt466.1 x464001) else (Qak.l1 k x0 x2 x6 x7 x71 (wrap64 (x72 + 1))))) else (if x86 = 1 then ((Qal.f k x0 ((QaB x2 x72).f1)).bind fun bt468 => (if bt468.2 = T then (Qak.l2 k x0 x2 x6 x7 x10 x71 x72 (wrap64 (x86 + 1)) x464000 bt468.1) else (Qak.l1 k x0 x2 x6 x7 x71 (wrap64 (x72 + 1))))) else (none))) else (if 0 ≤ x464000 then (if x464000 < (x7.length : Int) then (if 0 ≤ x464001 then (if x464001 < (x7.length : Int) then (if (rd x7 x464000) = 0 then (Qak.j3 k x0 x2 x6 x7 x10 x71 x72 T x464000 x464001) else (if (rd x7 x464001) = 0 then (Qak.j3 k x0 x2 x6 x7 x10 x71 x72 T x464000 x464001) else (Qak.j3 k x0 x2 x6 x7 x10 x71 x72 ((decide ((rd x7 x464000) > 0)) == (decide ((rd x7 x464001) > 0))) x464000 x464001))) else (none)) else (none)) else (none)) else (none))
def Qak.j3 : Nat → List Int → List (S146) → List Int → List Int → Int → Int → Int → Bool → Int → Int → Option (List Int × List Int × Int)
 | 0, _, _, _, _, _, _, _, _, _, _ => none
 | k + 1, x0, x2, x6, x7, x10, x71, x72, x130, x464000, x464001 => if x130 = T then (Qak.l1 k x0 x2 x6 x7 x71 (wrap64 (x72 + 1))) else (if 0 ≤ x464000 then (if x464000 < (x7.length : Int) then ((QbB.f (rd x7 x464000)).bind fun t477 => (if 0 ≤ x464001 then (if x464001 < (x7.length : Int) then ((QbB.f (rd x7 x464001)).bind fun t479 => (if (rd x7 x464000) < 0 then ((some (x7.set (x464001 : Int).toNat (wrap64 ((rd x7 x464001) - (wrap64 ((wrap64 (Int.tdiv (mn t477 t479) 1000)) * 1000)))) : List Int)).bind fun y482 => (if 0 ≤ x10 then (if x10 < (x6.length : Int) then (Qak.l1 k x0 x2 (x6.set (x10 : Int).toNat (wrap64 (Int.tdiv (mn t477 t479) 1000))) (y482.set (x464000 : Int).toNat (wrap64 ((rd y482 x464000) + (wrap64 ((wrap64 (Int.tdiv (mn t477 t479) 1000)) * 1000))))) x71 (wrap64 (x72 + 1))) else (none)) else (none))) else ((some (x7.set (x464000 : Int).toNat (wrap64 ((rd x7 x464000) - (wrap64 ((wrap64 (Int.tdiv (mn t477 t479) 1000)) * 1000)))) : List Int)).bind fun y487 => (if 0 ≤ x10 then (if x10 < (x6.length : Int) then (Qak.l1 k x0 x2 (x6.set (x10 : Int).toNat (wrap64 (Int.tdiv (mn t477 t479) 1000))) (y487.set (x464001 : Int).toNat (wrap64 ((rd y487 x464001) + (wrap64 ((wrap64 (Int.tdiv (mn t477 t479) 1000)) * 1000))))) x71 (wrap64 (x72 + 1))) else (none)) else (none))))) else (none)) else (none))) else (none)) else (none))
end
def Qak.f (k : Nat) (l0 : List Int) (l1 : List Int) (l2 : List (S146)) : Option (List Int × List Int × Int) := (QaF.f k l2).bind fun t448 => (if t448 = 0 then (if (l1.length : Int) = (l0.length : Int) then (Qak.l0 k l0 l1 l2 (l0.length : Int) 0) else (some (([] : List Int), ([] : List Int), 2))) else (some (([] : List Int), ([] : List Int), t448)))
theorem Qak.mono_l : ∀ k, (∀ y0 y1 y2 y3 y4, LeO (Qak.l0 k y0 y1 y2 y3 y4) (Qak.l0 (k + 1) y0 y1 y2 y3 y4)) ∧ (∀ y0 y1 y2 y3 y4 y5, LeO (Qak.l1 k y0 y1 y2 y3 y4 y5) (Qak.l1 (k + 1) y0 y1 y2 y3 y4 y5)) ∧ (∀ y0 y1 y2 y3 y4 y5 y6 y7 y8 y9, LeO (Qak.l2 k y0 y1 y2 y3 y4 y5 y6 y7 y8 y9) (Qak.l2 (k + 1) y0 y1 y2 y3 y4 y5 y6 y7 y8 y9)) ∧ (∀ y0 y1 y2 y3 y4 y5 y6 y7 y8 y9, LeO (Qak.j3 k y0 y1 y2 y3 y4 y5 y6 y7 y8 y9) (Qak.j3 (k + 1) y0 y1 y2 y3 y4 y5 y6 y7 y8 y9))
 | 0 => ⟨fun _ _ _ _ _ r h => by simp [Qak.l0] at h, fun _ _ _ _ _ _ r h => by simp [Qak.l1] at h, fun _ _ _ _ _ _ _ _ _ _ r h => by simp [Qak.l2] at h, fun _ _ _ _ _ _ _ _ _ _ r h => by simp [Qak.j3] at h⟩
 | k + 1 => by
  obtain ⟨ih0, ih1, ih2, ih3⟩ := Qak.mono_l k
  refine ⟨?_, ?_, ?_, ?_⟩
  ·intro y0 y1 y2 y3 y4
   unfold Qak.l0
   exact ZM6 ih0 ih1 ih2 ih3 Qal.mono QaF.mono
  ·intro y0 y1 y2 y3 y4 y5
   unfold Qak.l1
   exact ZM6 ih0 ih1 ih2 ih3 Qal.mono QaF.mono
  ·intro y0 y1 y2 y3 y4 y5 y6 y7 y8 y9
   unfold Qak.l2
   exact ZM6 ih0 ih1 ih2 ih3 Qal.mono QaF.mono
  intro y0 y1 y2 y3 y4 y5 y6 y7 y8 y9
  unfold Qak.j3
  exact ZM6 ih0 ih1 ih2 ih3 Qal.mono QaF.mono
theorem Qak.mono : ∀ a0 a1 a2 k, LeO (Qak.f k a0 a1 a2) (Qak.f (k + 1) a0 a1 a2) := by
 intro a0 a1 a2 k
 obtain ⟨ih0, ih1, ih2, ih3⟩ := Qak.mono_l k
 unfold Qak.f
 exact ZM6 ih0 ih1 ih2 ih3 Qal.mono QaF.mono
def Qak.T9 : Bool × List (List Nat × List Nat) := (T, [([], []), ([], []), ([0, 1], [0, 1]), ([2], [2]), ([3], [3]), ([4], [4]), ([5, 4], [5]), ([6], [6]), ([7, 6], [6, 7]), ([8, 6, 6], [6, 8]), ([9], [9]), ([9], [9]), ([10, 11, 9], [9, 10, 11]), ([12, 9], [9, 12]), ([9], [9]), ([9], [9]), ([15, 9], [9, 15]), ([14, 16, 9], [9, 14, 16]), ([17, 9], [9, 17]), ([13, 18, 9], [9, 13, 18]), ([9, 19, 6], [6, 9, 19]), ([6, 20], [6, 20]), ([21, 9], [21]), ([22], [22]), ([22], [22]), ([23, 24, 22], [22, 23, 24]), ([25, 22], [22, 25]), ([26, 22, 22], [22, 26]), ([27, 22], [22, 27]), ([22, 28], [22, 28])])
def Qak.B9 : List Nat := [0, 0, 3, 7, 15, 31, 63, 127, 255, 511, 1023, 1023, 4095, 8191, 1023, 1023, 33791, 115711, 246783, 524287, 1048575, 2097151, 4194303, 8388607, 8388607, 33554431, 67108863, 134217727, 268435455, 536870911]
theorem Qak.tab9 : rtab .any (opsOf Try.f19 9) = Qak.T9 := by kernel_rfl
theorem Qak.bits9 : Qbb Qak.T9.2 Qak.B9 = T := by kernel_rfl
def Qak.T18 : Bool × List (List Nat × List Nat) := (T, [([], []), ([], []), ([0, 1], [0, 1]), ([2], [2]), ([3], [3]), ([], []), ([], []), ([5, 6], [5, 6]), ([7], [7]), ([8], [8]), ([4, 9], [4, 9]), ([], [])])
def Qak.B18 : List Nat := [0, 0, 3, 7, 15, 0, 0, 96, 224, 480, 1023, 0]
theorem Qak.tab18 : rtab .any (opsOf Try.f19 18) = Qak.T18 := by kernel_rfl
theorem Qak.bits18 : Qbb Qak.T18.2 Qak.B18 = T := by kernel_rfl
def Qak.T25 : Bool × List (List Nat × List Nat) := (T, [([], []), ([], []), ([1], [1]), ([0, 2], [0, 2]), ([], []), ([], []), ([5], [5]), ([4, 6], [4, 6]), ([3, 0, 1, 2, 3], [3]), ([7, 8, 0, 1, 2, 3, 4, 5, 6, 7, 8], [7])])
def Qak.B25 : List Nat := [0, 0, 2, 7, 0, 0, 32, 112, 15, 511]
theorem Qak.tab25 : rtab .any (opsOf Try.f19 25) = Qak.T25 := by kernel_rfl
theorem Qak.bits25 : Qbb Qak.T25.2 Qak.B25 = T := by kernel_rfl
def Qak.T26 : Bool × List (List Nat × List Nat) := (T, [([], []), ([0], [0]), ([1], [1]), ([2], [2]), ([3], [3]), ([4], [4]), ([5, 4], [4, 5]), ([6, 4], [4, 6]), ([7, 4], [4, 7]), ([4, 8], [4, 8]), ([9, 4], [9]), ([10], [10]), ([11, 10], [10, 11]), ([12, 10], [10, 12]), ([13, 10], [10, 13]), ([10], [10]), ([15, 10], [10, 15]), ([16, 10], [10, 16]), ([17, 10], [10, 17]), ([14, 18, 10], [10, 14, 18]), ([10, 19], [10, 19])])
def Qak.B26 : List Nat := [0, 1, 3, 7, 15, 31, 63, 127, 255, 511, 1023, 2047, 4095, 8191, 16383, 2047, 34815, 100351, 231423, 524287, 1048575]
theorem Qak.tab26 : rtab .any (opsOf Try.f19 26) = Qak.T26 := by kernel_rfl
theorem Qak.bits26 : Qbb Qak.T26.2 Qak.B26 = T := by kernel_rfl
def Qak.T27 : Bool × List (List Nat × List Nat) := (T, [([], []), ([0], [0]), ([1], [1]), ([2], [2]), ([], []), ([4], [4]), ([5], [5]), ([6, 3], [6]), ([3, 7], [3, 7]), ([8], [8]), ([9, 7, 0, 1, 2, 3, 4, 5, 6, 7, 8, 9], [9])])
def Qak.B27 : List Nat := [0, 1, 3, 7, 0, 16, 48, 127, 255, 511, 1023]
theorem Qak.tab27 : rtab .any (opsOf Try.f19 27) = Qak.T27 := by kernel_rfl
theorem Qak.bits27 : Qbb Qak.T27.2 Qak.B27 = T := by kernel_rfl
theorem Qak.calls (k : Nat) (A0 : Option Addr) (c0 : Nat) (l0 : List Int) (A1 : Option Addr) (c1 : Nat) (l1 : List Int) (A2 : Option Addr) (c2 : Nat) (l2 : List (S146)) (r1 : List Int) (r2 : List Int) (r3 : Int) (w : World) (hr0 : Kd.C (Kd.int .i64) w A0 l0.length l0) (hc0 : l0.length ≤ c0) (hr1 : Kd.C (Kd.int .i64) w A1 l1.length l1) (hc1 : l1.length ≤ c1) (hr2 : Kd.C k146 w A2 l2.length l2) (hc2 : l2.length ≤ c2) (h : Qak.f k l0 l1 l2 = some (r1, r2, r3)) :
  Calls Try.prog 19 #[.slice A0 l0.length c0, .slice A1 l1.length c1, .slice A2 l2.length c2] w fun e w' => ∃ v0_ v1_ : Value, e = .returned (.tuple #[v0_, v1_, .int .i64 r3]) ∧ Kd.R (Kd.int .i64) 3 w' w.heap.size (fun k_ => some k_ ≠ (v1_ : Value).ownBlock) v0_ r1 ∧ Kd.R (Kd.int .i64) 3 w' w.heap.size (fun k_ => some k_ ≠ (v0_ : Value).ownBlock) v1_ r2 ∧ Below w.heap.size w w' := by
 have hu144 := Try.underlying144
 have hix144_0 : ∀ (x0_ x1_ : Value) (W : World), (Instr.index 144 (.agg #[x0_, x1_]) (.int .i64 0)).run Try.prog W = .ok x0_ W := fun _ _ _ => by kernel_rfl
 have hix144_1 : ∀ (x0_ x1_ : Value) (W : World), (Instr.index 144 (.agg #[x0_, x1_]) (.int .i64 1)).run Try.prog W = .ok x1_ W := fun _ _ _ => by kernel_rfl
 have HR0 := Aside0.mk hr0
 have HC0 := Aside0.mk hc0
 clear hr0 hc0
 have HR1 := Aside0.mk hr1
 have HC1 := Aside0.mk hc1
 clear hr1 hc1
 have HR2 := Aside0.mk hr2
 have HC2 := Aside0.mk hc2
 clear hr2 hc2
 have HB := Aside0.mk (Below.refl w.heap.size w)
 have H : ((QaF.f k l2).bind fun t448 => (if t448 = 0 then (if (l1.length : Int) = (l0.length : Int) then (Qak.l0 k l0 l1 l2 (l0.length : Int) 0) else (some (([] : List Int), ([] : List Int), 2))) else (some (([] : List Int), ([] : List Int), t448)))) = some (r1, r2, r3) := h
 clear h
 replace H := Option.bind_eq_some_iff.mp H
 obtain ⟨t448, A40, H⟩ := H
 replace H : (if t448 = 0 then (if (l1.length : Int) = (l0.length : Int) then (Qak.l0 k l0 l1 l2 (l0.length : Int) 0) else (some (([] : List Int), ([] : List Int), 2))) else (some (([] : List Int), ([] : List Int), t448))) = some (r1, r2, r3) := H
 have A4 := Aside0.mk A40
 clear A40
 go_enter Try.func19, Try.ntmps19
 try go_wp2
 refine Qdd ?_
 go_upto_if 22 with (first | ((with_reducible refine QaH (f := 61) rfl ?_); refine goesL_ (some 20) rfl rfl Try.func61 (by kernel_rfl) rfl #[.slice A2 l2.length c2] rfl (Zl) ?_; (with_reducible refine (QaF.calls k _ _ l2 t448 _ ?side1 ?side2 A4.out).mono ?_); (case side1 => exact Zv HR2.out); (case side2 => exact HC2.out); rintro e w5 ⟨rfl, hb⟩; refine ⟨_, rfl, ?_⟩; replace HB := Aside0.mk (Qav (Zb) hb); (try clear hb); (try clear hb2); (try clear hk); (try clear hi)))
 (try simp only [Act.put, Zj, Zk, Zm])
 by_cases c6 : t448 = 0
 ·rw [if_pos c6] at H
  have c6b0 : (t448 == 0) = T := beq_iff_eq.mpr c6
  have c6b1 : (t448 != 0) = F := bne_eq_false_iff_eq.mpr c6
  clear c6
  (try simp only [c6b0, c6b1])
  by_cases c7 : (l1.length : Int) = (l0.length : Int)
  ·rw [if_pos c7] at H
   have c7b0 : ((l1.length : Int) == (l0.length : Int)) = T := beq_iff_eq.mpr c7
   have c7b1 : ((l1.length : Int) != (l0.length : Int)) = F := bne_eq_false_iff_eq.mpr c7
   have c7b2 : (l1.length == l0.length) = T := by first | simpa using c7 | (simp at c7 ⊢; omega)
   clear c7
   (try simp only [c7b0, c7b1, c7b2])
   have H' := Aside0.mk H
   clear H
   go_wp2
   go_loopg [31] k (fun kq v31 w' => ∃ (x31_1 : Int), v31 = .int .i64 x31_1 ∧ Aside0 (Qak.l0 kq l0 l1 l2 (l0.length : Int) x31_1 = some (r1, r2, r3)) ∧ Aside0 (kq ≤ k) ∧ Aside0 (Below w.heap.size w w'))
   case atStart => exact ⟨(0), (Zs2), H', ⟨Nat.le_refl _⟩, ⟨Zb⟩⟩
   case round =>
    clear H'
    try clear c1
    try clear c2
    try clear p2
    try clear c6
    try clear c6b0
    try clear c6b1
    try clear c7
    try clear c7b0
    try clear c7b1
    try clear c7b2
    obtain ⟨x31_1, rfl, HA, HK1, HB⟩ := hrel
    cases gk with
    | zero => exact absurd HA.out (by simp [Qak.l0])
    | succ k1 =>
     have H := HA.out
     clear HA
     simp only [Qak.l0] at H
     by_cases c8 : x31_1 < (l0.length : Int)
     ·rw [if_pos c8] at H
      have c8b0 : decide (x31_1 < (l0.length : Int)) = T := decide_eq_true c8
      clear c8
      (try simp only [c8b0])
      by_cases c9 : 0 ≤ x31_1
      ·rw [if_pos c9] at H
       have c9b0 : decide (0 ≤ x31_1) = T := decide_eq_true c9
       clear c9
       by_cases c10 : x31_1 < (l0.length : Int)
       ·rw [if_pos c10] at H
        have c10b0 : decide (x31_1 < (l0.length : Int)) = T := decide_eq_true c10
        clear c10
        replace H := Option.bind_eq_some_iff.mp H
        obtain ⟨t450, A110, H⟩ := H
        replace H : (if t450 = T then (if x31_1 > 0 then (if 0 ≤ (wrap64 (x31_1 - 1)) then (if (wrap64 (x31_1 - 1)) < (l0.length : Int) then (if (rd l0 x31_1) ≤ (rd l0 (wrap64 (x31_1 - 1))) then (some (([] : List Int), ([] : List Int), 2)) else (if x31_1 < (l1.length : Int) then ((QaW.f (rd l1 x31_1) (-1099511627776) 1099511627776).bind fun t454 => (if t454 = T then (Qak.l0 k1 l0 l1 l2 (l0.length : Int) (wrap64 (x31_1 + 1))) else (some (([] : List Int), ([] : List Int), 2)))) else (none))) else (none)) else (none)) else (if x31_1 < (l1.length : Int) then ((QaW.f (rd l1 x31_1) (-1099511627776) 1099511627776).bind fun t456 => (if t456 = T then (Qak.l0 k1 l0 l1 l2 (l0.length : Int) (wrap64 (x31_1 + 1))) else (some (([] : List Int), ([] : List Int), 2)))) else (none))) else (some (([] : List Int), ([] : List Int), 2))) = some (r1, r2, r3) := H
        have A11 := Aside0.mk A110
        clear A110
        by_cases c12 : t450 = T
        ·subst c12
         have H1 : (if x31_1 > 0 then (if 0 ≤ (wrap64 (x31_1 - 1)) then (if (wrap64 (x31_1 - 1)) < (l0.length : Int) then (if (rd l0 x31_1) ≤ (rd l0 (wrap64 (x31_1 - 1))) then (some (([] : List Int), ([] : List Int), 2)) else (if x31_1 < (l1.length : Int) then ((QaW.f (rd l1 x31_1) (-1099511627776) 1099511627776).bind fun t454 => (if t454 = T then (Qak.l0 k1 l0 l1 l2 (l0.length : Int) (wrap64 (x31_1 + 1))) else (some (([] : List Int), ([] : List Int), 2)))) else (none))) else (none)) else (none)) else (if x31_1 < (l1.length : Int) then ((QaW.f (rd l1 x31_1) (-1099511627776) 1099511627776).bind fun t456 => (if t456 = T then (Qak.l0 k1 l0 l1 l2 (l0.length : Int) (wrap64 (x31_1 + 1))) else (some (([] : List Int), ([] : List Int), 2)))) else (none))) = some (r1, r2, r3) := by rw [if_pos rfl] at H; exact H
         clear H
         have H := H1
         clear H1
         by_cases c13 : x31_1 > 0
         ·rw [if_pos c13] at H
          have c13b0 : decide (0 < x31_1) = T := decide_eq_true c13
          clear c13
          obtain ⟨ji14, hji14⟩ : ∃ j_ : Int, (wrap64 (x31_1 - 1)) = j_ := ⟨_, rfl⟩
          replace H : (if 0 ≤ (ji14) then (if (ji14) < (l0.length : Int) then (if (rd l0 x31_1) ≤ (rd l0 (ji14)) then (some (([] : List Int), ([] : List Int), 2)) else (if x31_1 < (l1.length : Int) then ((QaW.f (rd l1 x31_1) (-1099511627776) 1099511627776).bind fun t454 => (if t454 = T then (Qak.l0 k1 l0 l1 l2 (l0.length : Int) (wrap64 (x31_1 + 1))) else (some (([] : List Int), ([] : List Int), 2)))) else (none))) else (none)) else (none)) = some (r1, r2, r3) := by first | (rw [hji14] at H; exact H) | (simp only [hji14] at H ⊢; exact H)
          (try rw [hji14] at A11)
          have hji14w : (IntKind.i64.wrap (x31_1 - 1)) = ji14 := (i64_w _).trans hji14
          by_cases c15 : 0 ≤ (ji14)
          ·rw [if_pos c15] at H
           have c15b0 : decide (0 ≤ (ji14)) = T := decide_eq_true c15
           clear c15
           by_cases c16 : (ji14) < (l0.length : Int)
           ·rw [if_pos c16] at H
            have c16b0 : decide ((ji14) < (l0.length : Int)) = T := decide_eq_true c16
            clear c16
            by_cases c17 : (rd l0 x31_1) ≤ (rd l0 (ji14))
            ·rw [if_pos c17] at H
             have c17b0 : decide ((rd l0 x31_1) ≤ (rd l0 (ji14))) = T := decide_eq_true c17
             clear c17
             simp only [Option.some.injEq, Prod.mk.injEq] at H
             obtain ⟨rfl, rfl, rfl⟩ := H
             try go_wp2
             replace HB := Aside0.mk (Qac HB.out)
             have p449 : 0 ≤ (x31_1 : Int) := Ze
             have q449 : x31_1 < (l0.length : Int) := Ze
             obtain ⟨ad449, e449, hx449_0⟩ := Kd.at_int HR0.out x31_1 p449 q449
             have hw449_0 := hx449_0
             cases e449
             replace hx449_0 := Zx HB.out hx449_0
             replace p449 := eq_true p449
             replace q449 := eq_true q449
             have p451 : 0 ≤ (x31_1 : Int) := Ze
             have q451 : x31_1 < (l0.length : Int) := Ze
             obtain ⟨ad451, e451, hx451_0⟩ := Kd.at_int HR0.out x31_1 p451 q451
             have hw451_0 := hx451_0
             obtain rfl : ad449 = ad451 := (by injection e451)
             replace hx451_0 := Zx HB.out hx451_0
             replace p451 := eq_true p451
             replace q451 := eq_true q451
             have p452 : 0 ≤ ((ji14) : Int) := Ze
             have q452 : (ji14) < (l0.length : Int) := Ze
             obtain ⟨ad452, e452, hx452_0⟩ := Kd.at_int HR0.out (ji14) p452 q452
             have hw452_0 := hx452_0
             obtain rfl : ad449 = ad452 := (by injection e452)
             replace hx452_0 := Zx HB.out hx452_0
             replace p452 := eq_true p452
             replace q452 := eq_true q452
             refine start_ (n := 30) (S := fun w' => w'.cell? (ad449.add (x31_1).toNat) = some (.int .i64 (rd l0 x31_1)) ∧ w'.cell? (ad449.add (x31_1).toNat) = some (.int .i64 (rd l0 x31_1)) ∧ w'.cell? (ad449.add ((ji14)).toNat) = some (.int .i64 (rd l0 (ji14)))) (ds := []) #[F, F, F, F, F, F, F, F, F, F, F, F, F, F, F, F, F, F, F, F, F, F, F, F, F, F, F, F, F, F] (by kernel_rfl) rfl rfl ⟨((HB.out.cell (World.block_lt_of_cell? w _ hw449_0)).trans hw449_0), ((HB.out.cell (World.block_lt_of_cell? w _ hw451_0)).trans hw451_0), ((HB.out.cell (World.block_lt_of_cell? w _ hw452_0)).trans hw452_0)⟩ (fun hHeld => ?_); refine QaP Qak.tab9 Qak.bits9 (fun HT_ HW_ => ?_)
             generalize wr.drew = w18 at HB hx449_0 hx451_0 hx452_0 hHeld ⊢
             refine Zsp (i := 0) (N := some 34) (pm 30 1) HT_ ?_
             refine Zsp (i := 1) (N := some 35) (pm 30 2) HT_ ?_
             refine Zsp (i := 2) (N := some 36) (pm 30 3) HT_ ?_
             refine Zst (i := 3) (N := some 37) (pm 30 4) HT_ HW_ hHeld ?_ (hy := by (refine Or.inl ⟨by rfl, ?_⟩; rintro w' ⟨s0, s1, s2⟩; go_simp; with_reducible rfl))
             refine one_ (i := 4) (N := some 38) #[T, T, T, T, T, F, F, F, F, F, F, F, F, F, F, F, F, F, F, F, F, F, F, F, F, F, F, F, F, F] rfl rfl (one_of HT_.out (by kernel_rfl)) (by decide) (fun K hK => ?_)
             refine goes_ Try.func62 (by kernel_rfl) rfl #[.int .i64 (rd l0 x31_1), .int .i64 0, .int .i64 73048] (by rfl) rfl rfl (Zl) ?_
             with_reducible refine (QaW.calls (rd l0 x31_1) 0 73048 T _ A11.out).mono ?_
             rintro e w' ⟨rfl, ⟨nd, rfl⟩⟩
             refine ⟨_, rfl, ?_⟩
             refine hK.out _ _ ⟨((HB.out.cell (World.block_lt_of_cell? w _ hw449_0)).trans hw449_0), ((HB.out.cell (World.block_lt_of_cell? w _ hw451_0)).trans hw451_0), ((HB.out.cell (World.block_lt_of_cell? w _ hw452_0)).trans hw452_0)⟩ (fun hHeld => ?_)
             clear hK K
             refine norm_ (a' := ?_) ?_ ?_
             rotate_left
             ·show Act.put _ (some 38) _ = _
              simp only [Act.put, Zj, Zk, Zm, i64_w, i32_w]
              rfl
             refine Zsp (i := 5) (N := some 39) (pm 30 6) HT_ ?_
             refine Zsp (i := 6) (N := some 40) (pm 30 7) HT_ ?_
             refine Zsp (i := 7) (N := some 41) (pm 30 8) HT_ ?_
             refine Zsp (i := 8) (N := some 42) (pm 30 9) HT_ ?_
             refine Zsp (i := 9) (N := some 43) (pm 30 10) HT_ ?_
             refine Zsp (i := 10) (N := some 44) (pm 30 11) HT_ ?_
             refine Zsp (i := 11) (N := some 45) (pm 30 12) HT_ ?_
             refine Zsp (i := 12) (N := some 46) (pm 30 13) HT_ ?_
             refine Zsp (i := 14) (N := some 48) #[T, T, T, T, T, T, T, T, T, T, T, T, T, F, T, F, F, F, F, F, F, F, F, F, F, F, F, F, F, F] HT_ ?_
             refine Zsp (i := 15) (N := some 49) #[T, T, T, T, T, T, T, T, T, T, T, T, T, F, T, T, F, F, F, F, F, F, F, F, F, F, F, F, F, F] HT_ ?_
             refine Zsp (i := 16) (N := some 50) #[T, T, T, T, T, T, T, T, T, T, T, T, T, F, T, T, T, F, F, F, F, F, F, F, F, F, F, F, F, F] HT_ ?_
             refine Zsp (i := 17) (N := some 51) #[T, T, T, T, T, T, T, T, T, T, T, T, T, F, T, T, T, T, F, F, F, F, F, F, F, F, F, F, F, F] HT_ ?_
             refine Zst (i := 13) (N := some 47) (pm 30 18) HT_ HW_ hHeld ?_ (hy := by (refine Or.inl ⟨by rfl, ?_⟩; rintro w' ⟨s0, s1, s2⟩; go_simp; with_reducible rfl))
             refine Zst (i := 18) (N := some 52) (pm 30 19) HT_ HW_ hHeld ?_ (hy := by (refine Or.inl ⟨by rfl, ?_⟩; rintro w' ⟨s0, s1, s2⟩; go_simp; with_reducible rfl))
             refine Zsp (i := 19) (N := some 53) (pm 30 20) HT_ ?_
             refine Zsp (i := 20) (N := some 54) (pm 30 21) HT_ ?_
             refine Zsp (i := 21) (N := some 55) (pm 30 22) HT_ ?_
             refine Zsp (i := 22) (N := some 56) (pm 30 23) HT_ ?_
             refine Zso (i := 23) (N := some 57) (pm 30 24) HT_ ?_
             refine Zso (i := 24) (N := some 58) (pm 30 25) HT_ ?_
             refine Zso (i := 25) (N := some 59) (pm 30 26) HT_ ?_
             refine Zso (i := 26) (N := some 60) (pm 30 27) HT_ ?_
             refine Zso (i := 27) (N := some 61) (pm 30 28) HT_ ?_
             refine Zso (i := 28) (N := some 62) (pm 30 29) HT_ ?_
             refine Zsp (i := 29) (N := some 63) (pm 30 30) HT_ ?_
             refine done_ (QaX HT_.out (by kernel_rfl)) ?_
             try go_wp2
             go_ret3
             exact ⟨_, _, by first | rfl | (simp [Qas, Qat] <;> rfl) | (simp only [← hji14]; first | rfl | (simp [Qas, Qat] <;> rfl)) | (simp [*, Qas, Qat] <;> rfl), by first | exact Kd.R_nil _ _ _ _ _ | exact Kd.N_nil _ _ _ _ _ | exact Kd.V_nil _ _ _ _ _ | exact Kd.Q_nil _ _ _ _ _ | exact Kd.S_nil _ _ _ _ _, by first | exact Kd.R_nil _ _ _ _ _ | exact Kd.N_nil _ _ _ _ _ | exact Kd.V_nil _ _ _ _ _ | exact Kd.Q_nil _ _ _ _ _ | exact Kd.S_nil _ _ _ _ _, Zb⟩
            rw [if_neg c17] at H
            have c17b0 : decide ((rd l0 x31_1) ≤ (rd l0 (ji14))) = F := decide_eq_false c17
            clear c17
            by_cases c19 : x31_1 < (l1.length : Int)
            ·rw [if_pos c19] at H
             have c19b0 : decide (x31_1 < (l1.length : Int)) = T := decide_eq_true c19
             clear c19
             replace H := Option.bind_eq_some_iff.mp H
             obtain ⟨t454, A200, H⟩ := H
             replace H : (if t454 = T then (Qak.l0 k1 l0 l1 l2 (l0.length : Int) (wrap64 (x31_1 + 1))) else (some (([] : List Int), ([] : List Int), 2))) = some (r1, r2, r3) := H
             have A20 := Aside0.mk A200
             clear A200
             try go_wp2
             replace HB := Aside0.mk (Qac HB.out)
             have p449 : 0 ≤ (x31_1 : Int) := Ze
             have q449 : x31_1 < (l0.length : Int) := Ze
             obtain ⟨ad449, e449, hx449_0⟩ := Kd.at_int HR0.out x31_1 p449 q449
             have hw449_0 := hx449_0
             cases e449
             replace hx449_0 := Zx HB.out hx449_0
             replace p449 := eq_true p449
             replace q449 := eq_true q449
             have p451 : 0 ≤ (x31_1 : Int) := Ze
             have q451 : x31_1 < (l0.length : Int) := Ze
             obtain ⟨ad451, e451, hx451_0⟩ := Kd.at_int HR0.out x31_1 p451 q451
             have hw451_0 := hx451_0
             obtain rfl : ad449 = ad451 := (by injection e451)
             replace hx451_0 := Zx HB.out hx451_0
             replace p451 := eq_true p451
             replace q451 := eq_true q451
             have p452 : 0 ≤ ((ji14) : Int) := Ze
             have q452 : (ji14) < (l0.length : Int) := Ze
             obtain ⟨ad452, e452, hx452_0⟩ := Kd.at_int HR0.out (ji14) p452 q452
             have hw452_0 := hx452_0
             obtain rfl : ad449 = ad452 := (by injection e452)
             replace hx452_0 := Zx HB.out hx452_0
             replace p452 := eq_true p452
             replace q452 := eq_true q452
             have p453 : 0 ≤ (x31_1 : Int) := Ze
             have q453 : x31_1 < (l1.length : Int) := Ze
             obtain ⟨ad453, e453, hx453_0⟩ := Kd.at_int HR1.out x31_1 p453 q453
             have hw453_0 := hx453_0
             cases e453
             replace hx453_0 := Zx HB.out hx453_0
             replace p453 := eq_true p453
             replace q453 := eq_true q453
             refine start_ (n := 30) (S := fun w' => w'.cell? (ad449.add (x31_1).toNat) = some (.int .i64 (rd l0 x31_1)) ∧ w'.cell? (ad449.add (x31_1).toNat) = some (.int .i64 (rd l0 x31_1)) ∧ w'.cell? (ad449.add ((ji14)).toNat) = some (.int .i64 (rd l0 (ji14))) ∧ w'.cell? (ad453.add (x31_1).toNat) = some (.int .i64 (rd l1 x31_1))) (ds := []) #[F, F, F, F, F, F, F, F, F, F, F, F, F, F, F, F, F, F, F, F, F, F, F, F, F, F, F, F, F, F] (by kernel_rfl) rfl rfl ⟨((HB.out.cell (World.block_lt_of_cell? w _ hw449_0)).trans hw449_0), ((HB.out.cell (World.block_lt_of_cell? w _ hw451_0)).trans hw451_0), ((HB.out.cell (World.block_lt_of_cell? w _ hw452_0)).trans hw452_0), ((HB.out.cell (World.block_lt_of_cell? w _ hw453_0)).trans hw453_0)⟩ (fun hHeld => ?_); refine QaP Qak.tab9 Qak.bits9 (fun HT_ HW_ => ?_)
             generalize wr.drew = w21 at HB hx449_0 hx451_0 hx452_0 hx453_0 hHeld ⊢
             refine Zsp (i := 0) (N := some 34) (pm 30 1) HT_ ?_
             refine Zsp (i := 1) (N := some 35) (pm 30 2) HT_ ?_
             refine Zsp (i := 2) (N := some 36) (pm 30 3) HT_ ?_
             refine Zst (i := 3) (N := some 37) (pm 30 4) HT_ HW_ hHeld ?_ (hy := by (refine Or.inl ⟨by rfl, ?_⟩; rintro w' ⟨s0, s1, s2, s3⟩; go_simp; with_reducible rfl))
             refine one_ (i := 4) (N := some 38) #[T, T, T, T, T, F, F, F, F, F, F, F, F, F, F, F, F, F, F, F, F, F, F, F, F, F, F, F, F, F] rfl rfl (one_of HT_.out (by kernel_rfl)) (by decide) (fun K hK => ?_)
             refine goes_ Try.func62 (by kernel_rfl) rfl #[.int .i64 (rd l0 x31_1), .int .i64 0, .int .i64 73048] (by rfl) rfl rfl (Zl) ?_
             with_reducible refine (QaW.calls (rd l0 x31_1) 0 73048 T _ A11.out).mono ?_
             rintro e w' ⟨rfl, ⟨nd, rfl⟩⟩
             refine ⟨_, rfl, ?_⟩
             refine hK.out _ _ ⟨((HB.out.cell (World.block_lt_of_cell? w _ hw449_0)).trans hw449_0), ((HB.out.cell (World.block_lt_of_cell? w _ hw451_0)).trans hw451_0), ((HB.out.cell (World.block_lt_of_cell? w _ hw452_0)).trans hw452_0), ((HB.out.cell (World.block_lt_of_cell? w _ hw453_0)).trans hw453_0)⟩ (fun hHeld => ?_)
             clear hK K
             refine norm_ (a' := ?_) ?_ ?_
             rotate_left
             ·show Act.put _ (some 38) _ = _
              simp only [Act.put, Zj, Zk, Zm, i64_w, i32_w]
              rfl
             refine Zsp (i := 5) (N := some 39) (pm 30 6) HT_ ?_
             refine Zsp (i := 6) (N := some 40) (pm 30 7) HT_ ?_
             refine Zsp (i := 7) (N := some 41) (pm 30 8) HT_ ?_
             refine Zsp (i := 8) (N := some 42) (pm 30 9) HT_ ?_
             refine Zsp (i := 9) (N := some 43) (pm 30 10) HT_ ?_
             refine Zsp (i := 10) (N := some 44) (pm 30 11) HT_ ?_
             refine Zsp (i := 11) (N := some 45) (pm 30 12) HT_ ?_
             refine Zsp (i := 12) (N := some 46) (pm 30 13) HT_ ?_
             refine Zsp (i := 14) (N := some 48) #[T, T, T, T, T, T, T, T, T, T, T, T, T, F, T, F, F, F, F, F, F, F, F, F, F, F, F, F, F, F] HT_ ?_
             refine Zsp (i := 15) (N := some 49) #[T, T, T, T, T, T, T, T, T, T, T, T, T, F, T, T, F, F, F, F, F, F, F, F, F, F, F, F, F, F] HT_ ?_
             refine Zsp (i := 16) (N := some 50) #[T, T, T, T, T, T, T, T, T, T, T, T, T, F, T, T, T, F, F, F, F, F, F, F, F, F, F, F, F, F] HT_ ?_
             refine Zsp (i := 17) (N := some 51) #[T, T, T, T, T, T, T, T, T, T, T, T, T, F, T, T, T, T, F, F, F, F, F, F, F, F, F, F, F, F] HT_ ?_
             refine Zst (i := 13) (N := some 47) (pm 30 18) HT_ HW_ hHeld ?_ (hy := by (refine Or.inl ⟨by rfl, ?_⟩; rintro w' ⟨s0, s1, s2, s3⟩; go_simp; with_reducible rfl))
             refine Zst (i := 18) (N := some 52) (pm 30 19) HT_ HW_ hHeld ?_ (hy := by (refine Or.inl ⟨by rfl, ?_⟩; rintro w' ⟨s0, s1, s2, s3⟩; go_simp; with_reducible rfl))
             refine Zsp (i := 19) (N := some 53) (pm 30 20) HT_ ?_
             refine Zsp (i := 20) (N := some 54) (pm 30 21) HT_ ?_
             refine Zsp (i := 21) (N := some 55) (pm 30 22) HT_ ?_
             refine Zsp (i := 22) (N := some 56) (pm 30 23) HT_ ?_
             refine Zsp (i := 23) (N := some 57) (pm 30 24) HT_ ?_
             refine Zsp (i := 24) (N := some 58) (pm 30 25) HT_ ?_
             refine Zsp (i := 25) (N := some 59) (pm 30 26) HT_ ?_
             refine Zst (i := 26) (N := some 60) (pm 30 27) HT_ HW_ hHeld ?_ (hy := by (refine Or.inl ⟨by rfl, ?_⟩; rintro w' ⟨s0, s1, s2, s3⟩; go_simp; with_reducible rfl))
             refine one_ (i := 27) (N := some 61) #[T, T, T, T, T, T, T, T, T, T, T, T, T, T, T, T, T, T, T, T, T, T, T, T, T, T, T, T, F, F] rfl rfl (one_of HT_.out (by kernel_rfl)) (by decide) (fun K hK => ?_)
             refine goes_ Try.func62 (by kernel_rfl) rfl #[.int .i64 (rd l1 x31_1), .int .i64 (-1099511627776), .int .i64 1099511627776] (by rfl) rfl rfl (Zl) ?_
             with_reducible refine (QaW.calls (rd l1 x31_1) (-1099511627776) 1099511627776 t454 _ A20.out).mono ?_
             rintro e w' ⟨rfl, ⟨nd, rfl⟩⟩
             refine ⟨_, rfl, ?_⟩
             refine hK.out _ _ ⟨((HB.out.cell (World.block_lt_of_cell? w _ hw449_0)).trans hw449_0), ((HB.out.cell (World.block_lt_of_cell? w _ hw451_0)).trans hw451_0), ((HB.out.cell (World.block_lt_of_cell? w _ hw452_0)).trans hw452_0), ((HB.out.cell (World.block_lt_of_cell? w _ hw453_0)).trans hw453_0)⟩ (fun hHeld => ?_)
             clear hK K
             refine norm_ (a' := ?_) ?_ ?_
             rotate_left
             ·show Act.put _ (some 61) _ = _
              simp only [Act.put, Zj, Zk, Zm, i64_w, i32_w]
              rfl
             refine Zsp (i := 28) (N := some 62) (pm 30 29) HT_ ?_
             refine Zsp (i := 29) (N := some 63) (pm 30 30) HT_ ?_
             refine done_ (QaX HT_.out (by kernel_rfl)) ?_
             go_upto_if 63 with (fail)
             by_cases c22 : t454 = T
             ·subst c22
              have H1 : (Qak.l0 k1 l0 l1 l2 (l0.length : Int) (wrap64 (x31_1 + 1))) = some (r1, r2, r3) := by rw [if_pos rfl] at H; exact H
              clear H
              have H := H1
              clear H1
              have H' := Aside0.mk H
              clear H
              go_wp2
              go_roundg k1
              case measure => have := HK1.out; omega
              case rel => exact ⟨(wrap64 (x31_1 + 1)), (Zs2), H', ⟨by have := HK1.out; omega⟩, ⟨Zb⟩⟩
             replace c22 := Bool.eq_false_iff.mpr c22
             subst c22
             have H1 : (some (([] : List Int), ([] : List Int), 2)) = some (r1, r2, r3) := by rw [if_neg (show ¬ (F = T) by decide)] at H; exact H
             clear H
             have H := H1
             clear H1
             simp only [Option.some.injEq, Prod.mk.injEq] at H
             obtain ⟨rfl, rfl, rfl⟩ := H
             go_wp2
             go_ret3
             exact ⟨_, _, by first | rfl | (simp [Qas, Qat] <;> rfl) | (simp only [← hji14]; first | rfl | (simp [Qas, Qat] <;> rfl)) | (simp [*, Qas, Qat] <;> rfl), by first | exact Kd.R_nil _ _ _ _ _ | exact Kd.N_nil _ _ _ _ _ | exact Kd.V_nil _ _ _ _ _ | exact Kd.Q_nil _ _ _ _ _ | exact Kd.S_nil _ _ _ _ _, by first | exact Kd.R_nil _ _ _ _ _ | exact Kd.N_nil _ _ _ _ _ | exact Kd.V_nil _ _ _ _ _ | exact Kd.Q_nil _ _ _ _ _ | exact Kd.S_nil _ _ _ _ _, Zb⟩
            rw [if_neg c19] at H
            exact absurd H (by simp)
           rw [if_neg c16] at H
           exact absurd H (by simp)
          rw [if_neg c15] at H
          exact absurd H (by simp)
         rw [if_neg c13] at H
         have c13b0 : decide (0 < x31_1) = F := decide_eq_false c13
         clear c13
         by_cases c23 : x31_1 < (l1.length : Int)
         ·rw [if_pos c23] at H
          have c23b0 : decide (x31_1 < (l1.length : Int)) = T := decide_eq_true c23
          clear c23
          replace H := Option.bind_eq_some_iff.mp H
          obtain ⟨t456, A240, H⟩ := H
          replace H : (if t456 = T then (Qak.l0 k1 l0 l1 l2 (l0.length : Int) (wrap64 (x31_1 + 1))) else (some (([] : List Int), ([] : List Int), 2))) = some (r1, r2, r3) := H
          have A24 := Aside0.mk A240
          clear A240
          try go_wp2
          replace HB := Aside0.mk (Qac HB.out)
          have p449 : 0 ≤ (x31_1 : Int) := Ze
          have q449 : x31_1 < (l0.length : Int) := Ze
          obtain ⟨ad449, e449, hx449_0⟩ := Kd.at_int HR0.out x31_1 p449 q449
          have hw449_0 := hx449_0
          cases e449
          replace hx449_0 := Zx HB.out hx449_0
          replace p449 := eq_true p449
          replace q449 := eq_true q449
          have p455 : 0 ≤ (x31_1 : Int) := Ze
          have q455 : x31_1 < (l1.length : Int) := Ze
          obtain ⟨ad455, e455, hx455_0⟩ := Kd.at_int HR1.out x31_1 p455 q455
          have hw455_0 := hx455_0
          cases e455
          replace hx455_0 := Zx HB.out hx455_0
          replace p455 := eq_true p455
          replace q455 := eq_true q455
          refine start_ (n := 30) (S := fun w' => w'.cell? (ad449.add (x31_1).toNat) = some (.int .i64 (rd l0 x31_1)) ∧ w'.cell? (ad455.add (x31_1).toNat) = some (.int .i64 (rd l1 x31_1))) (ds := []) #[F, F, F, F, F, F, F, F, F, F, F, F, F, F, F, F, F, F, F, F, F, F, F, F, F, F, F, F, F, F] (by kernel_rfl) rfl rfl ⟨((HB.out.cell (World.block_lt_of_cell? w _ hw449_0)).trans hw449_0), ((HB.out.cell (World.block_lt_of_cell? w _ hw455_0)).trans hw455_0)⟩ (fun hHeld => ?_); refine QaP Qak.tab9 Qak.bits9 (fun HT_ HW_ => ?_)
          generalize wr.drew = w25 at HB hx449_0 hx455_0 hHeld ⊢
          refine Zsp (i := 0) (N := some 34) (pm 30 1) HT_ ?_
          refine Zsp (i := 1) (N := some 35) (pm 30 2) HT_ ?_
          refine Zsp (i := 2) (N := some 36) (pm 30 3) HT_ ?_
          refine Zst (i := 3) (N := some 37) (pm 30 4) HT_ HW_ hHeld ?_ (hy := by (refine Or.inl ⟨by rfl, ?_⟩; rintro w' ⟨s0, s1⟩; go_simp; with_reducible rfl))
          refine one_ (i := 4) (N := some 38) #[T, T, T, T, T, F, F, F, F, F, F, F, F, F, F, F, F, F, F, F, F, F, F, F, F, F, F, F, F, F] rfl rfl (one_of HT_.out (by kernel_rfl)) (by decide) (fun K hK => ?_)
          refine goes_ Try.func62 (by kernel_rfl) rfl #[.int .i64 (rd l0 x31_1), .int .i64 0, .int .i64 73048] (by rfl) rfl rfl (Zl) ?_
          with_reducible refine (QaW.calls (rd l0 x31_1) 0 73048 T _ A11.out).mono ?_
          rintro e w' ⟨rfl, ⟨nd, rfl⟩⟩
          refine ⟨_, rfl, ?_⟩
          refine hK.out _ _ ⟨((HB.out.cell (World.block_lt_of_cell? w _ hw449_0)).trans hw449_0), ((HB.out.cell (World.block_lt_of_cell? w _ hw455_0)).trans hw455_0)⟩ (fun hHeld => ?_)
          clear hK K
          refine norm_ (a' := ?_) ?_ ?_
          rotate_left
          ·show Act.put _ (some 38) _ = _
           simp only [Act.put, Zj, Zk, Zm, i64_w, i32_w]
           rfl
          refine Zsp (i := 5) (N := some 39) (pm 30 6) HT_ ?_
          refine Zsp (i := 6) (N := some 40) (pm 30 7) HT_ ?_
          refine Zsp (i := 7) (N := some 41) (pm 30 8) HT_ ?_
          refine Zsp (i := 8) (N := some 42) (pm 30 9) HT_ ?_
          refine Zsp (i := 9) (N := some 43) (pm 30 10) HT_ ?_
          refine Zso (i := 10) (N := some 44) (pm 30 11) HT_ ?_
          refine Zso (i := 11) (N := some 45) (pm 30 12) HT_ ?_
          refine Zso (i := 12) (N := some 46) (pm 30 13) HT_ ?_
          refine Zso (i := 13) (N := some 47) (pm 30 14) HT_ ?_
          refine Zso (i := 14) (N := some 48) (pm 30 15) HT_ ?_
          refine Zso (i := 15) (N := some 49) (pm 30 16) HT_ ?_
          refine Zso (i := 16) (N := some 50) (pm 30 17) HT_ ?_
          refine Zso (i := 17) (N := some 51) (pm 30 18) HT_ ?_
          refine Zso (i := 18) (N := some 52) (pm 30 19) HT_ ?_
          refine Zso (i := 19) (N := some 53) (pm 30 20) HT_ ?_
          refine Zsp (i := 20) (N := some 54) (pm 30 21) HT_ ?_
          refine Zsp (i := 21) (N := some 55) (pm 30 22) HT_ ?_
          refine Zsp (i := 22) (N := some 56) (pm 30 23) HT_ ?_
          refine Zsp (i := 23) (N := some 57) (pm 30 24) HT_ ?_
          refine Zsp (i := 24) (N := some 58) (pm 30 25) HT_ ?_
          refine Zsp (i := 25) (N := some 59) (pm 30 26) HT_ ?_
          refine Zst (i := 26) (N := some 60) (pm 30 27) HT_ HW_ hHeld ?_ (hy := by (refine Or.inl ⟨by rfl, ?_⟩; rintro w' ⟨s0, s1⟩; go_simp; with_reducible rfl))
          refine one_ (i := 27) (N := some 61) #[T, T, T, T, T, T, T, T, T, T, T, T, T, T, T, T, T, T, T, T, T, T, T, T, T, T, T, T, F, F] rfl rfl (one_of HT_.out (by kernel_rfl)) (by decide) (fun K hK => ?_)
          refine goes_ Try.func62 (by kernel_rfl) rfl #[.int .i64 (rd l1 x31_1), .int .i64 (-1099511627776), .int .i64 1099511627776] (by rfl) rfl rfl (Zl) ?_
          with_reducible refine (QaW.calls (rd l1 x31_1) (-1099511627776) 1099511627776 t456 _ A24.out).mono ?_
          rintro e w' ⟨rfl, ⟨nd, rfl⟩⟩
          refine ⟨_, rfl, ?_⟩
          refine hK.out _ _ ⟨((HB.out.cell (World.block_lt_of_cell? w _ hw449_0)).trans hw449_0), ((HB.out.cell (World.block_lt_of_cell? w _ hw455_0)).trans hw455_0)⟩ (fun hHeld => ?_)
          clear hK K
          refine norm_ (a' := ?_) ?_ ?_
          rotate_left
          ·show Act.put _ (some 61) _ = _
           simp only [Act.put, Zj, Zk, Zm, i64_w, i32_w]
           rfl
          refine Zsp (i := 28) (N := some 62) (pm 30 29) HT_ ?_
          refine Zsp (i := 29) (N := some 63) (pm 30 30) HT_ ?_
          refine done_ (QaX HT_.out (by kernel_rfl)) ?_
          go_upto_if 63 with (fail)
          by_cases c26 : t456 = T
          ·subst c26
           have H1 : (Qak.l0 k1 l0 l1 l2 (l0.length : Int) (wrap64 (x31_1 + 1))) = some (r1, r2, r3) := by rw [if_pos rfl] at H; exact H
           clear H
           have H := H1
           clear H1
           have H' := Aside0.mk H
           clear H
           go_wp2
           go_roundg k1
           case measure => have := HK1.out; omega
           case rel => exact ⟨(wrap64 (x31_1 + 1)), (Zs2), H', ⟨by have := HK1.out; omega⟩, ⟨Zb⟩⟩
          replace c26 := Bool.eq_false_iff.mpr c26
          subst c26
          have H1 : (some (([] : List Int), ([] : List Int), 2)) = some (r1, r2, r3) := by rw [if_neg (show ¬ (F = T) by decide)] at H; exact H
          clear H
          have H := H1
          clear H1
          simp only [Option.some.injEq, Prod.mk.injEq] at H
          obtain ⟨rfl, rfl, rfl⟩ := H
          go_wp2
          go_ret3
          exact ⟨_, _, Zq, by first | exact Kd.R_nil _ _ _ _ _ | exact Kd.N_nil _ _ _ _ _ | exact Kd.V_nil _ _ _ _ _ | exact Kd.Q_nil _ _ _ _ _ | exact Kd.S_nil _ _ _ _ _, by first | exact Kd.R_nil _ _ _ _ _ | exact Kd.N_nil _ _ _ _ _ | exact Kd.V_nil _ _ _ _ _ | exact Kd.Q_nil _ _ _ _ _ | exact Kd.S_nil _ _ _ _ _, Zb⟩
         rw [if_neg c23] at H
         exact absurd H (by simp)
        replace c12 := Bool.eq_false_iff.mpr c12
        subst c12
        have H1 : (some (([] : List Int), ([] : List Int), 2)) = some (r1, r2, r3) := by rw [if_neg (show ¬ (F = T) by decide)] at H; exact H
        clear H
        have H := H1
        clear H1
        simp only [Option.some.injEq, Prod.mk.injEq] at H
        obtain ⟨rfl, rfl, rfl⟩ := H
        try go_wp2
        replace HB := Aside0.mk (Qac HB.out)
        have p449 : 0 ≤ (x31_1 : Int) := Ze
        have q449 : x31_1 < (l0.length : Int) := Ze
        obtain ⟨ad449, e449, hx449_0⟩ := Kd.at_int HR0.out x31_1 p449 q449
        have hw449_0 := hx449_0
        cases e449
        replace hx449_0 := Zx HB.out hx449_0
        replace p449 := eq_true p449
        replace q449 := eq_true q449
        refine start_ (n := 30) (S := fun w' => w'.cell? (ad449.add (x31_1).toNat) = some (.int .i64 (rd l0 x31_1))) (ds := []) #[F, F, F, F, F, F, F, F, F, F, F, F, F, F, F, F, F, F, F, F, F, F, F, F, F, F, F, F, F, F] (by kernel_rfl) rfl rfl (((HB.out.cell (World.block_lt_of_cell? w _ hw449_0)).trans hw449_0)) (fun hHeld => ?_); refine QaP Qak.tab9 Qak.bits9 (fun HT_ HW_ => ?_)
        generalize wr.drew = w27 at HB hx449_0 hHeld ⊢
        refine Zsp (i := 0) (N := some 34) (pm 30 1) HT_ ?_
        refine Zsp (i := 1) (N := some 35) (pm 30 2) HT_ ?_
        refine Zsp (i := 2) (N := some 36) (pm 30 3) HT_ ?_
        refine take_ (i := 3) (N := some 37) (v := ?_) (a' := ?_) #[T, T, T, T, F, F, F, F, F, F, F, F, F, F, F, F, F, F, F, F, F, F, F, F, F, F, F, F, F, F] rfl rfl (Qc7 HT_.out HW_.out (by kernel_rfl)) (fun _ _ _ h => h) (Or.inl ⟨by rfl, ?_⟩) hHeld ?_ ?_
        rotate_left
        ·intro w' s0
         go_simp
         with_reducible rfl
        rotate_left
        ·simp only [Act.put, Zj, Zk, Zm, i64_w, i32_w]
         rfl
        refine one_ (i := 4) (N := some 38) #[T, T, T, T, T, F, F, F, F, F, F, F, F, F, F, F, F, F, F, F, F, F, F, F, F, F, F, F, F, F] rfl rfl (one_of HT_.out (by kernel_rfl)) (by decide) (fun K hK => ?_)
        refine goes_ Try.func62 (by kernel_rfl) rfl #[.int .i64 (rd l0 x31_1), .int .i64 0, .int .i64 73048] (by rfl) rfl rfl (Zl) ?_
        with_reducible refine (QaW.calls (rd l0 x31_1) 0 73048 F _ A11.out).mono ?_
        rintro e w' ⟨rfl, ⟨nd, rfl⟩⟩
        refine ⟨_, rfl, ?_⟩
        refine hK.out _ _ (((HB.out.cell (World.block_lt_of_cell? w _ hw449_0)).trans hw449_0)) (fun hHeld => ?_)
        clear hK K
        refine norm_ (a' := ?_) ?_ ?_
        rotate_left
        ·show Act.put _ (some 38) _ = _
         simp only [Act.put, Zj, Zk, Zm, i64_w, i32_w]
         rfl
        refine Zsp (i := 5) (N := some 39) (pm 30 6) HT_ ?_
        refine Zsp (i := 6) (N := some 40) (pm 30 7) HT_ ?_
        refine Zso (i := 7) (N := some 41) (pm 30 8) HT_ ?_
        refine Zso (i := 8) (N := some 42) (pm 30 9) HT_ ?_
        refine Zso (i := 9) (N := some 43) (pm 30 10) HT_ ?_
        refine Zso (i := 10) (N := some 44) (pm 30 11) HT_ ?_
        refine Zso (i := 11) (N := some 45) (pm 30 12) HT_ ?_
        refine Zso (i := 12) (N := some 46) (pm 30 13) HT_ ?_
        refine Zso (i := 13) (N := some 47) (pm 30 14) HT_ ?_
        refine Zso (i := 14) (N := some 48) (pm 30 15) HT_ ?_
        refine Zso (i := 15) (N := some 49) (pm 30 16) HT_ ?_
        refine Zso (i := 16) (N := some 50) (pm 30 17) HT_ ?_
        refine Zso (i := 17) (N := some 51) (pm 30 18) HT_ ?_
        refine Zso (i := 18) (N := some 52) (pm 30 19) HT_ ?_
        refine Zso (i := 19) (N := some 53) (pm 30 20) HT_ ?_
        refine Zso (i := 20) (N := some 54) (pm 30 21) HT_ ?_
        refine Zsp (i := 21) (N := some 55) (pm 30 22) HT_ ?_
        refine Zsp (i := 22) (N := some 56) (pm 30 23) HT_ ?_
        refine Zso (i := 23) (N := some 57) (pm 30 24) HT_ ?_
        refine Zso (i := 24) (N := some 58) (pm 30 25) HT_ ?_
        refine Zso (i := 25) (N := some 59) (pm 30 26) HT_ ?_
        refine Zso (i := 26) (N := some 60) (pm 30 27) HT_ ?_
        refine Zso (i := 27) (N := some 61) (pm 30 28) HT_ ?_
        refine Zso (i := 28) (N := some 62) (pm 30 29) HT_ ?_
        refine Zsp (i := 29) (N := some 63) (pm 30 30) HT_ ?_
        refine done_ (QaX HT_.out (by kernel_rfl)) ?_
        try go_wp2
        go_ret3
        exact ⟨_, _, Zq, by first | exact Kd.R_nil _ _ _ _ _ | exact Kd.N_nil _ _ _ _ _ | exact Kd.V_nil _ _ _ _ _ | exact Kd.Q_nil _ _ _ _ _ | exact Kd.S_nil _ _ _ _ _, by first | exact Kd.R_nil _ _ _ _ _ | exact Kd.N_nil _ _ _ _ _ | exact Kd.V_nil _ _ _ _ _ | exact Kd.Q_nil _ _ _ _ _ | exact Kd.S_nil _ _ _ _ _, Zb⟩
       rw [if_neg c10] at H
       exact absurd H (by simp)
      rw [if_neg c9] at H
      exact absurd H (by simp)
     rw [if_neg c8] at H
     have c8b0 : decide (x31_1 < (l0.length : Int)) = F := decide_eq_false c8
     clear c8
     (try simp only [c8b0])
     replace H := Option.bind_eq_some_iff.mp H
     obtain ⟨t457, A280, H⟩ := H
     replace H : (if 0 ≤ (l2.length : Int) then (if ((l2.length : Int) : Int).toNat ≤ 35184372088832 then (Qak.l1 k1 l0 l2 (List.replicate ((l2.length : Int) : Int).toNat 0) t457 (l2.length : Int) 0) else (none)) else (none)) = some (r1, r2, r3) := H
     have A28 := Aside0.mk A280
     clear A280
     by_cases c29 : 0 ≤ (l2.length : Int)
     ·rw [if_pos c29] at H
      have c29b0 := eq_true c29
      have c29b1 : decide (0 ≤ (l2.length : Int)) = T := decide_eq_true c29
      clear c29
      by_cases c30 : ((l2.length : Int) : Int).toNat ≤ 35184372088832
      ·rw [if_pos c30] at H
       have c30b0 := eq_true c30
       have c30b1 : decide (((l2.length : Int) : Int).toNat ≤ 35184372088832) = T := decide_eq_true c30
       clear c30
       obtain ⟨y460, hy460⟩ : ∃ y_ : List Int, y_ = (List.replicate ((l2.length : Int) : Int).toNat 0) := ⟨_, rfl⟩
       replace H : (Qak.l1 k1 l0 l2 y460 t457 (l2.length : Int) 0) = some (r1, r2, r3) := by first | (rw [hy460]; with_reducible exact H) | (have H2_ := (Option.bind_some _ _).symm.trans H; rw [hy460]; with_reducible exact H2_) | (have H2_ := (Option.bind_some _ _).symm.trans H; with_reducible exact H2_) | with_reducible exact H | (rw [hy460]; exact H) | exact H
       have Ny460 := Aside0.mk hy460
       clear hy460
       have H' := Aside0.mk H
       clear H
       try go_wp2_with (first | ((with_reducible refine QaH (f := 63) rfl ?_); refine goesL_ (some 66) rfl rfl Try.func63 (by kernel_rfl) rfl #[.slice A1 l1.length c1] rfl (Zl) ?_; (with_reducible refine (Qa7.calls _ _ l1 t457 _ ?side1 ?side2 A28.out).mono ?_); (case side1 => exact Zv (Kd.C_below HR1.out HB.out)); (case side2 => exact HC1.out); rintro e w31 ⟨v458, rfl, ho0, hb⟩; refine ⟨_, rfl, ?_⟩; have HO459 := Aside0.mk (Kd.R_lower ho0 (Qax (Zb))); replace HB := Aside0.mk (Qav (Zb) hb); (try clear hb); (try clear hb2); (try clear hk); (try clear hi); (try clear ho0)) | ((with_reducible refine Qa2 (N := 69) rfl ?_); refine Kd.R_make (Kd.int .i64) _ 3 rfl (N := 69) rfl 32 _ _ rfl (l2.length : Int) rfl rfl Try.underlying32 (.int .i64 0) 8 info3 rfl (by decide) (by omega) 0 (ok := fun _ => True) (okp := fun _ => True) rfl (fun _ hk => hk) trivial (Ze) (Nat.le_trans (Nat.mul_le_mul_right _ (Ze : (l2.length : Int).toNat ≤ 35184372088832)) (by omega)) (Below.refl _ _) (Nat.le_refl _) ?_; intro v461 w32 ho33 hb hg_ hnew_; clear hg_ hnew_; (first | rw [← Ny460.out] at ho33 | (simp only [Int.reduceToNat] at ho33; rw [← Ny460.out] at ho33)); have HO462 := Aside0.mk (Kd.R_lower (Kd.R_new' ho33 (Kd.R_lt (Zr HO459.out))) (Qax (Zb))); replace HO459 := Aside0.mk (Kd.R_elder' (Zr HO459.out) (Kd.R_base ho33) hb); replace HB := Aside0.mk (Qav (Zb) hb); clear hb ho33))
       go_step3
       try go_wp2
       go_loopg [72] k1 (fun kq v72 w' => ∃ (x6_2 : List Int) (x7_2 : List Int) (x72_2 : Int), v72 = .int .i64 x72_2 ∧ Aside0 (Qak.l1 kq l0 l2 x6_2 x7_2 (l2.length : Int) x72_2 = some (r1, r2, r3)) ∧ Aside0 (kq ≤ k1) ∧ Aside0 (Kd.R (Kd.int .i64) 3 w' w.heap.size (fun k_ => some k_ ≠ (v458 : Value).ownBlock) v461 x6_2) ∧ Aside0 (Kd.R (Kd.int .i64) 3 w' w.heap.size (fun k_ => some k_ ≠ (v461 : Value).ownBlock) v458 x7_2) ∧ Aside0 (Below w.heap.size w w'))
       case atStart => exact ⟨(y460), (t457), (0), (Zs2), H', ⟨Nat.le_refl _⟩, ⟨by (with_reducible repeat (first | apply Kd.R_alloc | apply Kd.R_drewN | apply Kd.R_drew)); exact Kd.R_mono HO462.out (fun _ hk => hk.2)⟩, ⟨by (with_reducible repeat (first | apply Kd.R_alloc | apply Kd.R_drewN | apply Kd.R_drew)); exact Kd.R_mono HO459.out (fun _ hk => hk.2)⟩, ⟨Zb⟩⟩
       case round =>
        clear H'
        try clear c1
        try clear c2
        try clear p2
        try clear c3
        try clear p3
        try clear p4
        try clear q4
        try clear hx4
        try clear c6
        try clear p6
        try clear c8
        try clear c8b0
        try clear c9
        try clear c10
        try clear c12
        try clear c13
        try clear c13b0
        try clear c15
        try clear c16
        try clear c19
        try clear c22
        try clear c23
        try clear c23b0
        try clear c26
        try clear c29
        try clear c29b0
        try clear c29b1
        try clear c30
        try clear c30b0
        try clear c30b1
        try clear hx449_0
        try clear hx455_0
        try clear p449
        try clear p455
        try clear q449
        try clear q455
        obtain ⟨x6_2, x7_2, x72_2, rfl, HA, HK2, HO_6, HO_7, HB⟩ := hrel
        cases gk with
        | zero => exact absurd HA.out (by simp [Qak.l1])
        | succ k2 =>
         have H := HA.out
         clear HA
         simp only [Qak.l1] at H
         by_cases c34 : x72_2 < (l2.length : Int)
         ·rw [if_pos c34] at H
          have c34b0 : decide (x72_2 < (l2.length : Int)) = T := decide_eq_true c34
          clear c34
          (try simp only [c34b0])
          by_cases c35 : 0 ≤ x72_2
          ·rw [if_pos c35] at H
           have c35b0 : decide (0 ≤ x72_2) = T := decide_eq_true c35
           clear c35
           by_cases c36 : x72_2 < (l2.length : Int)
           ·rw [if_pos c36] at H
            have c36b0 : decide (x72_2 < (l2.length : Int)) = T := decide_eq_true c36
            clear c36
            have H' := Aside0.mk H
            clear H
            try go_wp2_with (first | ((with_reducible refine Qa2 (N := 11) rfl ?_); refine Zbx (N := 11) (cs := #[.int .i64 0, .int .i64 0]) (t := 144) ?_; intro gb463 hg w37 hbox hb; have BK463 := Aside0.mk (hbox); have GW463 := Aside0.mk (Zt w hg (Zb)); have GE463 := GW463; replace HO_6 := Aside0.mk (Kd.R_below (Zr HO_6.out) hb); replace HO_7 := Aside0.mk (Kd.R_below (Zr HO_7.out) hb); replace HB := Aside0.mk (Qav (Zb) hb); clear hb hbox hg))
            replace HO_6 := Aside0.mk (Kd.R_drew HO_6.out)
            replace HO_7 := Aside0.mk (Kd.R_drew HO_7.out)
            replace BK463 := Aside0.mk (Qai BK463.out)
            replace HB := Aside0.mk (Qac HB.out)
            have p464 : 0 ≤ (x72_2 : Int) := Ze
            have q464 : x72_2 < (l2.length : Int) := Ze
            obtain ⟨ad464, e464, hx464_0, hx464_1, hx464_2⟩ := Qdm HR2.out x72_2 p464 q464
            have hw464_2 := hx464_2
            have hw464_1 := hx464_1
            have hw464_0 := hx464_0
            cases e464
            replace hx464_0 := Zx HB.out hx464_0
            replace hx464_1 := Zx HB.out hx464_1
            replace hx464_2 := Zx HB.out hx464_2
            replace p464 := eq_true p464
            replace q464 := eq_true q464
            have p465 : 0 ≤ (x72_2 : Int) := Ze
            have q465 : x72_2 < (l2.length : Int) := Ze
            obtain ⟨ad465, e465, hx465_0, hx465_1, hx465_2⟩ := Qdm HR2.out x72_2 p465 q465
            have hw465_2 := hx465_2
            have hw465_1 := hx465_1
            have hw465_0 := hx465_0
            obtain rfl : ad464 = ad465 := (by injection e465)
            replace hx465_0 := Zx HB.out hx465_0
            replace hx465_1 := Zx HB.out hx465_1
            replace hx465_2 := Zx HB.out hx465_2
            replace p465 := eq_true p465
            replace q465 := eq_true q465
            refine start_ (n := 12) (S := fun w' => w'.cell? (ad464.add ((x72_2).toNat * 3)) = some (.int .i64 ((QaB l2 x72_2).f0)) ∧ w'.cell? ⟨(ad464.add ((x72_2).toNat * 3)).block, (ad464.add ((x72_2).toNat * 3)).off + 1, none⟩ = some (.int .i64 ((QaB l2 x72_2).f1)) ∧ w'.cell? ⟨(ad464.add ((x72_2).toNat * 3)).block, (ad464.add ((x72_2).toNat * 3)).off + 2, none⟩ = some (.int .i64 ((QaB l2 x72_2).f2)) ∧ w'.cell? (ad464.add ((x72_2).toNat * 3)) = some (.int .i64 ((QaB l2 x72_2).f0)) ∧ w'.cell? ⟨(ad464.add ((x72_2).toNat * 3)).block, (ad464.add ((x72_2).toNat * 3)).off + 1, none⟩ = some (.int .i64 ((QaB l2 x72_2).f1)) ∧ w'.cell? ⟨(ad464.add ((x72_2).toNat * 3)).block, (ad464.add ((x72_2).toNat * 3)).off + 2, none⟩ = some (.int .i64 ((QaB l2 x72_2).f2))) (ds := []) #[F, F, F, F, F, F, F, F, F, F, F, F] (by kernel_rfl) rfl rfl ⟨((HB.out.cell (World.block_lt_of_cell? w _ hw464_0)).trans hw464_0), ((HB.out.cell (World.block_lt_of_cell? w _ hw464_1)).trans hw464_1), ((HB.out.cell (World.block_lt_of_cell? w _ hw464_2)).trans hw464_2), ((HB.out.cell (World.block_lt_of_cell? w _ hw465_0)).trans hw465_0), ((HB.out.cell (World.block_lt_of_cell? w _ hw465_1)).trans hw465_1), ((HB.out.cell (World.block_lt_of_cell? w _ hw465_2)).trans hw465_2)⟩ (fun hHeld => ?_); refine QaP Qak.tab18 Qak.bits18 (fun HT_ HW_ => ?_)
            generalize w37.drew = w38 at HO_6 HO_7 BK463 HB hx464_0 hx464_1 hx464_2 hx465_0 hx465_1 hx465_2 hHeld ⊢
            refine Zsp (i := 0) (N := some 75) (pm 12 1) HT_ ?_
            refine Zsp (i := 1) (N := some 76) (pm 12 2) HT_ ?_
            refine Zsp (i := 2) (N := some 77) (pm 12 3) HT_ ?_
            refine Zsp (i := 3) (N := some 78) (pm 12 4) HT_ ?_
            refine Zsp (i := 5) (N := some 80) #[T, T, T, T, F, T, F, F, F, F, F, F] HT_ ?_
            refine Zsp (i := 6) (N := some 81) #[T, T, T, T, F, T, T, F, F, F, F, F] HT_ ?_
            refine Zsp (i := 7) (N := some 82) #[T, T, T, T, F, T, T, T, F, F, F, F] HT_ ?_
            refine Zsp (i := 8) (N := some 83) #[T, T, T, T, F, T, T, T, T, F, F, F] HT_ ?_
            refine Zsp (i := 11) (N := some 86) #[T, T, T, T, F, T, T, T, T, F, F, T] HT_ ?_
            refine Zst (i := 4) (N := some 79) #[T, T, T, T, T, T, T, T, T, F, F, T] HT_ HW_ hHeld ?_ (hy := by (refine Or.inl ⟨by rfl, ?_⟩; rintro w' ⟨s0, s1, s2, s3, s4, s5⟩; go_simp; with_reducible rfl))
            refine Zst (i := 9) (N := some 84) #[T, T, T, T, T, T, T, T, T, T, F, T] HT_ HW_ hHeld ?_ (hy := by (refine Or.inl ⟨by rfl, ?_⟩; rintro w' ⟨s0, s1, s2, s3, s4, s5⟩; go_simp; with_reducible rfl))
            refine Zsp (i := 10) (N := some 85) (pm 12 12) HT_ ?_
            refine done_ (QaX HT_.out (by kernel_rfl)) ?_
            try go_wp2
            go_loopg [86] k2 (fun kq v86 w' => ∃ (x86_3 : Int) (x464000_3 : Int) (x464001_3 : Int), v86 = .int .i64 x86_3 ∧ Aside0 (Qak.l2 kq l0 l2 x6_2 x7_2 x72_2 (l2.length : Int) x72_2 x86_3 x464000_3 x464001_3 = some (r1, r2, r3)) ∧ Aside0 (kq ≤ k2) ∧ Aside0 (Kd.R (Kd.int .i64) 3 w' w.heap.size (fun k_ => some k_ ≠ (v458 : Value).ownBlock) v461 x6_2) ∧ Aside0 (Kd.R (Kd.int .i64) 3 w' w.heap.size (fun k_ => some k_ ≠ (v461 : Value).ownBlock) v458 x7_2) ∧ Aside0 (w'.heap[gb463]? = some (.cells #[.int .i64 x464000_3, .int .i64 x464001_3] 144 (0, 0))) ∧ Aside0 (Below w.heap.size w w'))
            case atStart => exact ⟨(0), (0), (0), (Zs2), H', ⟨Nat.le_refl _⟩, ⟨Zr HO_6.out⟩, ⟨Zr HO_7.out⟩, ⟨Zu BK463.out⟩, ⟨Zc1 GE463.out⟩⟩
            case round =>
             clear H'
             try clear c1
             try clear c2
             try clear p2
             try clear c3
             try clear p3
             try clear p4
             try clear q4
             try clear hx4
             try clear c6
             try clear p6
             try clear c8
             try clear c8b0
             try clear c9
             try clear c10
             try clear c12
             try clear c13
             try clear c13b0
             try clear c15
             try clear c16
             try clear c19
             try clear c22
             try clear c23
             try clear c23b0
             try clear c26
             try clear c29
             try clear c29b0
             try clear c29b1
             try clear c30
             try clear c30b0
             try clear c30b1
             try clear c34
             try clear c34b0
             try clear c35
             try clear c35b0
             try clear c36
             try clear c36b0
             try clear hx449_0
             try clear hx455_0
             try clear hx464_0
             try clear hx464_1
             try clear hx464_2
             try clear hx465_0
             try clear hx465_1
             try clear hx465_2
             try clear p2
             try clear p3
             try clear p4
             try clear p449
             try clear p455
             try clear p464
             try clear p465
             try clear p6
             try clear q4
             try clear q449
             try clear q455
             try clear q464
             try clear q465
             obtain ⟨x86_3, x464000_3, x464001_3, rfl, HA, HK3, HO_6, HO_7, BK463, HB⟩ := hrel
             cases gk with
             | zero => exact absurd HA.out (by simp [Qak.l2])
             | succ k3 =>
              have H := HA.out
              clear HA
              simp only [Qak.l2] at H
              by_cases c39 : x86_3 < 2
              ·rw [if_pos c39] at H
               have c39b0 : decide (x86_3 < 2) = T := decide_eq_true c39
               clear c39
               (try simp only [c39b0])
               by_cases c40 : x86_3 = 0
               ·rw [if_pos c40] at H
                have c40x := c40
                have c40b0 : (x86_3 == 0) = T := beq_iff_eq.mpr c40
                have c40b1 : (x86_3 != 0) = F := bne_eq_false_iff_eq.mpr c40
                clear c40
                replace H := Option.bind_eq_some_iff.mp H
                obtain ⟨⟨t466, t467⟩, A410, H⟩ := H
                replace H : (if t467 = T then (Qak.l2 k3 l0 l2 x6_2 x7_2 x72_2 (l2.length : Int) x72_2 (wrap64 (x86_3 + 1)) t466 x464001_3) else (Qak.l1 k3 l0 l2 x6_2 x7_2 (l2.length : Int) (wrap64 (x72_2 + 1)))) = some (r1, r2, r3) := H
                have A41 := Aside0.mk A410
                clear A410
                go_upto_if 97 with (first | ((with_reducible refine QaH (f := 59) rfl ?_); refine goesL_ (some 93) rfl rfl Try.func59 (by kernel_rfl) rfl #[.slice A0 l0.length c0, .int .i64 ((QaB l2 x72_2).f0)] rfl (Zl) ?_; (with_reducible refine (Qal.calls k3 _ _ l0 ((QaB l2 x72_2).f0) t466 t467 _ ?side1 ?side2 A41.out).mono ?_); (case side1 => exact Zv (Kd.C_below HR0.out HB.out)); (case side2 => exact HC0.out); rintro e w' ⟨rfl, ⟨nd, rfl⟩⟩; refine ⟨_, rfl, ?_⟩))
                (try simp only [Act.put, Zj, Zk, Zm])
                by_cases c42 : t467 = T
                ·subst c42
                 have H1 : (Qak.l2 k3 l0 l2 x6_2 x7_2 x72_2 (l2.length : Int) x72_2 (wrap64 (x86_3 + 1)) t466 x464001_3) = some (r1, r2, r3) := by rw [if_pos rfl] at H; exact H
                 clear H
                 have H := H1
                 clear H1
                 have H' := Aside0.mk H
                 clear H
                 obtain ⟨hcz43_0, hfz43_0⟩ := Zy (v := (.int .i64 x464000_3)) BK463.out 0
                 obtain ⟨hcz43_1, hfz43_1⟩ := Zy (v := (.int .i64 x464001_3)) BK463.out 1
                 go_wp2
                 go_roundg k3
                 case measure => have := HK1.out; have := HK2.out; have := HK3.out; omega
                 case rel => exact ⟨(wrap64 (x86_3 + 1)), (t466), (x464001_3), (Zs2), H', ⟨by have := HK1.out; have := HK2.out; have := HK3.out; omega⟩, ⟨by (with_reducible repeat (first | apply Kd.R_alloc | apply Kd.R_drewN | apply Kd.R_drew)); exact Kd.R_mono (Zf gb463 0 (Kd.R_types HO_6.out BK463.out (by decide)) (.int .i64 t466)) (fun _ hk => hk.1)⟩, ⟨by (with_reducible repeat (first | apply Kd.R_alloc | apply Kd.R_drewN | apply Kd.R_drew)); exact Kd.R_mono (Zf gb463 0 (Kd.R_types HO_7.out BK463.out (by decide)) (.int .i64 t466)) (fun _ hk => hk.1)⟩, ⟨Zp2 BK463.out⟩, ⟨Zc1 GE463.out⟩⟩
                replace c42 := Bool.eq_false_iff.mpr c42
                subst c42
                have H1 : (Qak.l1 k3 l0 l2 x6_2 x7_2 (l2.length : Int) (wrap64 (x72_2 + 1))) = some (r1, r2, r3) := by rw [if_neg (show ¬ (F = T) by decide)] at H; exact H
                clear H
                have H := H1
                clear H1
                have H' := Aside0.mk H
                clear H
                go_wp2
                go_roundg k3
                case measure => have := HK1.out; have := HK2.out; have := HK3.out; omega
                case rel => exact ⟨(x6_2), (x7_2), (wrap64 (x72_2 + 1)), (Zs2), H', ⟨by have := HK1.out; have := HK2.out; have := HK3.out; omega⟩, ⟨Zr HO_6.out⟩, ⟨Zr HO_7.out⟩, ⟨Zc1 GE463.out⟩⟩
               rw [if_neg c40] at H
               have c40b0 : (x86_3 == 0) = F := beq_eq_false_iff_ne.mpr c40
               have c40b1 : (x86_3 != 0) = T := bne_iff_ne.mpr c40
               by_cases c44 : x86_3 = 1
               ·rw [if_pos c44] at H
                have c44x := c44
                have c44b0 : (x86_3 == 1) = T := beq_iff_eq.mpr c44
                have c44b1 : (x86_3 != 1) = F := bne_eq_false_iff_eq.mpr c44
                clear c44
                replace H := Option.bind_eq_some_iff.mp H
                obtain ⟨⟨t468, t469⟩, A450, H⟩ := H
                replace H : (if t469 = T then (Qak.l2 k3 l0 l2 x6_2 x7_2 x72_2 (l2.length : Int) x72_2 (wrap64 (x86_3 + 1)) x464000_3 t468) else (Qak.l1 k3 l0 l2 x6_2 x7_2 (l2.length : Int) (wrap64 (x72_2 + 1)))) = some (r1, r2, r3) := H
                have A45 := Aside0.mk A450
                clear A450
                go_upto_if 97 with (first | ((with_reducible refine QaH (f := 59) rfl ?_); refine goesL_ (some 93) rfl rfl Try.func59 (by kernel_rfl) rfl #[.slice A0 l0.length c0, .int .i64 ((QaB l2 x72_2).f1)] rfl (Zl) ?_; (with_reducible refine (Qal.calls k3 _ _ l0 ((QaB l2 x72_2).f1) t468 t469 _ ?side1 ?side2 A45.out).mono ?_); (case side1 => exact Zv (Kd.C_below HR0.out HB.out)); (case side2 => exact HC0.out); rintro e w' ⟨rfl, ⟨nd, rfl⟩⟩; refine ⟨_, rfl, ?_⟩))
                (try simp only [Act.put, Zj, Zk, Zm])
                by_cases c46 : t469 = T
                ·subst c46
                 have H1 : (Qak.l2 k3 l0 l2 x6_2 x7_2 x72_2 (l2.length : Int) x72_2 (wrap64 (x86_3 + 1)) x464000_3 t468) = some (r1, r2, r3) := by rw [if_pos rfl] at H; exact H
                 clear H
                 have H := H1
                 clear H1
                 have H' := Aside0.mk H
                 clear H
                 obtain ⟨hcz47_0, hfz47_0⟩ := Zy (v := (.int .i64 x464000_3)) BK463.out 0
                 obtain ⟨hcz47_1, hfz47_1⟩ := Zy (v := (.int .i64 x464001_3)) BK463.out 1
                 go_wp2
                 go_roundg k3
                 case measure => have := HK1.out; have := HK2.out; have := HK3.out; omega
                 case rel => exact ⟨(wrap64 (x86_3 + 1)), (x464000_3), (t468), (Zs2), H', ⟨by have := HK1.out; have := HK2.out; have := HK3.out; omega⟩, ⟨by (with_reducible repeat (first | apply Kd.R_alloc | apply Kd.R_drewN | apply Kd.R_drew)); exact Kd.R_mono (Zf gb463 1 (Kd.R_types HO_6.out BK463.out (by decide)) (.int .i64 t468)) (fun _ hk => hk.1)⟩, ⟨by (with_reducible repeat (first | apply Kd.R_alloc | apply Kd.R_drewN | apply Kd.R_drew)); exact Kd.R_mono (Zf gb463 1 (Kd.R_types HO_7.out BK463.out (by decide)) (.int .i64 t468)) (fun _ hk => hk.1)⟩, ⟨Zp2 BK463.out⟩, ⟨Zc1 GE463.out⟩⟩
                replace c46 := Bool.eq_false_iff.mpr c46
                subst c46
                have H1 : (Qak.l1 k3 l0 l2 x6_2 x7_2 (l2.length : Int) (wrap64 (x72_2 + 1))) = some (r1, r2, r3) := by rw [if_neg (show ¬ (F = T) by decide)] at H; exact H
                clear H
                have H := H1
                clear H1
                have H' := Aside0.mk H
                clear H
                go_wp2
                go_roundg k3
                case measure => have := HK1.out; have := HK2.out; have := HK3.out; omega
                case rel => exact ⟨(x6_2), (x7_2), (wrap64 (x72_2 + 1)), (Zs2), H', ⟨by have := HK1.out; have := HK2.out; have := HK3.out; omega⟩, ⟨Zr HO_6.out⟩, ⟨Zr HO_7.out⟩, ⟨Zc1 GE463.out⟩⟩
               rw [if_neg c44] at H
               exact absurd H (by simp)
              rw [if_neg c39] at H
              have c39b0 : decide (x86_3 < 2) = F := decide_eq_false c39
              clear c39
              (try simp only [c39b0])
              by_cases c48 : 0 ≤ x464000_3
              ·rw [if_pos c48] at H
               have c48b0 : decide (0 ≤ x464000_3) = T := decide_eq_true c48
               clear c48
               by_cases c49 : x464000_3 < (x7_2.length : Int)
               ·rw [if_pos c49] at H
                have c49b0 : decide (x464000_3 < (x7_2.length : Int)) = T := decide_eq_true c49
                clear c49
                by_cases c50 : 0 ≤ x464001_3
                ·rw [if_pos c50] at H
                 have c50b0 : decide (0 ≤ x464001_3) = T := decide_eq_true c50
                 clear c50
                 by_cases c51 : x464001_3 < (x7_2.length : Int)
                 ·rw [if_pos c51] at H
                  have c51b0 : decide (x464001_3 < (x7_2.length : Int)) = T := decide_eq_true c51
                  clear c51
                  have HC52 := Aside0.mk H
                  clear H
                  try go_wp2
                  replace HO_6 := Aside0.mk (Kd.R_drew HO_6.out)
                  replace HO_7 := Aside0.mk (Kd.R_drew HO_7.out)
                  replace BK463 := Aside0.mk (Qai BK463.out)
                  replace HB := Aside0.mk (Qac HB.out)
                  obtain ⟨Ao54, co54, eo54⟩ := Kd.R_slice HO_7.out
                  (first | subst eo54 | (injection eo54 with f1_ f2_ f3_; have f4_ := f1_.symm; have f5_ := f3_.symm; clear f1_ f2_ f3_; subst f4_; subst f5_))
                  have p470 : 0 ≤ (x464000_3 : Int) := Ze
                  have q470 : x464000_3 < (x7_2.length : Int) := Ze
                  obtain ⟨ad470, e470, hx470_0⟩ := Kd.at_int (Kd.R_reads' HO_7.out).2.2 x464000_3 p470 q470
                  cases e470
                  replace p470 := eq_true p470
                  replace q470 := eq_true q470
                  have p471 : 0 ≤ (x464001_3 : Int) := Ze
                  have q471 : x464001_3 < (x7_2.length : Int) := Ze
                  obtain ⟨ad471, e471, hx471_0⟩ := Kd.at_int (Kd.R_reads' HO_7.out).2.2 x464001_3 p471 q471
                  obtain rfl : ad470 = ad471 := (by injection e471)
                  replace p471 := eq_true p471
                  replace q471 := eq_true q471
                  refine start_ (n := 10) (S := fun w' => w'.cell? ⟨gb463, 0, none⟩ = some (.int .i64 x464000_3) ∧ w'.cell? ⟨gb463, 1, none⟩ = some (.int .i64 x464001_3) ∧ w'.cell? (ad470.add (x464000_3).toNat) = some (.int .i64 (rd x7_2 x464000_3)) ∧ w'.cell? (ad470.add (x464001_3).toNat) = some (.int .i64 (rd x7_2 x464001_3))) (ds := []) #[F, F, F, F, F, F, F, F, F, F] (by kernel_rfl) rfl rfl ⟨(Qad BK463.out 0).trans rfl, (Qad BK463.out 1).trans rfl, hx470_0, hx471_0⟩ (fun hHeld => ?_); refine QaP Qak.tab25 Qak.bits25 (fun HT_ HW_ => ?_)
                  generalize wr.drew = w53 at HO_6 HO_7 BK463 HB hx470_0 hx471_0 hHeld ⊢
                  refine Zsp (i := 0) (N := some 102) (pm 10 1) HT_ ?_
                  refine Zsp (i := 1) (N := some 103) (pm 10 2) HT_ ?_
                  refine Zsp (i := 4) (N := some 106) #[T, T, F, F, T, F, F, F, F, F] HT_ ?_
                  refine Zsp (i := 5) (N := some 107) #[T, T, F, F, T, T, F, F, F, F] HT_ ?_
                  refine Zst (i := 2) (N := some 104) #[T, T, T, F, T, T, F, F, F, F] HT_ HW_ hHeld ?_ (hy := by (refine Or.inl ⟨by rfl, ?_⟩; rintro w' ⟨s0, s1, s2, s3⟩; go_simp; with_reducible rfl))
                  refine Zsp (i := 3) (N := some 105) (pm 10 6) HT_ ?_
                  refine Zsp (i := 8) (N := some 16) #[T, T, T, T, T, T, F, F, T, F] HT_ ?_
                  refine Zst (i := 6) (N := some 108) #[T, T, T, T, T, T, T, F, T, F] HT_ HW_ hHeld ?_ (hy := by (refine Or.inl ⟨by rfl, ?_⟩; rintro w' ⟨s0, s1, s2, s3⟩; go_simp; with_reducible rfl))
                  refine Zsp (i := 7) (N := some 109) (pm 10 9) HT_ ?_
                  refine Zsp (i := 9) (N := some 17) (pm 10 10) HT_ ?_
                  refine done_ (QaX HT_.out (by kernel_rfl)) ?_
                  go_upto_region 26 with (fail)
                  go_cut [130] (fun v130 wc => ∃ (kq : Nat) (x130_51 : Bool), v130 = .bool x130_51 ∧ Aside0 (Qak.j3 kq l0 l2 x6_2 x7_2 x72_2 (l2.length : Int) x72_2 x130_51 x464000_3 x464001_3 = some (r1, r2, r3)) ∧ Aside0 (kq ≤ k3) ∧ Aside0 (Kd.R (Kd.int .i64) 3 wc w.heap.size (fun k_ => some k_ ≠ ((.slice (some ad470) x7_2.length co54) : Value).ownBlock) v461 x6_2) ∧ Aside0 (Kd.R (Kd.int .i64) 3 wc w.heap.size (fun k_ => some k_ ≠ (v461 : Value).ownBlock) (.slice (some ad470) x7_2.length co54) x7_2) ∧ Aside0 (wc.heap[gb463]? = some (.cells #[.int .i64 x464000_3, .int .i64 x464001_3] 144 (0, 0))) ∧ Aside0 (Below w.heap.size w wc))
                  case first =>
                   have H := HC52.out
                   clear HC52
                   by_cases c55 : (rd x7_2 x464000_3) = 0
                   ·rw [if_pos c55] at H
                    have c55b0 : ((rd x7_2 x464000_3) == 0) = T := beq_iff_eq.mpr c55
                    have c55b1 : ((rd x7_2 x464000_3) != 0) = F := bne_eq_false_iff_eq.mpr c55
                    clear c55
                    (first | rw [c55b0] | (simp only [i64_w, i32_w]; rw [c55b0]) | skip)
                    have H' := Aside0.mk H
                    clear H
                    try go_wp2
                    replace HO_6 := Aside0.mk (Kd.R_drew HO_6.out)
                    replace HO_7 := Aside0.mk (Kd.R_drew HO_7.out)
                    replace BK463 := Aside0.mk (Qai BK463.out)
                    replace HB := Aside0.mk (Qac HB.out)
                    have p472 : 0 ≤ (x464000_3 : Int) := Ze
                    have q472 : x464000_3 < (x7_2.length : Int) := Ze
                    obtain ⟨ad472, e472, hx472_0⟩ := Kd.at_int (Kd.R_reads' HO_7.out).2.2 x464000_3 p472 q472
                    obtain rfl : ad470 = ad472 := (by injection e472)
                    replace p472 := eq_true p472
                    replace q472 := eq_true q472
                    refine start_ (n := 21) (S := fun w' => w'.cell? (ad470.add (x464000_3).toNat) = some (.int .i64 (rd x7_2 x464000_3))) (ds := []) #[F, F, F, F, F, F, F, F, F, F, F, F, F, F, F, F, F, F, F, F, F] (by kernel_rfl) rfl rfl (hx472_0) (fun hHeld => ?_); refine QaP Qak.tab26 Qak.bits26 (fun HT_ HW_ => ?_)
                    generalize w53.drew = w56 at HO_6 HO_7 BK463 HB hx472_0 hHeld ⊢
                    refine Zsp (i := 0) (N := some 110) (pm 21 1) HT_ ?_
                    refine Zsp (i := 1) (N := some 111) (pm 21 2) HT_ ?_
                    refine take_ (i := 2) (N := some 112) (v := ?_) (a' := ?_) #[T, T, T, F, F, F, F, F, F, F, F, F, F, F, F, F, F, F, F, F, F] rfl rfl (Qc7 HT_.out HW_.out (by kernel_rfl)) (fun _ _ _ h => h) (Or.inl ⟨by rfl, ?_⟩) hHeld ?_ ?_
                    rotate_left
                    ·intro w' s0
                     go_simp
                     with_reducible rfl
                    rotate_left
                    ·simp only [Act.put, Zj, Zk, Zm, i64_w, i32_w]
                     rfl
                    refine Zsp (i := 3) (N := some 113) (pm 21 4) HT_ ?_
                    refine Zsp (i := 4) (N := some 114) (pm 21 5) HT_ ?_
                    refine Zso (i := 5) (N := some 115) (pm 21 6) HT_ ?_
                    refine Zso (i := 6) (N := some 116) (pm 21 7) HT_ ?_
                    refine Zso (i := 7) (N := some 117) (pm 21 8) HT_ ?_
                    refine Zso (i := 8) (N := some 118) (pm 21 9) HT_ ?_
                    refine Zsp (i := 9) (N := some 119) (pm 21 10) HT_ ?_
                    refine Zsp (i := 10) (N := some 120) (pm 21 11) HT_ ?_
                    refine Zso (i := 11) (N := some 121) (pm 21 12) HT_ ?_
                    refine Zso (i := 12) (N := some 122) (pm 21 13) HT_ ?_
                    refine Zso (i := 13) (N := some 123) (pm 21 14) HT_ ?_
                    refine Zso (i := 14) (N := some 124) (pm 21 15) HT_ ?_
                    refine Zso (i := 15) (N := some 125) (pm 21 16) HT_ ?_
                    refine Zso (i := 16) (N := some 126) (pm 21 17) HT_ ?_
                    refine Zso (i := 17) (N := some 127) (pm 21 18) HT_ ?_
                    refine Zso (i := 18) (N := some 128) (pm 21 19) HT_ ?_
                    refine Zso (i := 19) (N := some 129) (pm 21 20) HT_ ?_
                    refine Zsp (i := 20) (N := some 130) (pm 21 21) HT_ ?_
                    refine done_ (QaX HT_.out (by kernel_rfl)) ?_
                    try go_wp2
                    go_meet
                    case rel => exact ⟨_, (T), (Zs2), H', ⟨by have := HK1.out; have := HK2.out; have := HK3.out; first | omega | exact Nat.le_refl _⟩, ⟨Zr HO_6.out⟩, ⟨Zr HO_7.out⟩, ⟨Zu BK463.out⟩, ⟨Zc1 GE463.out⟩⟩
                   rw [if_neg c55] at H
                   have c55b0 : ((rd x7_2 x464000_3) == 0) = F := beq_eq_false_iff_ne.mpr c55
                   have c55b1 : ((rd x7_2 x464000_3) != 0) = T := bne_iff_ne.mpr c55
                   (first | rw [c55b0] | (simp only [i64_w, i32_w]; rw [c55b0]) | skip)
                   by_cases c57 : (rd x7_2 x464001_3) = 0
                   ·rw [if_pos c57] at H
                    have c57b0 : ((rd x7_2 x464001_3) == 0) = T := beq_iff_eq.mpr c57
                    have c57b1 : ((rd x7_2 x464001_3) != 0) = F := bne_eq_false_iff_eq.mpr c57
                    clear c57
                    have H' := Aside0.mk H
                    clear H
                    try go_wp2
                    replace HO_6 := Aside0.mk (Kd.R_drew HO_6.out)
                    replace HO_7 := Aside0.mk (Kd.R_drew HO_7.out)
                    replace BK463 := Aside0.mk (Qai BK463.out)
                    replace HB := Aside0.mk (Qac HB.out)
                    have p472 : 0 ≤ (x464000_3 : Int) := Ze
                    have q472 : x464000_3 < (x7_2.length : Int) := Ze
                    obtain ⟨ad472, e472, hx472_0⟩ := Kd.at_int (Kd.R_reads' HO_7.out).2.2 x464000_3 p472 q472
                    obtain rfl : ad470 = ad472 := (by injection e472)
                    replace p472 := eq_true p472
                    replace q472 := eq_true q472
                    have p473 : 0 ≤ (x464001_3 : Int) := Ze
                    have q473 : x464001_3 < (x7_2.length : Int) := Ze
                    obtain ⟨ad473, e473, hx473_0⟩ := Kd.at_int (Kd.R_reads' HO_7.out).2.2 x464001_3 p473 q473
                    obtain rfl : ad470 = ad473 := (by injection e473)
                    replace p473 := eq_true p473
                    replace q473 := eq_true q473
                    refine start_ (n := 21) (S := fun w' => w'.cell? (ad470.add (x464000_3).toNat) = some (.int .i64 (rd x7_2 x464000_3)) ∧ w'.cell? (ad470.add (x464001_3).toNat) = some (.int .i64 (rd x7_2 x464001_3))) (ds := []) #[F, F, F, F, F, F, F, F, F, F, F, F, F, F, F, F, F, F, F, F, F] (by kernel_rfl) rfl rfl ⟨hx472_0, hx473_0⟩ (fun hHeld => ?_); refine QaP Qak.tab26 Qak.bits26 (fun HT_ HW_ => ?_)
                    generalize w53.drew = w58 at HO_6 HO_7 BK463 HB hx472_0 hx473_0 hHeld ⊢
                    refine Zsp (i := 0) (N := some 110) (pm 21 1) HT_ ?_
                    refine Zsp (i := 1) (N := some 111) (pm 21 2) HT_ ?_
                    refine Zst (i := 2) (N := some 112) (pm 21 3) HT_ HW_ hHeld ?_ (hy := by (refine Or.inl ⟨by rfl, ?_⟩; rintro w' ⟨s0, s1⟩; go_simp; with_reducible rfl))
                    refine Zsp (i := 3) (N := some 113) (pm 21 4) HT_ ?_
                    refine Zsp (i := 4) (N := some 114) (pm 21 5) HT_ ?_
                    refine Zsp (i := 5) (N := some 115) (pm 21 6) HT_ ?_
                    refine Zsp (i := 6) (N := some 116) (pm 21 7) HT_ ?_
                    refine Zst (i := 7) (N := some 117) (pm 21 8) HT_ HW_ hHeld ?_ (hy := by (refine Or.inl ⟨by rfl, ?_⟩; rintro w' ⟨s0, s1⟩; go_simp; with_reducible rfl))
                    refine Zsp (i := 8) (N := some 118) (pm 21 9) HT_ ?_
                    refine Zsp (i := 9) (N := some 119) (pm 21 10) HT_ ?_
                    refine Zsp (i := 10) (N := some 120) (pm 21 11) HT_ ?_
                    refine Zso (i := 11) (N := some 121) (pm 21 12) HT_ ?_
                    refine Zso (i := 12) (N := some 122) (pm 21 13) HT_ ?_
                    refine Zso (i := 13) (N := some 123) (pm 21 14) HT_ ?_
                    refine Zso (i := 14) (N := some 124) (pm 21 15) HT_ ?_
                    refine Zso (i := 15) (N := some 125) (pm 21 16) HT_ ?_
                    refine Zso (i := 16) (N := some 126) (pm 21 17) HT_ ?_
                    refine Zso (i := 17) (N := some 127) (pm 21 18) HT_ ?_
                    refine Zso (i := 18) (N := some 128) (pm 21 19) HT_ ?_
                    refine Zso (i := 19) (N := some 129) (pm 21 20) HT_ ?_
                    refine Zsp (i := 20) (N := some 130) (pm 21 21) HT_ ?_
                    refine done_ (QaX HT_.out (by kernel_rfl)) ?_
                    try go_wp2
                    go_meet
                    case rel => exact ⟨_, (T), (Zs2), H', ⟨by have := HK1.out; have := HK2.out; have := HK3.out; first | omega | exact Nat.le_refl _⟩, ⟨Zr HO_6.out⟩, ⟨Zr HO_7.out⟩, ⟨Zu BK463.out⟩, ⟨Zc1 GE463.out⟩⟩
                   rw [if_neg c57] at H
                   have c57b0 : ((rd x7_2 x464001_3) == 0) = F := beq_eq_false_iff_ne.mpr c57
                   have c57b1 : ((rd x7_2 x464001_3) != 0) = T := bne_iff_ne.mpr c57
                   have H' := Aside0.mk H
                   clear H
                   try go_wp2
                   replace HO_6 := Aside0.mk (Kd.R_drew HO_6.out)
                   replace HO_7 := Aside0.mk (Kd.R_drew HO_7.out)
                   replace BK463 := Aside0.mk (Qai BK463.out)
                   replace HB := Aside0.mk (Qac HB.out)
                   have p472 : 0 ≤ (x464000_3 : Int) := Ze
                   have q472 : x464000_3 < (x7_2.length : Int) := Ze
                   obtain ⟨ad472, e472, hx472_0⟩ := Kd.at_int (Kd.R_reads' HO_7.out).2.2 x464000_3 p472 q472
                   obtain rfl : ad470 = ad472 := (by injection e472)
                   replace p472 := eq_true p472
                   replace q472 := eq_true q472
                   have p473 : 0 ≤ (x464001_3 : Int) := Ze
                   have q473 : x464001_3 < (x7_2.length : Int) := Ze
                   obtain ⟨ad473, e473, hx473_0⟩ := Kd.at_int (Kd.R_reads' HO_7.out).2.2 x464001_3 p473 q473
                   obtain rfl : ad470 = ad473 := (by injection e473)
                   replace p473 := eq_true p473
                   replace q473 := eq_true q473
                   have p474 : 0 ≤ (x464000_3 : Int) := Ze
                   have q474 : x464000_3 < (x7_2.length : Int) := Ze
                   obtain ⟨ad474, e474, hx474_0⟩ := Kd.at_int (Kd.R_reads' HO_7.out).2.2 x464000_3 p474 q474
                   obtain rfl : ad470 = ad474 := (by injection e474)
                   replace p474 := eq_true p474
                   replace q474 := eq_true q474
                   have p475 : 0 ≤ (x464001_3 : Int) := Ze
                   have q475 : x464001_3 < (x7_2.length : Int) := Ze
                   obtain ⟨ad475, e475, hx475_0⟩ := Kd.at_int (Kd.R_reads' HO_7.out).2.2 x464001_3 p475 q475
                   obtain rfl : ad470 = ad475 := (by injection e475)
                   replace p475 := eq_true p475
                   replace q475 := eq_true q475
                   refine start_ (n := 21) (S := fun w' => w'.cell? (ad470.add (x464000_3).toNat) = some (.int .i64 (rd x7_2 x464000_3)) ∧ w'.cell? (ad470.add (x464001_3).toNat) = some (.int .i64 (rd x7_2 x464001_3)) ∧ w'.cell? (ad470.add (x464000_3).toNat) = some (.int .i64 (rd x7_2 x464000_3)) ∧ w'.cell? (ad470.add (x464001_3).toNat) = some (.int .i64 (rd x7_2 x464001_3))) (ds := []) #[F, F, F, F, F, F, F, F, F, F, F, F, F, F, F, F, F, F, F, F, F] (by kernel_rfl) rfl rfl ⟨hx472_0, hx473_0, hx474_0, hx475_0⟩ (fun hHeld => ?_); refine QaP Qak.tab26 Qak.bits26 (fun HT_ HW_ => ?_)
                   generalize w53.drew = w59 at HO_6 HO_7 BK463 HB hx472_0 hx473_0 hx474_0 hx475_0 hHeld ⊢
                   refine Zsp (i := 0) (N := some 110) (pm 21 1) HT_ ?_
                   refine Zsp (i := 1) (N := some 111) (pm 21 2) HT_ ?_
                   refine Zst (i := 2) (N := some 112) (pm 21 3) HT_ HW_ hHeld ?_ (hy := by (refine Or.inl ⟨by rfl, ?_⟩; rintro w' ⟨s0, s1, s2, s3⟩; go_simp; with_reducible rfl))
                   refine Zsp (i := 3) (N := some 113) (pm 21 4) HT_ ?_
                   refine Zsp (i := 4) (N := some 114) (pm 21 5) HT_ ?_
                   refine Zsp (i := 5) (N := some 115) (pm 21 6) HT_ ?_
                   refine Zsp (i := 6) (N := some 116) (pm 21 7) HT_ ?_
                   refine Zst (i := 7) (N := some 117) (pm 21 8) HT_ HW_ hHeld ?_ (hy := by (refine Or.inl ⟨by rfl, ?_⟩; rintro w' ⟨s0, s1, s2, s3⟩; go_simp; with_reducible rfl))
                   refine Zsp (i := 8) (N := some 118) (pm 21 9) HT_ ?_
                   refine Zsp (i := 9) (N := some 119) (pm 21 10) HT_ ?_
                   refine Zsp (i := 10) (N := some 120) (pm 21 11) HT_ ?_
                   refine Zsp (i := 11) (N := some 121) (pm 21 12) HT_ ?_
                   refine Zsp (i := 12) (N := some 122) (pm 21 13) HT_ ?_
                   refine Zsp (i := 15) (N := some 125) #[T, T, T, T, T, T, T, T, T, T, T, T, T, F, F, T, F, F, F, F, F] HT_ ?_
                   refine Zsp (i := 16) (N := some 126) #[T, T, T, T, T, T, T, T, T, T, T, T, T, F, F, T, T, F, F, F, F] HT_ ?_
                   refine Zst (i := 13) (N := some 123) #[T, T, T, T, T, T, T, T, T, T, T, T, T, T, F, T, T, F, F, F, F] HT_ HW_ hHeld ?_ (hy := by (refine Or.inl ⟨by rfl, ?_⟩; rintro w' ⟨s0, s1, s2, s3⟩; go_simp; with_reducible rfl))
                   refine Zsp (i := 14) (N := some 124) (pm 21 17) HT_ ?_
                   refine Zst (i := 17) (N := some 127) (pm 21 18) HT_ HW_ hHeld ?_ (hy := by (refine Or.inl ⟨by rfl, ?_⟩; rintro w' ⟨s0, s1, s2, s3⟩; go_simp; with_reducible rfl))
                   refine Zsp (i := 18) (N := some 128) (pm 21 19) HT_ ?_
                   refine Zsp (i := 19) (N := some 129) (pm 21 20) HT_ ?_
                   refine Zsp (i := 20) (N := some 130) (pm 21 21) HT_ ?_
                   refine done_ (QaX HT_.out (by kernel_rfl)) ?_
                   try go_wp2
                   go_meet
                   case rel => exact ⟨_, (((decide ((rd x7_2 x464000_3) > 0)) == (decide ((rd x7_2 x464001_3) > 0)))), (Zs2), H', ⟨by have := HK1.out; have := HK2.out; have := HK3.out; first | omega | exact Nat.le_refl _⟩, ⟨Zr HO_6.out⟩, ⟨Zr HO_7.out⟩, ⟨Zu BK463.out⟩, ⟨Zc1 GE463.out⟩⟩
                  case rest =>
                   clear HC52
                   try clear p2
                   try clear p4
                   try clear q4
                   try clear hx4
                   try clear c5
                   try clear p47
                   try clear q47
                   try clear hx47
                   try clear c55
                   try clear c55b0
                   try clear c55b1
                   try clear c57
                   try clear c57b0
                   try clear c57b1
                   try clear hx472_0
                   try clear hx473_0
                   try clear hx474_0
                   try clear hx475_0
                   try clear p472
                   try clear p473
                   try clear p474
                   try clear p475
                   try clear q472
                   try clear q473
                   try clear q474
                   try clear q475
                   obtain ⟨kq, x130_51, rfl, HA, HJ51, HO_6, HO_7, BK463, HB⟩ := hcut
                   cases kq with
                   | zero => exact absurd HA.out (by simp [Qak.j3])
                   | succ kj51 =>
                    have H := HA.out
                    clear HA
                    simp only [Qak.j3] at H
                    by_cases c60 : x130_51 = T
                    ·subst c60
                     have H1 : (Qak.l1 kj51 l0 l2 x6_2 x7_2 (l2.length : Int) (wrap64 (x72_2 + 1))) = some (r1, r2, r3) := by rw [if_pos rfl] at H; exact H
                     clear H
                     have H := H1
                     clear H1
                     have H' := Aside0.mk H
                     clear H
                     go_wp2
                     go_roundg kj51
                     case measure => have := HK1.out; have := HK2.out; have := HK3.out; have := HJ51.out; omega
                     case rel => exact ⟨(x6_2), (x7_2), (wrap64 (x72_2 + 1)), (Zs2), H', ⟨by have := HK1.out; have := HK2.out; have := HK3.out; have := HJ51.out; omega⟩, ⟨Zr HO_6.out⟩, ⟨Zr HO_7.out⟩, ⟨Zc1 GE463.out⟩⟩
                    replace c60 := Bool.eq_false_iff.mpr c60
                    subst c60
                    have H1 : (if 0 ≤ x464000_3 then (if x464000_3 < (x7_2.length : Int) then ((QbB.f (rd x7_2 x464000_3)).bind fun t477 => (if 0 ≤ x464001_3 then (if x464001_3 < (x7_2.length : Int) then ((QbB.f (rd x7_2 x464001_3)).bind fun t479 => (if (rd x7_2 x464000_3) < 0 then ((some (x7_2.set (x464001_3 : Int).toNat (wrap64 ((rd x7_2 x464001_3) - (wrap64 ((wrap64 (Int.tdiv (mn t477 t479) 1000)) * 1000)))) : List Int)).bind fun y482 => (if 0 ≤ x72_2 then (if x72_2 < (x6_2.length : Int) then (Qak.l1 kj51 l0 l2 (x6_2.set (x72_2 : Int).toNat (wrap64 (Int.tdiv (mn t477 t479) 1000))) (y482.set (x464000_3 : Int).toNat (wrap64 ((rd y482 x464000_3) + (wrap64 ((wrap64 (Int.tdiv (mn t477 t479) 1000)) * 1000))))) (l2.length : Int) (wrap64 (x72_2 + 1))) else (none)) else (none))) else ((some (x7_2.set (x464000_3 : Int).toNat (wrap64 ((rd x7_2 x464000_3) - (wrap64 ((wrap64 (Int.tdiv (mn t477 t479) 1000)) * 1000)))) : List Int)).bind fun y487 => (if 0 ≤ x72_2 then (if x72_2 < (x6_2.length : Int) then (Qak.l1 kj51 l0 l2 (x6_2.set (x72_2 : Int).toNat (wrap64 (Int.tdiv (mn t477 t479) 1000))) (y487.set (x464001_3 : Int).toNat (wrap64 ((rd y487 x464001_3) + (wrap64 ((wrap64 (Int.tdiv (mn t477 t479) 1000)) * 1000))))) (l2.length : Int) (wrap64 (x72_2 + 1))) else (none)) else (none))))) else (none)) else (none))) else (none)) else (none)) = some (r1, r2, r3) := by rw [if_neg (show ¬ (F = T) by decide)] at H; exact H
                    clear H
                    have H := H1
                    clear H1
                    by_cases c61 : 0 ≤ x464000_3
                    ·rw [if_pos c61] at H
                     have c61b0 : decide (0 ≤ x464000_3) = T := decide_eq_true c61
                     clear c61
                     (try simp only [c61b0])
                     by_cases c62 : x464000_3 < (x7_2.length : Int)
                     ·rw [if_pos c62] at H
                      have c62b0 : decide (x464000_3 < (x7_2.length : Int)) = T := decide_eq_true c62
                      clear c62
                      replace H := Option.bind_eq_some_iff.mp H
                      obtain ⟨t477, A630, H⟩ := H
                      replace H : (if 0 ≤ x464001_3 then (if x464001_3 < (x7_2.length : Int) then ((QbB.f (rd x7_2 x464001_3)).bind fun t479 => (if (rd x7_2 x464000_3) < 0 then ((some (x7_2.set (x464001_3 : Int).toNat (wrap64 ((rd x7_2 x464001_3) - (wrap64 ((wrap64 (Int.tdiv (mn t477 t479) 1000)) * 1000)))) : List Int)).bind fun y482 => (if 0 ≤ x72_2 then (if x72_2 < (x6_2.length : Int) then (Qak.l1 kj51 l0 l2 (x6_2.set (x72_2 : Int).toNat (wrap64 (Int.tdiv (mn t477 t479) 1000))) (y482.set (x464000_3 : Int).toNat (wrap64 ((rd y482 x464000_3) + (wrap64 ((wrap64 (Int.tdiv (mn t477 t479) 1000)) * 1000))))) (l2.length : Int) (wrap64 (x72_2 + 1))) else (none)) else (none))) else ((some (x7_2.set (x464000_3 : Int).toNat (wrap64 ((rd x7_2 x464000_3) - (wrap64 ((wrap64 (Int.tdiv (mn t477 t479) 1000)) * 1000)))) : List Int)).bind fun y487 => (if 0 ≤ x72_2 then (if x72_2 < (x6_2.length : Int) then (Qak.l1 kj51 l0 l2 (x6_2.set (x72_2 : Int).toNat (wrap64 (Int.tdiv (mn t477 t479) 1000))) (y487.set (x464001_3 : Int).toNat (wrap64 ((rd y487 x464001_3) + (wrap64 ((wrap64 (Int.tdiv (mn t477 t479) 1000)) * 1000))))) (l2.length : Int) (wrap64 (x72_2 + 1))) else (none)) else (none))))) else (none)) else (none)) = some (r1, r2, r3) := H
                      have A63 := Aside0.mk A630
                      clear A630
                      by_cases c64 : 0 ≤ x464001_3
                      ·rw [if_pos c64] at H
                       have c64b0 : decide (0 ≤ x464001_3) = T := decide_eq_true c64
                       clear c64
                       by_cases c65 : x464001_3 < (x7_2.length : Int)
                       ·rw [if_pos c65] at H
                        have c65b0 : decide (x464001_3 < (x7_2.length : Int)) = T := decide_eq_true c65
                        clear c65
                        replace H := Option.bind_eq_some_iff.mp H
                        obtain ⟨t479, A660, H⟩ := H
                        replace H : (if (rd x7_2 x464000_3) < 0 then ((some (x7_2.set (x464001_3 : Int).toNat (wrap64 ((rd x7_2 x464001_3) - (wrap64 ((wrap64 (Int.tdiv (mn t477 t479) 1000)) * 1000)))) : List Int)).bind fun y482 => (if 0 ≤ x72_2 then (if x72_2 < (x6_2.length : Int) then (Qak.l1 kj51 l0 l2 (x6_2.set (x72_2 : Int).toNat (wrap64 (Int.tdiv (mn t477 t479) 1000))) (y482.set (x464000_3 : Int).toNat (wrap64 ((rd y482 x464000_3) + (wrap64 ((wrap64 (Int.tdiv (mn t477 t479) 1000)) * 1000))))) (l2.length : Int) (wrap64 (x72_2 + 1))) else (none)) else (none))) else ((some (x7_2.set (x464000_3 : Int).toNat (wrap64 ((rd x7_2 x464000_3) - (wrap64 ((wrap64 (Int.tdiv (mn t477 t479) 1000)) * 1000)))) : List Int)).bind fun y487 => (if 0 ≤ x72_2 then (if x72_2 < (x6_2.length : Int) then (Qak.l1 kj51 l0 l2 (x6_2.set (x72_2 : Int).toNat (wrap64 (Int.tdiv (mn t477 t479) 1000))) (y487.set (x464001_3 : Int).toNat (wrap64 ((rd y487 x464001_3) + (wrap64 ((wrap64 (Int.tdiv (mn t477 t479) 1000)) * 1000))))) (l2.length : Int) (wrap64 (x72_2 + 1))) else (none)) else (none)))) = some (r1, r2, r3) := H
                        have A66 := Aside0.mk A660
                        clear A660
                        obtain ⟨ji67, hji67⟩ : ∃ j_ : Int, (mn t477 t479) = j_ := ⟨_, rfl⟩
                        replace H : (if (rd x7_2 x464000_3) < 0 then ((some (x7_2.set (x464001_3 : Int).toNat (wrap64 ((rd x7_2 x464001_3) - (wrap64 ((wrap64 (Int.tdiv (ji67) 1000)) * 1000)))) : List Int)).bind fun y482 => (if 0 ≤ x72_2 then (if x72_2 < (x6_2.length : Int) then (Qak.l1 kj51 l0 l2 (x6_2.set (x72_2 : Int).toNat (wrap64 (Int.tdiv (ji67) 1000))) (y482.set (x464000_3 : Int).toNat (wrap64 ((rd y482 x464000_3) + (wrap64 ((wrap64 (Int.tdiv (ji67) 1000)) * 1000))))) (l2.length : Int) (wrap64 (x72_2 + 1))) else (none)) else (none))) else ((some (x7_2.set (x464000_3 : Int).toNat (wrap64 ((rd x7_2 x464000_3) - (wrap64 ((wrap64 (Int.tdiv (ji67) 1000)) * 1000)))) : List Int)).bind fun y487 => (if 0 ≤ x72_2 then (if x72_2 < (x6_2.length : Int) then (Qak.l1 kj51 l0 l2 (x6_2.set (x72_2 : Int).toNat (wrap64 (Int.tdiv (ji67) 1000))) (y487.set (x464001_3 : Int).toNat (wrap64 ((rd y487 x464001_3) + (wrap64 ((wrap64 (Int.tdiv (ji67) 1000)) * 1000))))) (l2.length : Int) (wrap64 (x72_2 + 1))) else (none)) else (none)))) = some (r1, r2, r3) := by first | (rw [hji67] at H; exact H) | (simp only [hji67] at H ⊢; exact H)
                        (try rw [hji67] at A63)
                        (try rw [hji67] at A66)
                        have hji67_ : (if t479 < t477 then t479 else t477) = ji67 := hji67
                        try go_wp2
                        replace HO_6 := Aside0.mk (Kd.R_drew HO_6.out)
                        replace HO_7 := Aside0.mk (Kd.R_drew HO_7.out)
                        replace BK463 := Aside0.mk (Qai BK463.out)
                        replace HB := Aside0.mk (Qac HB.out)
                        have p476 : 0 ≤ (x464000_3 : Int) := Ze
                        have q476 : x464000_3 < (x7_2.length : Int) := Ze
                        obtain ⟨ad476, e476, hx476_0⟩ := Kd.at_int (Kd.R_reads' HO_7.out).2.2 x464000_3 p476 q476
                        obtain rfl : ad470 = ad476 := (by injection e476)
                        replace p476 := eq_true p476
                        replace q476 := eq_true q476
                        have p478 : 0 ≤ (x464001_3 : Int) := Ze
                        have q478 : x464001_3 < (x7_2.length : Int) := Ze
                        obtain ⟨ad478, e478, hx478_0⟩ := Kd.at_int (Kd.R_reads' HO_7.out).2.2 x464001_3 p478 q478
                        obtain rfl : ad470 = ad478 := (by injection e478)
                        replace p478 := eq_true p478
                        replace q478 := eq_true q478
                        refine start_ (n := 11) (S := fun w' => w'.cell? (ad470.add (x464000_3).toNat) = some (.int .i64 (rd x7_2 x464000_3)) ∧ w'.cell? (ad470.add (x464001_3).toNat) = some (.int .i64 (rd x7_2 x464001_3))) (ds := []) #[F, F, F, F, F, F, F, F, F, F, F] (by kernel_rfl) rfl rfl ⟨hx476_0, hx478_0⟩ (fun hHeld => ?_); refine QaP Qak.tab27 Qak.bits27 (fun HT_ HW_ => ?_)
                        generalize wc.drew = w68 at HO_6 HO_7 BK463 HB hx476_0 hx478_0 hHeld ⊢
                        refine Zsp (i := 0) (N := some 131) (pm 11 1) HT_ ?_
                        refine Zsp (i := 1) (N := some 132) (pm 11 2) HT_ ?_
                        refine Zsp (i := 4) (N := some 135) #[T, T, F, F, T, F, F, F, F, F, F] HT_ ?_
                        refine Zsp (i := 5) (N := some 136) #[T, T, F, F, T, T, F, F, F, F, F] HT_ ?_
                        refine Zst (i := 2) (N := some 133) #[T, T, T, F, T, T, F, F, F, F, F] HT_ HW_ hHeld ?_ (hy := by (refine Or.inl ⟨by rfl, ?_⟩; rintro w' ⟨s0, s1⟩; go_simp; with_reducible rfl))
                        refine Zst (i := 6) (N := some 137) #[T, T, T, F, T, T, T, F, F, F, F] HT_ HW_ hHeld ?_ (hy := by (refine Or.inl ⟨by rfl, ?_⟩; rintro w' ⟨s0, s1⟩; go_simp; with_reducible rfl))
                        refine one_ (i := 3) (N := some 134) #[T, T, T, T, T, T, T, F, F, F, F] rfl rfl (one_of HT_.out (by kernel_rfl)) (by decide) (fun K hK => ?_)
                        refine goes_ Try.func64 (by kernel_rfl) rfl #[.int .i64 (rd x7_2 x464000_3)] (by rfl) rfl rfl (Zl) ?_
                        with_reducible refine (QbB.calls (rd x7_2 x464000_3) t477 _ A63.out).mono ?_
                        rintro e w69 ⟨rfl, hb⟩
                        have HS0_ := (hb.cell (World.block_lt_of_cell? _ _ (hHeld.1))).trans (hHeld.1)
                        have HS1_ := (hb.cell (World.block_lt_of_cell? _ _ (hHeld.2))).trans (hHeld.2)
                        refine ⟨_, rfl, ?_⟩
                        replace HO_6 := Aside0.mk (Kd.R_below (Zr HO_6.out) hb)
                        replace HO_7 := Aside0.mk (Kd.R_below (Zr HO_7.out) hb)
                        replace BK463 := Aside0.mk (Zi BK463.out hb)
                        replace HB := Aside0.mk (Qav (Zc1 GE463.out) hb)
                        (try clear hb)
                        (try clear hb2)
                        (try clear hk)
                        (try clear hi)
                        refine hK.out _ _ ⟨HS0_, HS1_⟩ (fun hHeld => ?_)
                        clear hK K
                        refine norm_ (a' := ?_) ?_ ?_
                        rotate_left
                        ·show Act.put _ (some 134) _ = _
                         simp only [Act.put, Zj, Zk, Zm, i64_w, i32_w]
                         rfl
                        refine one_ (i := 7) (N := some 138) #[T, T, T, T, T, T, T, T, F, F, F] rfl rfl (one_of HT_.out (by kernel_rfl)) (by decide) (fun K hK => ?_)
                        refine goes_ Try.func64 (by kernel_rfl) rfl #[.int .i64 (rd x7_2 x464001_3)] (by rfl) rfl rfl (Zl) ?_
                        with_reducible refine (QbB.calls (rd x7_2 x464001_3) t479 _ A66.out).mono ?_
                        rintro e w70 ⟨rfl, hb⟩
                        have HS0_ := (hb.cell (World.block_lt_of_cell? _ _ (hHeld.1))).trans (hHeld.1)
                        have HS1_ := (hb.cell (World.block_lt_of_cell? _ _ (hHeld.2))).trans (hHeld.2)
                        refine ⟨_, rfl, ?_⟩
                        replace HO_6 := Aside0.mk (Kd.R_below (Zr HO_6.out) hb)
                        replace HO_7 := Aside0.mk (Kd.R_below (Zr HO_7.out) hb)
                        replace BK463 := Aside0.mk (Zi BK463.out hb)
                        replace HB := Aside0.mk (Qav (Zc1 GE463.out) hb)
                        (try clear hb)
                        (try clear hb2)
                        (try clear hk)
                        (try clear hi)
                        refine hK.out _ _ ⟨HS0_, HS1_⟩ (fun hHeld => ?_)
                        clear hK K
                        refine norm_ (a' := ?_) ?_ ?_
                        rotate_left
                        ·show Act.put _ (some 138) _ = _
                         simp only [Act.put, Zj, Zk, Zm, i64_w, i32_w]
                         rfl
                        refine Zsp (i := 8) (N := some 139) (pm 11 9) HT_ ?_
                        refine Zsp (i := 9) (N := some 140) (pm 11 10) HT_ ?_
                        refine Zsp (i := 10) (N := some 18) (pm 11 11) HT_ ?_
                        refine done_ (QaX HT_.out (by kernel_rfl)) ?_
                        have p480 : 0 ≤ (x464000_3 : Int) := Ze
                        have q480 : x464000_3 < (x7_2.length : Int) := Ze
                        obtain ⟨ad480, e480, hx480_0⟩ := Kd.at_int (Kd.R_reads' HO_7.out).2.2 x464000_3 p480 q480
                        obtain rfl : ad470 = ad480 := (by injection e480)
                        replace p480 := eq_true p480
                        replace q480 := eq_true q480
                        go_upto_if 144 with (fail)
                        by_cases c71 : (rd x7_2 x464000_3) < 0
                        ·rw [if_pos c71] at H
                         have c71b0 : decide ((rd x7_2 x464000_3) < 0) = T := decide_eq_true c71
                         clear c71
                         (try simp only [c71b0])
                         obtain ⟨y482, hy482⟩ : ∃ y_ : List Int, y_ = (x7_2.set (x464001_3 : Int).toNat (wrap64 ((rd x7_2 x464001_3) - (wrap64 ((wrap64 (Int.tdiv (ji67) 1000)) * 1000))))) := ⟨_, rfl⟩
                         replace H : (if 0 ≤ x72_2 then (if x72_2 < (x6_2.length : Int) then (Qak.l1 kj51 l0 l2 (x6_2.set (x72_2 : Int).toNat (wrap64 (Int.tdiv (ji67) 1000))) (y482.set (x464000_3 : Int).toNat (wrap64 ((rd y482 x464000_3) + (wrap64 ((wrap64 (Int.tdiv (ji67) 1000)) * 1000))))) (l2.length : Int) (wrap64 (x72_2 + 1))) else (none)) else (none)) = some (r1, r2, r3) := by first | (rw [hy482]; with_reducible exact H) | (have H2_ := (Option.bind_some _ _).symm.trans H; rw [hy482]; with_reducible exact H2_) | (have H2_ := (Option.bind_some _ _).symm.trans H; with_reducible exact H2_) | with_reducible exact H | (rw [hy482]; exact H) | exact H
                         have Ny482 := Aside0.mk hy482
                         clear hy482
                         obtain ⟨y484, hy484⟩ : ∃ y_ : List Int, y_ = (y482.set (x464000_3 : Int).toNat (wrap64 ((rd y482 x464000_3) + (wrap64 ((wrap64 (Int.tdiv (ji67) 1000)) * 1000))))) := ⟨_, rfl⟩
                         replace H : (if 0 ≤ x72_2 then (if x72_2 < (x6_2.length : Int) then (Qak.l1 kj51 l0 l2 (x6_2.set (x72_2 : Int).toNat (wrap64 (Int.tdiv (ji67) 1000))) y484 (l2.length : Int) (wrap64 (x72_2 + 1))) else (none)) else (none)) = some (r1, r2, r3) := by first | (rw [hy484]; with_reducible exact H) | (have H2_ := (Option.bind_some _ _).symm.trans H; rw [hy484]; with_reducible exact H2_) | (have H2_ := (Option.bind_some _ _).symm.trans H; with_reducible exact H2_) | with_reducible exact H | (rw [hy484]; exact H) | exact H
                         have Ny484 := Aside0.mk hy484
                         clear hy484
                         by_cases c74 : 0 ≤ x72_2
                         ·rw [if_pos c74] at H
                          have c74b0 : decide (0 ≤ x72_2) = T := decide_eq_true c74
                          clear c74
                          by_cases c75 : x72_2 < (x6_2.length : Int)
                          ·rw [if_pos c75] at H
                           have c75b0 : decide (x72_2 < (x6_2.length : Int)) = T := decide_eq_true c75
                           clear c75
                           obtain ⟨y485, hy485⟩ : ∃ y_ : List Int, y_ = (x6_2.set (x72_2 : Int).toNat (wrap64 (Int.tdiv (ji67) 1000))) := ⟨_, rfl⟩
                           replace H : (Qak.l1 kj51 l0 l2 y485 y484 (l2.length : Int) (wrap64 (x72_2 + 1))) = some (r1, r2, r3) := by first | (rw [hy485]; with_reducible exact H) | (have H2_ := (Option.bind_some _ _).symm.trans H; rw [hy485]; with_reducible exact H2_) | (have H2_ := (Option.bind_some _ _).symm.trans H; with_reducible exact H2_) | with_reducible exact H | (rw [hy485]; exact H) | exact H
                           have Ny485 := Aside0.mk hy485
                           clear hy485
                           have H' := Aside0.mk H
                           clear H
                           have p481 : 0 ≤ (x464001_3 : Int) := Ze
                           have q481 : x464001_3 < (x7_2.length : Int) := Ze
                           obtain ⟨ad481, e481, hx481_0⟩ := Kd.at_int (Kd.R_reads' HO_7.out).2.2 x464001_3 p481 q481
                           obtain rfl : ad470 = ad481 := (by injection e481)
                           replace p481 := eq_true p481
                           replace q481 := eq_true q481
                           have p72 : 0 ≤ (x464001_3 : Int) := Ze
                           have q72 : (x464001_3 : Int) < ((x7_2.length : Int) : Int) := Ze
                           obtain ⟨go72, co72, eo72, gb72, gl72, cl72, HG72⟩ := Kd.R_form HO_7.out (by omega)
                           (first | cases eo72 | (injection eo72 with ea_ en_ ec_; (first | subst ea_ | (injection ea_ with ea_; subst ea_)); subst ec_; clear en_))
                           have GB72 := Aside0.mk gb72
                           have GG72 := Aside0.mk HG72
                           clear gb72 gl72 HG72
                           (first | simp only [Qa4] at hx470_0 | skip)
                           (first | simp only [Qa4] at hx471_0 | skip)
                           (first | simp only [Qa4] at hx472_0 | skip)
                           (first | simp only [Qa4] at hx473_0 | skip)
                           (first | simp only [Qa4] at hx474_0 | skip)
                           (first | simp only [Qa4] at hx475_0 | skip)
                           (first | simp only [Qa4] at hx476_0 | skip)
                           (first | simp only [Qa4] at hx478_0 | skip)
                           (first | simp only [Qa4] at hx480_0 | skip)
                           (first | simp only [Qa4] at hx481_0 | skip)
                           obtain ⟨hx72_0, hf72_0⟩ := Kd.R_celln 0 HO_7.out (x464001_3 : Int) p72 q72
                           replace p72 := eq_true p72
                           replace q72 := eq_true q72
                           have HP77 := Kd.R_putg HO_7.out (x464001_3 : Int) (wrap64 ((rd x7_2 x464001_3) - (wrap64 ((wrap64 (Int.tdiv (ji67) 1000)) * 1000))))
                           go_wp2_with (first | ((with_reducible refine Qbp (t := 3) (p := 153) rfl ?_); refine Qbl (t := 3) (p := 153) (v := ?vo_w78) (w1 := (w70.setCell ⟨go72, (x464001_3 : Int).toNat, none⟩ (.int .i64 (wrap64 ((rd x7_2 x464001_3) - (wrap64 ((wrap64 (Int.tdiv (ji67) 1000)) * 1000))))))) ?hg ?ho ?hn ?hr ?_; (case ho => rfl); (case hg => rfl); (case hn => rfl); (case hr => first | (go_simp; done) | (go_simp; rfl)); intro w78 hw; have hg : w70.grownBy w78 (some go72) := (by rw [hw]; exact HP77.2); have hp_ : Kd.R (Kd.int .i64) 3 w78 w.heap.size (fun k_ => some k_ ≠ (v461 : Value).ownBlock) (.slice (some ⟨go72, 0, none⟩) x7_2.length co54) y482 := (by rw [hw, Ny482.out]; exact HP77.1); clear HP77; replace HO_6 := Aside0.mk (Kd.R_after (v := (.slice (some ⟨go72, 0, none⟩) x7_2.length co54)) (v1 := (.slice (some ⟨go72, 0, none⟩) x7_2.length co54)) (ok := (fun _ => True)) (by (with_reducible repeat (first | apply Kd.R_alloc | apply Kd.R_drewN | apply Kd.R_drew)); exact Kd.R_mono HO_6.out (fun _ hk => ⟨trivial, hk⟩)) hg (.inl rfl)); replace BK463 := Aside0.mk (Qa0 (g := gb463) (o := .cells #[.int .i64 x464000_3, .int .i64 x464001_3] 144 (0, 0)) (Zu BK463.out) hg (Kd.R_ne HO_7.out BK463.out (by decide))); replace HO_7 := Aside0.mk (hp_); replace HB := Aside0.mk ((by rw [hw]; exact Qaj (HB.out) GB72.out : Below w.heap.size w w78)); clear hg hw hp_; have p483 : 0 ≤ (x464000_3 : Int) := Ze; have q483 : x464000_3 < (y482.length : Int) := (by have h_ : (x464000_3 : Int) < ((x7_2.length : Int) : Int) := Ze; first | (have e_ := (Kd.R_reads' HO_7.out).1; omega) | simpa only [Ny482.out, List.length_set] using h_); have ql483 : ((x464000_3 : Int) < ((x7_2.length : Int) : Int)) = True := eq_true (Ze); obtain ⟨ad483, e483, hx483_0⟩ := Kd.at_int (Kd.R_reads' HO_7.out).2.2 x464000_3 p483 q483; obtain rfl : (⟨go72, 0, none⟩ : Addr) = ad483 := (by injection e483); (first | simp only [Qa4] at hx483_0 | simp only [add_at] at hx483_0 | simp only [Addr.add, Nat.zero_add] at hx483_0 | skip); replace p483 := eq_true p483; replace q483 := eq_true q483; have p73 : 0 ≤ (x464000_3 : Int) := Ze; have q73 : (x464000_3 : Int) < ((x7_2.length : Int) : Int) := Ze; obtain ⟨hx73_0, hf73_0⟩ := Kd.R_celln 0 HO_7.out (x464000_3 : Int) p73 q73; replace p73 := eq_true p73; replace q73 := eq_true q73; obtain ⟨hy79_, hz79_⟩ := Kd.R_celln 0 HO_7.out (x464000_3 : Int) (Ze) (Ze); have HP79 := Kd.R_putg HO_7.out (x464000_3 : Int) (wrap64 ((rd y482 x464000_3) + (wrap64 ((wrap64 (Int.tdiv (ji67) 1000)) * 1000))))) | ((with_reducible refine Qbp (t := 3) (p := 160) rfl ?_); refine Qbl (t := 3) (p := 160) (v := ?vo_w80) (w1 := (w78.setCell ⟨go72, (x464000_3 : Int).toNat, none⟩ (.int .i64 (wrap64 ((rd y482 x464000_3) + (wrap64 ((wrap64 (Int.tdiv (ji67) 1000)) * 1000))))))) ?hg ?ho ?hn ?hr ?_; (case ho => rfl); (case hg => rfl); (case hn => rfl); (case hr => first | (go_simp; done) | (go_simp; rfl)); intro w80 hw; have hg : w78.grownBy w80 (some go72) := (by rw [hw]; exact HP79.2); have hp_ : Kd.R (Kd.int .i64) 3 w80 w.heap.size (fun k_ => some k_ ≠ (v461 : Value).ownBlock) (.slice (some ⟨go72, 0, none⟩) x7_2.length co54) y484 := (by rw [hw, Ny484.out]; exact HP79.1); clear HP79; replace HO_6 := Aside0.mk (Kd.R_after (v := (.slice (some ⟨go72, 0, none⟩) x7_2.length co54)) (v1 := (.slice (some ⟨go72, 0, none⟩) x7_2.length co54)) (ok := (fun _ => True)) (Zr HO_6.out) hg (.inl rfl)); replace BK463 := Aside0.mk (Qa0 (g := gb463) (o := .cells #[.int .i64 x464000_3, .int .i64 x464001_3] 144 (0, 0)) (Zu BK463.out) hg (Kd.R_ne HO_7.out BK463.out (by decide))); replace HO_7 := Aside0.mk (hp_); replace HB := Aside0.mk ((by rw [hw]; exact Qaj (HB.out) GB72.out : Below w.heap.size w w80)); clear hg hw hp_; have p76 : 0 ≤ (x72_2 : Int) := Ze; have q76 : (x72_2 : Int) < ((x6_2.length : Int) : Int) := Ze; obtain ⟨go76, co76, eo76, gb76, gl76, cl76, HG76⟩ := Kd.R_form HO_6.out (by omega); (first | cases eo76 | (injection eo76 with ea_ en_ ec_; (first | subst ea_ | (injection ea_ with ea_; subst ea_)); subst ec_; clear en_)); have GB76 := Aside0.mk gb76; have GG76 := Aside0.mk HG76; clear gb76 gl76 HG76; obtain ⟨hx76_0, hf76_0⟩ := Kd.R_celln 0 HO_6.out (x72_2 : Int) p76 q76; replace p76 := eq_true p76; replace q76 := eq_true q76; have n_ := Aside0.mk (Kd.R_mono (ok' := (fun k_ => some k_ ≠ (.slice (some ⟨go72, 0, none⟩) x7_2.length co54 : Value).ownBlock)) HO_6.out (fun k_ hk => hk.2)); clear HO_6; have HO_6 := n_; clear n_; obtain ⟨hy81_, hz81_⟩ := Kd.R_celln 0 HO_6.out (x72_2 : Int) (Ze) (Ze); have HP81 := Kd.R_putg HO_6.out (x72_2 : Int) (wrap64 (Int.tdiv (ji67) 1000))) | ((with_reducible refine Qbp (t := 3) (p := 164) rfl ?_); refine Qbl (t := 3) (p := 164) (v := ?vo_w82) (w1 := (w80.setCell ⟨go76, (x72_2 : Int).toNat, none⟩ (.int .i64 (wrap64 (Int.tdiv (ji67) 1000))))) ?hg ?ho ?hn ?hr ?_; (case ho => rfl); (case hg => rfl); (case hn => rfl); (case hr => first | (go_simp; done) | (go_simp; rfl)); intro w82 hw; have hg : w80.grownBy w82 (some go76) := (by rw [hw]; exact HP81.2); have hp_ : Kd.R (Kd.int .i64) 3 w82 w.heap.size (fun k_ => some k_ ≠ (.slice (some ⟨go72, 0, none⟩) x7_2.length co54 : Value).ownBlock) (.slice (some ⟨go76, 0, none⟩) x6_2.length co76) y485 := (by rw [hw, Ny485.out]; exact HP81.1); clear HP81; replace HO_7 := Aside0.mk (Kd.R_after (v := (.slice (some ⟨go76, 0, none⟩) x6_2.length co76)) (v1 := (.slice (some ⟨go76, 0, none⟩) x6_2.length co76)) (ok := (fun _ => True)) (by (with_reducible repeat (first | apply Kd.R_alloc | apply Kd.R_drewN | apply Kd.R_drew)); exact Kd.R_mono HO_7.out (fun _ hk => ⟨trivial, hk⟩)) hg (.inl rfl)); replace BK463 := Aside0.mk (Qa0 (g := gb463) (o := .cells #[.int .i64 x464000_3, .int .i64 x464001_3] 144 (0, 0)) (Zu BK463.out) hg (Kd.R_ne HO_6.out BK463.out (by decide))); replace HO_6 := Aside0.mk (hp_); replace HB := Aside0.mk ((by rw [hw]; exact Qaj (HB.out) GB76.out : Below w.heap.size w w82)); clear hg hw hp_))
                           go_roundg kj51
                           case measure => have := HK1.out; have := HK2.out; have := HK3.out; have := HJ51.out; omega
                           case rel => exact ⟨(y485), (y484), (wrap64 (x72_2 + 1)), (Zs2), H', ⟨by have := HK1.out; have := HK2.out; have := HK3.out; have := HJ51.out; omega⟩, ⟨Zr HO_6.out⟩, ⟨by (with_reducible repeat (first | apply Kd.R_alloc | apply Kd.R_drewN | apply Kd.R_drew)); exact Kd.R_mono HO_7.out (fun _ hk => hk.2)⟩, ⟨Zc1 GE463.out⟩⟩
                          rw [if_neg c75] at H
                          exact absurd H (by simp)
                         rw [if_neg c74] at H
                         exact absurd H (by simp)
                        rw [if_neg c71] at H
                        have c71b0 : decide ((rd x7_2 x464000_3) < 0) = F := decide_eq_false c71
                        clear c71
                        (try simp only [c71b0])
                        obtain ⟨y487, hy487⟩ : ∃ y_ : List Int, y_ = (x7_2.set (x464000_3 : Int).toNat (wrap64 ((rd x7_2 x464000_3) - (wrap64 ((wrap64 (Int.tdiv (ji67) 1000)) * 1000))))) := ⟨_, rfl⟩
                        replace H : (if 0 ≤ x72_2 then (if x72_2 < (x6_2.length : Int) then (Qak.l1 kj51 l0 l2 (x6_2.set (x72_2 : Int).toNat (wrap64 (Int.tdiv (ji67) 1000))) (y487.set (x464001_3 : Int).toNat (wrap64 ((rd y487 x464001_3) + (wrap64 ((wrap64 (Int.tdiv (ji67) 1000)) * 1000))))) (l2.length : Int) (wrap64 (x72_2 + 1))) else (none)) else (none)) = some (r1, r2, r3) := by first | (rw [hy487]; with_reducible exact H) | (have H2_ := (Option.bind_some _ _).symm.trans H; rw [hy487]; with_reducible exact H2_) | (have H2_ := (Option.bind_some _ _).symm.trans H; with_reducible exact H2_) | with_reducible exact H | (rw [hy487]; exact H) | exact H
                        have Ny487 := Aside0.mk hy487
                        clear hy487
                        obtain ⟨y489, hy489⟩ : ∃ y_ : List Int, y_ = (y487.set (x464001_3 : Int).toNat (wrap64 ((rd y487 x464001_3) + (wrap64 ((wrap64 (Int.tdiv (ji67) 1000)) * 1000))))) := ⟨_, rfl⟩
                        replace H : (if 0 ≤ x72_2 then (if x72_2 < (x6_2.length : Int) then (Qak.l1 kj51 l0 l2 (x6_2.set (x72_2 : Int).toNat (wrap64 (Int.tdiv (ji67) 1000))) y489 (l2.length : Int) (wrap64 (x72_2 + 1))) else (none)) else (none)) = some (r1, r2, r3) := by first | (rw [hy489]; with_reducible exact H) | (have H2_ := (Option.bind_some _ _).symm.trans H; rw [hy489]; with_reducible exact H2_) | (have H2_ := (Option.bind_some _ _).symm.trans H; with_reducible exact H2_) | with_reducible exact H | (rw [hy489]; exact H) | exact H
                        have Ny489 := Aside0.mk hy489
                        clear hy489
                        by_cases c85 : 0 ≤ x72_2
                        ·rw [if_pos c85] at H
                         have c85b0 : decide (0 ≤ x72_2) = T := decide_eq_true c85
                         clear c85
                         by_cases c86 : x72_2 < (x6_2.length : Int)
                         ·rw [if_pos c86] at H
                          have c86b0 : decide (x72_2 < (x6_2.length : Int)) = T := decide_eq_true c86
                          clear c86
                          obtain ⟨y490, hy490⟩ : ∃ y_ : List Int, y_ = (x6_2.set (x72_2 : Int).toNat (wrap64 (Int.tdiv (ji67) 1000))) := ⟨_, rfl⟩
                          replace H : (Qak.l1 kj51 l0 l2 y490 y489 (l2.length : Int) (wrap64 (x72_2 + 1))) = some (r1, r2, r3) := by first | (rw [hy490]; with_reducible exact H) | (have H2_ := (Option.bind_some _ _).symm.trans H; rw [hy490]; with_reducible exact H2_) | (have H2_ := (Option.bind_some _ _).symm.trans H; with_reducible exact H2_) | with_reducible exact H | (rw [hy490]; exact H) | exact H
                          have Ny490 := Aside0.mk hy490
                          clear hy490
                          have H' := Aside0.mk H
                          clear H
                          have p486 : 0 ≤ (x464000_3 : Int) := Ze
                          have q486 : x464000_3 < (x7_2.length : Int) := Ze
                          obtain ⟨ad486, e486, hx486_0⟩ := Kd.at_int (Kd.R_reads' HO_7.out).2.2 x464000_3 p486 q486
                          obtain rfl : ad470 = ad486 := (by injection e486)
                          replace p486 := eq_true p486
                          replace q486 := eq_true q486
                          have p83 : 0 ≤ (x464000_3 : Int) := Ze
                          have q83 : (x464000_3 : Int) < ((x7_2.length : Int) : Int) := Ze
                          obtain ⟨go83, co83, eo83, gb83, gl83, cl83, HG83⟩ := Kd.R_form HO_7.out (by omega)
                          (first | cases eo83 | (injection eo83 with ea_ en_ ec_; (first | subst ea_ | (injection ea_ with ea_; subst ea_)); subst ec_; clear en_))
                          have GB83 := Aside0.mk gb83
                          have GG83 := Aside0.mk HG83
                          clear gb83 gl83 HG83
                          (first | simp only [Qa4] at hx486_0 | skip)
                          obtain ⟨hx83_0, hf83_0⟩ := Kd.R_celln 0 HO_7.out (x464000_3 : Int) p83 q83
                          replace p83 := eq_true p83
                          replace q83 := eq_true q83
                          have HP88 := Kd.R_putg HO_7.out (x464000_3 : Int) (wrap64 ((rd x7_2 x464000_3) - (wrap64 ((wrap64 (Int.tdiv (ji67) 1000)) * 1000))))
                          go_wp2_with (first | ((with_reducible refine Qbp (t := 3) (p := 153) rfl ?_); refine Qbl (t := 3) (p := 153) (v := ?vo_w89) (w1 := (w70.setCell ⟨go83, (x464000_3 : Int).toNat, none⟩ (.int .i64 (wrap64 ((rd x7_2 x464000_3) - (wrap64 ((wrap64 (Int.tdiv (ji67) 1000)) * 1000))))))) ?hg ?ho ?hn ?hr ?_; (case ho => rfl); (case hg => rfl); (case hn => rfl); (case hr => first | (go_simp; done) | (go_simp; rfl)); intro w89 hw; have hg : w70.grownBy w89 (some go83) := (by rw [hw]; exact HP88.2); have hp_ : Kd.R (Kd.int .i64) 3 w89 w.heap.size (fun k_ => some k_ ≠ (v461 : Value).ownBlock) (.slice (some ⟨go83, 0, none⟩) x7_2.length co54) y487 := (by rw [hw, Ny487.out]; exact HP88.1); clear HP88; replace HO_6 := Aside0.mk (Kd.R_after (v := (.slice (some ⟨go83, 0, none⟩) x7_2.length co54)) (v1 := (.slice (some ⟨go83, 0, none⟩) x7_2.length co54)) (ok := (fun _ => True)) (by (with_reducible repeat (first | apply Kd.R_alloc | apply Kd.R_drewN | apply Kd.R_drew)); exact Kd.R_mono HO_6.out (fun _ hk => ⟨trivial, hk⟩)) hg (.inl rfl)); replace BK463 := Aside0.mk (Qa0 (g := gb463) (o := .cells #[.int .i64 x464000_3, .int .i64 x464001_3] 144 (0, 0)) (Zu BK463.out) hg (Kd.R_ne HO_7.out BK463.out (by decide))); replace HO_7 := Aside0.mk (hp_); replace HB := Aside0.mk ((by rw [hw]; exact Qaj (HB.out) GB83.out : Below w.heap.size w w89)); clear hg hw hp_; have p488 : 0 ≤ (x464001_3 : Int) := Ze; have q488 : x464001_3 < (y487.length : Int) := (by have h_ : (x464001_3 : Int) < ((x7_2.length : Int) : Int) := Ze; first | (have e_ := (Kd.R_reads' HO_7.out).1; omega) | simpa only [Ny487.out, List.length_set] using h_); have ql488 : ((x464001_3 : Int) < ((x7_2.length : Int) : Int)) = True := eq_true (Ze); obtain ⟨ad488, e488, hx488_0⟩ := Kd.at_int (Kd.R_reads' HO_7.out).2.2 x464001_3 p488 q488; obtain rfl : (⟨go83, 0, none⟩ : Addr) = ad488 := (by injection e488); (first | simp only [Qa4] at hx488_0 | simp only [add_at] at hx488_0 | simp only [Addr.add, Nat.zero_add] at hx488_0 | skip); replace p488 := eq_true p488; replace q488 := eq_true q488; have p84 : 0 ≤ (x464001_3 : Int) := Ze; have q84 : (x464001_3 : Int) < ((x7_2.length : Int) : Int) := Ze; obtain ⟨hx84_0, hf84_0⟩ := Kd.R_celln 0 HO_7.out (x464001_3 : Int) p84 q84; replace p84 := eq_true p84; replace q84 := eq_true q84; obtain ⟨hy90_, hz90_⟩ := Kd.R_celln 0 HO_7.out (x464001_3 : Int) (Ze) (Ze); have HP90 := Kd.R_putg HO_7.out (x464001_3 : Int) (wrap64 ((rd y487 x464001_3) + (wrap64 ((wrap64 (Int.tdiv (ji67) 1000)) * 1000))))) | ((with_reducible refine Qbp (t := 3) (p := 160) rfl ?_); refine Qbl (t := 3) (p := 160) (v := ?vo_w91) (w1 := (w89.setCell ⟨go83, (x464001_3 : Int).toNat, none⟩ (.int .i64 (wrap64 ((rd y487 x464001_3) + (wrap64 ((wrap64 (Int.tdiv (ji67) 1000)) * 1000))))))) ?hg ?ho ?hn ?hr ?_; (case ho => rfl); (case hg => rfl); (case hn => rfl); (case hr => first | (go_simp; done) | (go_simp; rfl)); intro w91 hw; have hg : w89.grownBy w91 (some go83) := (by rw [hw]; exact HP90.2); have hp_ : Kd.R (Kd.int .i64) 3 w91 w.heap.size (fun k_ => some k_ ≠ (v461 : Value).ownBlock) (.slice (some ⟨go83, 0, none⟩) x7_2.length co54) y489 := (by rw [hw, Ny489.out]; exact HP90.1); clear HP90; replace HO_6 := Aside0.mk (Kd.R_after (v := (.slice (some ⟨go83, 0, none⟩) x7_2.length co54)) (v1 := (.slice (some ⟨go83, 0, none⟩) x7_2.length co54)) (ok := (fun _ => True)) (Zr HO_6.out) hg (.inl rfl)); replace BK463 := Aside0.mk (Qa0 (g := gb463) (o := .cells #[.int .i64 x464000_3, .int .i64 x464001_3] 144 (0, 0)) (Zu BK463.out) hg (Kd.R_ne HO_7.out BK463.out (by decide))); replace HO_7 := Aside0.mk (hp_); replace HB := Aside0.mk ((by rw [hw]; exact Qaj (HB.out) GB83.out : Below w.heap.size w w91)); clear hg hw hp_; have p87 : 0 ≤ (x72_2 : Int) := Ze; have q87 : (x72_2 : Int) < ((x6_2.length : Int) : Int) := Ze; obtain ⟨go87, co87, eo87, gb87, gl87, cl87, HG87⟩ := Kd.R_form HO_6.out (by omega); (first | cases eo87 | (injection eo87 with ea_ en_ ec_; (first | subst ea_ | (injection ea_ with ea_; subst ea_)); subst ec_; clear en_)); have GB87 := Aside0.mk gb87; have GG87 := Aside0.mk HG87; clear gb87 gl87 HG87; obtain ⟨hx87_0, hf87_0⟩ := Kd.R_celln 0 HO_6.out (x72_2 : Int) p87 q87; replace p87 := eq_true p87; replace q87 := eq_true q87; have n_ := Aside0.mk (Kd.R_mono (ok' := (fun k_ => some k_ ≠ (.slice (some ⟨go83, 0, none⟩) x7_2.length co54 : Value).ownBlock)) HO_6.out (fun k_ hk => hk.2)); clear HO_6; have HO_6 := n_; clear n_; obtain ⟨hy92_, hz92_⟩ := Kd.R_celln 0 HO_6.out (x72_2 : Int) (Ze) (Ze); have HP92 := Kd.R_putg HO_6.out (x72_2 : Int) (wrap64 (Int.tdiv (ji67) 1000))) | ((with_reducible refine Qbp (t := 3) (p := 164) rfl ?_); refine Qbl (t := 3) (p := 164) (v := ?vo_w93) (w1 := (w91.setCell ⟨go87, (x72_2 : Int).toNat, none⟩ (.int .i64 (wrap64 (Int.tdiv (ji67) 1000))))) ?hg ?ho ?hn ?hr ?_; (case ho => rfl); (case hg => rfl); (case hn => rfl); (case hr => first | (go_simp; done) | (go_simp; rfl)); intro w93 hw; have hg : w91.grownBy w93 (some go87) := (by rw [hw]; exact HP92.2); have hp_ : Kd.R (Kd.int .i64) 3 w93 w.heap.size (fun k_ => some k_ ≠ (.slice (some ⟨go83, 0, none⟩) x7_2.length co54 : Value).ownBlock) (.slice (some ⟨go87, 0, none⟩) x6_2.length co87) y490 := (by rw [hw, Ny490.out]; exact HP92.1); clear HP92; replace HO_7 := Aside0.mk (Kd.R_after (v := (.slice (some ⟨go87, 0, none⟩) x6_2.length co87)) (v1 := (.slice (some ⟨go87, 0, none⟩) x6_2.length co87)) (ok := (fun _ => True)) (by (with_reducible repeat (first | apply Kd.R_alloc | apply Kd.R_drewN | apply Kd.R_drew)); exact Kd.R_mono HO_7.out (fun _ hk => ⟨trivial, hk⟩)) hg (.inl rfl)); replace BK463 := Aside0.mk (Qa0 (g := gb463) (o := .cells #[.int .i64 x464000_3, .int .i64 x464001_3] 144 (0, 0)) (Zu BK463.out) hg (Kd.R_ne HO_6.out BK463.out (by decide))); replace HO_6 := Aside0.mk (hp_); replace HB := Aside0.mk ((by rw [hw]; exact Qaj (HB.out) GB87.out : Below w.heap.size w w93)); clear hg hw hp_))
                          go_roundg kj51
                          case measure => have := HK1.out; have := HK2.out; have := HK3.out; have := HJ51.out; omega
                          case rel => exact ⟨(y490), (y489), (wrap64 (x72_2 + 1)), (Zs2), H', ⟨by have := HK1.out; have := HK2.out; have := HK3.out; have := HJ51.out; omega⟩, ⟨Zr HO_6.out⟩, ⟨by (with_reducible repeat (first | apply Kd.R_alloc | apply Kd.R_drewN | apply Kd.R_drew)); exact Kd.R_mono HO_7.out (fun _ hk => hk.2)⟩, ⟨Zc1 GE463.out⟩⟩
                         rw [if_neg c86] at H
                         exact absurd H (by simp)
                        rw [if_neg c85] at H
                        exact absurd H (by simp)
                       rw [if_neg c65] at H
                       exact absurd H (by simp)
                      rw [if_neg c64] at H
                      exact absurd H (by simp)
                     rw [if_neg c62] at H
                     exact absurd H (by simp)
                    rw [if_neg c61] at H
                    exact absurd H (by simp)
                 rw [if_neg c51] at H
                 exact absurd H (by simp)
                rw [if_neg c50] at H
                exact absurd H (by simp)
               rw [if_neg c49] at H
               exact absurd H (by simp)
              rw [if_neg c48] at H
              exact absurd H (by simp)
           rw [if_neg c36] at H
           exact absurd H (by simp)
          rw [if_neg c35] at H
          exact absurd H (by simp)
         rw [if_neg c34] at H
         have c34b0 : decide (x72_2 < (l2.length : Int)) = F := decide_eq_false c34
         clear c34
         (try simp only [c34b0])
         simp only [Option.some.injEq, Prod.mk.injEq] at H
         obtain ⟨rfl, rfl, rfl⟩ := H
         go_wp2
         go_ret3
         exact ⟨_, _, Zq, Zr HO_6.out, Zr HO_7.out, Zb⟩
      rw [if_neg c30] at H
      exact absurd H (by simp)
     rw [if_neg c29] at H
     exact absurd H (by simp)
  rw [if_neg c7] at H
  have c7b0 : ((l1.length : Int) == (l0.length : Int)) = F := beq_eq_false_iff_ne.mpr c7
  have c7b1 : ((l1.length : Int) != (l0.length : Int)) = T := bne_iff_ne.mpr c7
  have c7b2 : (l1.length == l0.length) = F := by first | simpa using c7 | (simp at c7 ⊢; omega)
  (try simp only [c7b0, c7b1, c7b2])
  simp only [Option.some.injEq, Prod.mk.injEq] at H
  obtain ⟨rfl, rfl, rfl⟩ := H
  go_wp2
  go_ret3
  exact ⟨_, _, Zq, by first | exact Kd.R_nil _ _ _ _ _ | exact Kd.N_nil _ _ _ _ _ | exact Kd.V_nil _ _ _ _ _ | exact Kd.Q_nil _ _ _ _ _ | exact Kd.S_nil _ _ _ _ _, by first | exact Kd.R_nil _ _ _ _ _ | exact Kd.N_nil _ _ _ _ _ | exact Kd.V_nil _ _ _ _ _ | exact Kd.Q_nil _ _ _ _ _ | exact Kd.S_nil _ _ _ _ _, Zb⟩
 rw [if_neg c6] at H
 have c6b0 : (t448 == 0) = F := beq_eq_false_iff_ne.mpr c6
 have c6b1 : (t448 != 0) = T := bne_iff_ne.mpr c6
 (try simp only [c6b0, c6b1])
 simp only [Option.some.injEq, Prod.mk.injEq] at H
 obtain ⟨rfl, rfl, rfl⟩ := H
 go_wp2
 go_ret3
 exact ⟨_, _, Zq, by first | exact Kd.R_nil _ _ _ _ _ | exact Kd.N_nil _ _ _ _ _ | exact Kd.V_nil _ _ _ _ _ | exact Kd.Q_nil _ _ _ _ _ | exact Kd.S_nil _ _ _ _ _, by first | exact Kd.R_nil _ _ _ _ _ | exact Kd.N_nil _ _ _ _ _ | exact Kd.V_nil _ _ _ _ _ | exact Kd.Q_nil _ _ _ _ _ | exact Kd.S_nil _ _ _ _ _, Zb⟩
mutual
def QaL.j0 : Nat → List ByteArray → List Int → List Int → Bool → Option (Bool)
 | 0, _, _, _, _ => none
 | k + 1, x0, x1, x2, x19 => if x19 = T then (some F) else (QaL.l0 k x0 x1 x2 (x0.length : Int) 0)
def QaL.l0 : Nat → List ByteArray → List Int → List Int → Int → Int → Option (Bool)
 | 0, _, _, _, _, _ => none
 | k + 1, x0, x1, x2, x21, x22 => if x22 < x21 then (if x22 > 0 then (if 0 ≤ x22 then (if x22 < (x0.length : Int) then (if 0 ≤ (wrap64 (x22 - 1)) then (if (wrap64 (x22 - 1)) < (x0.length : Int) then (if (Op.bytesLess ((rdOf ByteArray.empty x0 x22).toList) ((rdOf ByteArray.empty x0 (wrap64 (x22 - 1))).toList)) = T then (some F) else (if ((rdOf ByteArray.empty x0 x22).toList) = ((rdOf ByteArray.empty x0 (wrap64 (x22 - 1))).toList) then (some F) else (if x22 < (x1.length : Int) then (if (rd x1 x22) < (-1099511627776) then (some F) else (if (rd x1 x22) > 1099511627776 then (some F) else (if x22 < (x2.length : Int) then (if (rd x2 x22) < 0 then (some F) else (if (rd x2 x22) > 1152921504606846976 then (some F) else (QaL.l0 k x0 x1 x2 x21 (wrap64 (x22 + 1))))) else (none)))) else (none)))) else (none)) else (none)) else (none)) else (none)) else (if 0 ≤ x22 then (if x22 < (x1.length : Int) then (if (rd x1 x22) < (-1099511627776) then (some F) else (if (rd x1 x22) > 1099511627776 then (some F) else (if x22 < (x2.length : Int) then (if (rd x2 x22) < 0 then (some F) else (if (rd x2 x22) > 1152921504606846976 then (some F) else (QaL.l0 k x0 x1 x2 x21 (wrap64 (x22 + 1))))) else (none)))) else (none)) else (none))) else (some T)
end
def QaL.f (k : Nat) (l0 : List ByteArray) (l1 : List Int) (l2 : List Int) : Option (Bool) := if (l1.length : Int) = (l0.length : Int) then (QaL.j0 k l0 l1 l2 ((l2.length : Int) != (l0.length : Int))) else (QaL.j0 k l0 l1 l2 T)
theorem QaL.mono_l : ∀ k, (∀ y0 y1 y2 y3, LeO (QaL.j0 k y0 y1 y2 y3) (QaL.j0 (k + 1) y0 y1 y2 y3)) ∧ (∀ y0 y1 y2 y3 y4, LeO (QaL.l0 k y0 y1 y2 y3 y4) (QaL.l0 (k + 1) y0 y1 y2 y3 y4))
 | 0 => ⟨fun _ _ _ _ r h => by simp [QaL.j0] at h, fun _ _ _ _ _ r h => by simp [QaL.l0] at h⟩
 | k + 1 => by
  obtain ⟨ih0, ih1⟩ := QaL.mono_l k
  refine ⟨?_, ?_⟩
  ·intro y0 y1 y2 y3
   unfold QaL.j0
   exact ZM2 ih0 ih1
  intro y0 y1 y2 y3 y4
  unfold QaL.l0
  exact ZM2 ih0 ih1
theorem QaL.mono : ∀ a0 a1 a2 k, LeO (QaL.f k a0 a1 a2) (QaL.f (k + 1) a0 a1 a2) := by
 intro a0 a1 a2 k
 obtain ⟨ih0, ih1⟩ := QaL.mono_l k
 unfold QaL.f
 exact ZM2 ih0 ih1
theorem QaL.calls (k : Nat) (A0 : Option Addr) (c0 : Nat) (l0 : List ByteArray) (A1 : Option Addr) (c1 : Nat) (l1 : List Int) (A2 : Option Addr) (c2 : Nat) (l2 : List Int) (r : Bool) (w : World) (hr0 : Kd.C Kd.string w A0 l0.length l0) (hc0 : l0.length ≤ c0) (hr1 : Kd.C (Kd.int .i64) w A1 l1.length l1) (hc1 : l1.length ≤ c1) (hr2 : Kd.C (Kd.int .i64) w A2 l2.length l2) (hc2 : l2.length ≤ c2) (h : QaL.f k l0 l1 l2 = some r) :
  Calls Try.prog 66 #[.slice A0 l0.length c0, .slice A1 l1.length c1, .slice A2 l2.length c2] w fun e w' => e = .returned (.bool r) ∧ Drawn0 w w' := by
 have HR0 := Aside0.mk hr0
 have HC0 := Aside0.mk hc0
 clear hr0 hc0
 have HR1 := Aside0.mk hr1
 have HC1 := Aside0.mk hc1
 clear hr1 hc1
 have HR2 := Aside0.mk hr2
 have HC2 := Aside0.mk hc2
 clear hr2 hc2
 have H : (if (l1.length : Int) = (l0.length : Int) then (QaL.j0 k l0 l1 l2 ((l2.length : Int) != (l0.length : Int))) else (QaL.j0 k l0 l1 l2 T)) = some r := h
 clear h
 have HC4 := Aside0.mk H
 clear H
 go_enter Try.func66, Try.ntmps66
 go_upto_region 1 with (fail)
 repeat (go_quiet (fail); go_upto_region 1 with (fail))
 go_cut [19] (fun v19 wc => ∃ (kq : Nat) (x19_3 : Bool), v19 = .bool x19_3 ∧ Aside0 (QaL.j0 kq l0 l1 l2 x19_3 = some r) ∧ Aside0 (kq ≤ k) ∧ Drawn0 w wc)
 case first =>
  have H := HC4.out
  clear HC4
  by_cases c5 : (l1.length : Int) = (l0.length : Int)
  ·rw [if_pos c5] at H
   have c5b0 : ((l1.length : Int) == (l0.length : Int)) = T := beq_iff_eq.mpr c5
   have c5b1 : ((l1.length : Int) != (l0.length : Int)) = F := bne_eq_false_iff_eq.mpr c5
   have c5b2 : (l1.length == l0.length) = T := by first | simpa using c5 | (simp at c5 ⊢; omega)
   clear c5
   have H' := Aside0.mk H
   clear H
   go_wp2
   repeat (go_quiet (fail); try go_wp2)
   go_meet
   case rel => exact ⟨_, (((l2.length : Int) != (l0.length : Int))), (Zs), H', ⟨by first | omega | exact Nat.le_refl _⟩, Zd⟩
  rw [if_neg c5] at H
  have c5b0 : ((l1.length : Int) == (l0.length : Int)) = F := beq_eq_false_iff_ne.mpr c5
  have c5b1 : ((l1.length : Int) != (l0.length : Int)) = T := bne_iff_ne.mpr c5
  have c5b2 : (l1.length == l0.length) = F := by first | simpa using c5 | (simp at c5 ⊢; omega)
  have H' := Aside0.mk H
  clear H
  go_wp2
  repeat (go_quiet (fail); try go_wp2)
  go_meet
  case rel => exact ⟨_, (T), (Zs), H', ⟨by first | omega | exact Nat.le_refl _⟩, Zd⟩
 case rest =>
  clear HC4
  try clear c1
  try clear c2
  try clear p2
  try clear c5
  try clear c5b0
  try clear c5b1
  try clear c5b2
  obtain ⟨kq, x19_3, rfl, HA, HJ3, ⟨mc3, rfl⟩⟩ := hcut
  cases kq with
  | zero => exact absurd HA.out (by simp [QaL.j0])
  | succ kj3 =>
   have H := HA.out
   clear HA
   simp only [QaL.j0] at H
   by_cases c6 : x19_3 = T
   ·subst c6
    have H1 : (some F) = some r := by rw [if_pos rfl] at H; exact H
    clear H
    have H := H1
    clear H1
    obtain rfl := Option.some.inj H
    go_wp2
    repeat (go_quiet (fail); try go_wp2)
    go_ret
    exact ⟨Zs, Zd⟩
   replace c6 := Bool.eq_false_iff.mpr c6
   subst c6
   have H1 : (QaL.l0 kj3 l0 l1 l2 (l0.length : Int) 0) = some r := by rw [if_neg (show ¬ (F = T) by decide)] at H; exact H
   clear H
   have H := H1
   clear H1
   have H' := Aside0.mk H
   clear H
   go_wp2
   repeat (go_quiet (fail); try go_wp2)
   go_loopg [22] kj3 (fun kq v22 w' => ∃ (x22_2 : Int), v22 = .int .i64 x22_2 ∧ Aside0 (QaL.l0 kq l0 l1 l2 (l0.length : Int) x22_2 = some r) ∧ Aside0 (kq ≤ kj3) ∧ Drawn0 w w')
   case atStart => exact ⟨(0), (Zs), H', ⟨Nat.le_refl _⟩, Zd⟩
   case round =>
    clear H'
    try clear c1
    try clear c2
    try clear p2
    try clear c3
    try clear c5
    try clear c5b0
    try clear c5b1
    try clear c5b2
    try clear c6
    try clear p2
    obtain ⟨x22_2, rfl, HA, HK2, ⟨m2, rfl⟩⟩ := hrel
    cases gk with
    | zero => exact absurd HA.out (by simp [QaL.l0])
    | succ k2 =>
     have H := HA.out
     clear HA
     simp only [QaL.l0] at H
     by_cases c7 : x22_2 < (l0.length : Int)
     ·rw [if_pos c7] at H
      have c7b0 : decide (x22_2 < (l0.length : Int)) = T := decide_eq_true c7
      clear c7
      (try simp only [c7b0])
      by_cases c8 : x22_2 > 0
      ·rw [if_pos c8] at H
       have c8b0 : decide (0 < x22_2) = T := decide_eq_true c8
       clear c8
       by_cases c9 : 0 ≤ x22_2
       ·rw [if_pos c9] at H
        have c9b0 : decide (0 ≤ x22_2) = T := decide_eq_true c9
        clear c9
        by_cases c10 : x22_2 < (l0.length : Int)
        ·rw [if_pos c10] at H
         have c10b0 : decide (x22_2 < (l0.length : Int)) = T := decide_eq_true c10
         clear c10
         obtain ⟨ji11, hji11⟩ : ∃ j_ : Int, (wrap64 (x22_2 - 1)) = j_ := ⟨_, rfl⟩
         replace H : (if 0 ≤ (ji11) then (if (ji11) < (l0.length : Int) then (if (Op.bytesLess ((rdOf ByteArray.empty l0 x22_2).toList) ((rdOf ByteArray.empty l0 (ji11)).toList)) = T then (some F) else (if ((rdOf ByteArray.empty l0 x22_2).toList) = ((rdOf ByteArray.empty l0 (ji11)).toList) then (some F) else (if x22_2 < (l1.length : Int) then (if (rd l1 x22_2) < (-1099511627776) then (some F) else (if (rd l1 x22_2) > 1099511627776 then (some F) else (if x22_2 < (l2.length : Int) then (if (rd l2 x22_2) < 0 then (some F) else (if (rd l2 x22_2) > 1152921504606846976 then (some F) else (QaL.l0 k2 l0 l1 l2 (l0.length : Int) (wrap64 (x22_2 + 1))))) else (none)))) else (none)))) else (none)) else (none)) = some r := by first | (rw [hji11] at H; exact H) | (simp only [hji11] at H ⊢; exact H)
         have hji11w : (IntKind.i64.wrap (x22_2 - 1)) = ji11 := (i64_w _).trans hji11
         by_cases c12 : 0 ≤ (ji11)
         ·rw [if_pos c12] at H
          have c12b0 : decide (0 ≤ (ji11)) = T := decide_eq_true c12
          clear c12
          by_cases c13 : (ji11) < (l0.length : Int)
          ·rw [if_pos c13] at H
           have c13b0 : decide ((ji11) < (l0.length : Int)) = T := decide_eq_true c13
           clear c13
           by_cases c14 : (Op.bytesLess ((rdOf ByteArray.empty l0 x22_2).toList) ((rdOf ByteArray.empty l0 (ji11)).toList)) = T
           ·rw [if_pos c14] at H
            have c14b0 : (Op.bytesLess ((rdOf ByteArray.empty l0 x22_2).toList) ((rdOf ByteArray.empty l0 (ji11)).toList)) = T := c14
            clear c14
            obtain rfl := Option.some.inj H
            have p500 : 0 ≤ (x22_2 : Int) := Ze
            have q500 : x22_2 < (l0.length : Int) := Ze
            obtain ⟨ad500, e500, hx500_0⟩ := Kd.at_string HR0.out x22_2 p500 q500
            cases e500
            replace p500 := eq_true p500
            replace q500 := eq_true q500
            have p501 : 0 ≤ ((ji11) : Int) := Ze
            have q501 : (ji11) < (l0.length : Int) := Ze
            obtain ⟨ad501, e501, hx501_0⟩ := Kd.at_string HR0.out (ji11) p501 q501
            obtain rfl : ad500 = ad501 := (by injection e501)
            replace p501 := eq_true p501
            replace q501 := eq_true q501
            go_wp2
            repeat (go_quiet (fail); try go_wp2)
            go_ret
            exact ⟨by first | rfl | (simp; done) | (simp only [← hji11] <;> (first | rfl | simp)) | (simp [*]; done), Zd⟩
           rw [if_neg c14] at H
           have c14b0 : (Op.bytesLess ((rdOf ByteArray.empty l0 x22_2).toList) ((rdOf ByteArray.empty l0 (ji11)).toList)) = F := by simpa using c14
           clear c14
           by_cases c15 : ((rdOf ByteArray.empty l0 x22_2).toList) = ((rdOf ByteArray.empty l0 (ji11)).toList)
           ·rw [if_pos c15] at H
            have c15b0 : (((rdOf ByteArray.empty l0 x22_2).toList) == ((rdOf ByteArray.empty l0 (ji11)).toList)) = T := beq_iff_eq.mpr c15
            have c15b1 : (((rdOf ByteArray.empty l0 x22_2).toList) != ((rdOf ByteArray.empty l0 (ji11)).toList)) = F := bne_eq_false_iff_eq.mpr c15
            clear c15
            obtain rfl := Option.some.inj H
            have p500 : 0 ≤ (x22_2 : Int) := Ze
            have q500 : x22_2 < (l0.length : Int) := Ze
            obtain ⟨ad500, e500, hx500_0⟩ := Kd.at_string HR0.out x22_2 p500 q500
            cases e500
            replace p500 := eq_true p500
            replace q500 := eq_true q500
            have p501 : 0 ≤ ((ji11) : Int) := Ze
            have q501 : (ji11) < (l0.length : Int) := Ze
            obtain ⟨ad501, e501, hx501_0⟩ := Kd.at_string HR0.out (ji11) p501 q501
            obtain rfl : ad500 = ad501 := (by injection e501)
            replace p501 := eq_true p501
            replace q501 := eq_true q501
            go_wp2
            repeat (go_quiet (fail); try go_wp2)
            go_ret
            exact ⟨by first | rfl | (simp; done) | (simp only [← hji11] <;> (first | rfl | simp)) | (simp [*]; done), Zd⟩
           rw [if_neg c15] at H
           have c15b0 : (((rdOf ByteArray.empty l0 x22_2).toList) == ((rdOf ByteArray.empty l0 (ji11)).toList)) = F := beq_eq_false_iff_ne.mpr c15
           have c15b1 : (((rdOf ByteArray.empty l0 x22_2).toList) != ((rdOf ByteArray.empty l0 (ji11)).toList)) = T := bne_iff_ne.mpr c15
           by_cases c16 : x22_2 < (l1.length : Int)
           ·rw [if_pos c16] at H
            have c16b0 : decide (x22_2 < (l1.length : Int)) = T := decide_eq_true c16
            clear c16
            by_cases c17 : (rd l1 x22_2) < (-1099511627776)
            ·rw [if_pos c17] at H
             have c17b0 : decide ((rd l1 x22_2) < (-1099511627776)) = T := decide_eq_true c17
             clear c17
             obtain rfl := Option.some.inj H
             have p500 : 0 ≤ (x22_2 : Int) := Ze
             have q500 : x22_2 < (l0.length : Int) := Ze
             obtain ⟨ad500, e500, hx500_0⟩ := Kd.at_string HR0.out x22_2 p500 q500
             cases e500
             replace p500 := eq_true p500
             replace q500 := eq_true q500
             have p501 : 0 ≤ ((ji11) : Int) := Ze
             have q501 : (ji11) < (l0.length : Int) := Ze
             obtain ⟨ad501, e501, hx501_0⟩ := Kd.at_string HR0.out (ji11) p501 q501
             obtain rfl : ad500 = ad501 := (by injection e501)
             replace p501 := eq_true p501
             replace q501 := eq_true q501
             have p502 : 0 ≤ (x22_2 : Int) := Ze
             have q502 : x22_2 < (l1.length : Int) := Ze
             obtain ⟨ad502, e502, hx502_0⟩ := Kd.at_int HR1.out x22_2 p502 q502
             cases e502
             replace p502 := eq_true p502
             replace q502 := eq_true q502
             go_wp2
             repeat (go_quiet (fail); try go_wp2)
             go_ret
             exact ⟨by first | rfl | (simp; done) | (simp only [← hji11] <;> (first | rfl | simp)) | (simp [*]; done), Zd⟩
            rw [if_neg c17] at H
            have c17b0 : decide ((rd l1 x22_2) < (-1099511627776)) = F := decide_eq_false c17
            clear c17
            by_cases c18 : (rd l1 x22_2) > 1099511627776
            ·rw [if_pos c18] at H
             have c18b0 : decide (1099511627776 < (rd l1 x22_2)) = T := decide_eq_true c18
             clear c18
             obtain rfl := Option.some.inj H
             have p500 : 0 ≤ (x22_2 : Int) := Ze
             have q500 : x22_2 < (l0.length : Int) := Ze
             obtain ⟨ad500, e500, hx500_0⟩ := Kd.at_string HR0.out x22_2 p500 q500
             cases e500
             replace p500 := eq_true p500
             replace q500 := eq_true q500
             have p501 : 0 ≤ ((ji11) : Int) := Ze
             have q501 : (ji11) < (l0.length : Int) := Ze
             obtain ⟨ad501, e501, hx501_0⟩ := Kd.at_string HR0.out (ji11) p501 q501
             obtain rfl : ad500 = ad501 := (by injection e501)
             replace p501 := eq_true p501
             replace q501 := eq_true q501
             have p502 : 0 ≤ (x22_2 : Int) := Ze
             have q502 : x22_2 < (l1.length : Int) := Ze
             obtain ⟨ad502, e502, hx502_0⟩ := Kd.at_int HR1.out x22_2 p502 q502
             cases e502
             replace p502 := eq_true p502
             replace q502 := eq_true q502
             have p503 : 0 ≤ (x22_2 : Int) := Ze
             have q503 : x22_2 < (l1.length : Int) := Ze
             obtain ⟨ad503, e503, hx503_0⟩ := Kd.at_int HR1.out x22_2 p503 q503
             obtain rfl : ad502 = ad503 := (by injection e503)
             replace p503 := eq_true p503
             replace q503 := eq_true q503
             go_wp2
             repeat (go_quiet (fail); try go_wp2)
             go_ret
             exact ⟨by first | rfl | (simp; done) | (simp only [← hji11] <;> (first | rfl | simp)) | (simp [*]; done), Zd⟩
            rw [if_neg c18] at H
            have c18b0 : decide (1099511627776 < (rd l1 x22_2)) = F := decide_eq_false c18
            clear c18
            by_cases c19 : x22_2 < (l2.length : Int)
            ·rw [if_pos c19] at H
             have c19b0 : decide (x22_2 < (l2.length : Int)) = T := decide_eq_true c19
             clear c19
             by_cases c20 : (rd l2 x22_2) < 0
             ·rw [if_pos c20] at H
              have c20b0 : decide ((rd l2 x22_2) < 0) = T := decide_eq_true c20
              clear c20
              obtain rfl := Option.some.inj H
              have p500 : 0 ≤ (x22_2 : Int) := Ze
              have q500 : x22_2 < (l0.length : Int) := Ze
              obtain ⟨ad500, e500, hx500_0⟩ := Kd.at_string HR0.out x22_2 p500 q500
              cases e500
              replace p500 := eq_true p500
              replace q500 := eq_true q500
              have p501 : 0 ≤ ((ji11) : Int) := Ze
              have q501 : (ji11) < (l0.length : Int) := Ze
              obtain ⟨ad501, e501, hx501_0⟩ := Kd.at_string HR0.out (ji11) p501 q501
              obtain rfl : ad500 = ad501 := (by injection e501)
              replace p501 := eq_true p501
              replace q501 := eq_true q501
              have p502 : 0 ≤ (x22_2 : Int) := Ze
              have q502 : x22_2 < (l1.length : Int) := Ze
              obtain ⟨ad502, e502, hx502_0⟩ := Kd.at_int HR1.out x22_2 p502 q502
              cases e502
              replace p502 := eq_true p502
              replace q502 := eq_true q502
              have p503 : 0 ≤ (x22_2 : Int) := Ze
              have q503 : x22_2 < (l1.length : Int) := Ze
              obtain ⟨ad503, e503, hx503_0⟩ := Kd.at_int HR1.out x22_2 p503 q503
              obtain rfl : ad502 = ad503 := (by injection e503)
              replace p503 := eq_true p503
              replace q503 := eq_true q503
              have p504 : 0 ≤ (x22_2 : Int) := Ze
              have q504 : x22_2 < (l2.length : Int) := Ze
              obtain ⟨ad504, e504, hx504_0⟩ := Kd.at_int HR2.out x22_2 p504 q504
              cases e504
              replace p504 := eq_true p504
              replace q504 := eq_true q504
              go_wp2
              repeat (go_quiet (fail); try go_wp2)
              go_ret
              exact ⟨by first | rfl | (simp; done) | (simp only [← hji11] <;> (first | rfl | simp)) | (simp [*]; done), Zd⟩
             rw [if_neg c20] at H
             have c20b0 : decide ((rd l2 x22_2) < 0) = F := decide_eq_false c20
             clear c20
             have p500 : 0 ≤ (x22_2 : Int) := Ze
             have q500 : x22_2 < (l0.length : Int) := Ze
             obtain ⟨ad500, e500, hx500_0⟩ := Kd.at_string HR0.out x22_2 p500 q500
             cases e500
             replace p500 := eq_true p500
             replace q500 := eq_true q500
             have p501 : 0 ≤ ((ji11) : Int) := Ze
             have q501 : (ji11) < (l0.length : Int) := Ze
             obtain ⟨ad501, e501, hx501_0⟩ := Kd.at_string HR0.out (ji11) p501 q501
             obtain rfl : ad500 = ad501 := (by injection e501)
             replace p501 := eq_true p501
             replace q501 := eq_true q501
             have p502 : 0 ≤ (x22_2 : Int) := Ze
             have q502 : x22_2 < (l1.length : Int) := Ze
             obtain ⟨ad502, e502, hx502_0⟩ := Kd.at_int HR1.out x22_2 p502 q502
             cases e502
             replace p502 := eq_true p502
             replace q502 := eq_true q502
             have p503 : 0 ≤ (x22_2 : Int) := Ze
             have q503 : x22_2 < (l1.length : Int) := Ze
             obtain ⟨ad503, e503, hx503_0⟩ := Kd.at_int HR1.out x22_2 p503 q503
             obtain rfl : ad502 = ad503 := (by injection e503)
             replace p503 := eq_true p503
             replace q503 := eq_true q503
             have p504 : 0 ≤ (x22_2 : Int) := Ze
             have q504 : x22_2 < (l2.length : Int) := Ze
             obtain ⟨ad504, e504, hx504_0⟩ := Kd.at_int HR2.out x22_2 p504 q504
             cases e504
             replace p504 := eq_true p504
             replace q504 := eq_true q504
             have p505 : 0 ≤ (x22_2 : Int) := Ze
             have q505 : x22_2 < (l2.length : Int) := Ze
             obtain ⟨ad505, e505, hx505_0⟩ := Kd.at_int HR2.out x22_2 p505 q505
             obtain rfl : ad504 = ad505 := (by injection e505)
             replace p505 := eq_true p505
             replace q505 := eq_true q505
             go_upto_if 66 with (fail)
             repeat (go_quiet (fail); go_upto_if 66 with (fail))
             by_cases c21 : (rd l2 x22_2) > 1152921504606846976
             ·rw [if_pos c21] at H
              have c21b0 : decide (1152921504606846976 < (rd l2 x22_2)) = T := decide_eq_true c21
              clear c21
              (try simp only [c21b0])
              obtain rfl := Option.some.inj H
              go_wp2
              repeat (go_quiet (fail); try go_wp2)
              go_ret
              exact ⟨by first | rfl | (simp; done) | (simp only [← hji11] <;> (first | rfl | simp)) | (simp [*]; done), Zd⟩
             rw [if_neg c21] at H
             have c21b0 : decide (1152921504606846976 < (rd l2 x22_2)) = F := decide_eq_false c21
             clear c21
             (try simp only [c21b0])
             have H' := Aside0.mk H
             clear H
             go_wp2
             repeat (go_quiet (fail); try go_wp2)
             go_roundg k2
             case measure => have := HJ3.out; have := HK2.out; omega
             case rel => exact ⟨(wrap64 (x22_2 + 1)), (Zs), H', ⟨by have := HJ3.out; have := HK2.out; omega⟩, Zd⟩
            rw [if_neg c19] at H
            exact absurd H (by simp)
           rw [if_neg c16] at H
           exact absurd H (by simp)
          rw [if_neg c13] at H
          exact absurd H (by simp)
         rw [if_neg c12] at H
         exact absurd H (by simp)
        rw [if_neg c10] at H
        exact absurd H (by simp)
       rw [if_neg c9] at H
       exact absurd H (by simp)
      rw [if_neg c8] at H
      have c8b0 : decide (0 < x22_2) = F := decide_eq_false c8
      clear c8
      by_cases c22 : 0 ≤ x22_2
      ·rw [if_pos c22] at H
       have c22b0 : decide (0 ≤ x22_2) = T := decide_eq_true c22
       clear c22
       by_cases c23 : x22_2 < (l1.length : Int)
       ·rw [if_pos c23] at H
        have c23b0 : decide (x22_2 < (l1.length : Int)) = T := decide_eq_true c23
        clear c23
        by_cases c24 : (rd l1 x22_2) < (-1099511627776)
        ·rw [if_pos c24] at H
         have c24b0 : decide ((rd l1 x22_2) < (-1099511627776)) = T := decide_eq_true c24
         clear c24
         obtain rfl := Option.some.inj H
         have p506 : 0 ≤ (x22_2 : Int) := Ze
         have q506 : x22_2 < (l1.length : Int) := Ze
         obtain ⟨ad506, e506, hx506_0⟩ := Kd.at_int HR1.out x22_2 p506 q506
         cases e506
         replace p506 := eq_true p506
         replace q506 := eq_true q506
         go_wp2
         repeat (go_quiet (fail); try go_wp2)
         go_ret
         exact ⟨Zs, Zd⟩
        rw [if_neg c24] at H
        have c24b0 : decide ((rd l1 x22_2) < (-1099511627776)) = F := decide_eq_false c24
        clear c24
        by_cases c25 : (rd l1 x22_2) > 1099511627776
        ·rw [if_pos c25] at H
         have c25b0 : decide (1099511627776 < (rd l1 x22_2)) = T := decide_eq_true c25
         clear c25
         obtain rfl := Option.some.inj H
         have p506 : 0 ≤ (x22_2 : Int) := Ze
         have q506 : x22_2 < (l1.length : Int) := Ze
         obtain ⟨ad506, e506, hx506_0⟩ := Kd.at_int HR1.out x22_2 p506 q506
         cases e506
         replace p506 := eq_true p506
         replace q506 := eq_true q506
         have p507 : 0 ≤ (x22_2 : Int) := Ze
         have q507 : x22_2 < (l1.length : Int) := Ze
         obtain ⟨ad507, e507, hx507_0⟩ := Kd.at_int HR1.out x22_2 p507 q507
         obtain rfl : ad506 = ad507 := (by injection e507)
         replace p507 := eq_true p507
         replace q507 := eq_true q507
         go_wp2
         repeat (go_quiet (fail); try go_wp2)
         go_ret
         exact ⟨Zs, Zd⟩
        rw [if_neg c25] at H
        have c25b0 : decide (1099511627776 < (rd l1 x22_2)) = F := decide_eq_false c25
        clear c25
        by_cases c26 : x22_2 < (l2.length : Int)
        ·rw [if_pos c26] at H
         have c26b0 : decide (x22_2 < (l2.length : Int)) = T := decide_eq_true c26
         clear c26
         by_cases c27 : (rd l2 x22_2) < 0
         ·rw [if_pos c27] at H
          have c27b0 : decide ((rd l2 x22_2) < 0) = T := decide_eq_true c27
          clear c27
          obtain rfl := Option.some.inj H
          have p506 : 0 ≤ (x22_2 : Int) := Ze
          have q506 : x22_2 < (l1.length : Int) := Ze
          obtain ⟨ad506, e506, hx506_0⟩ := Kd.at_int HR1.out x22_2 p506 q506
          cases e506
          replace p506 := eq_true p506
          replace q506 := eq_true q506
          have p507 : 0 ≤ (x22_2 : Int) := Ze
          have q507 : x22_2 < (l1.length : Int) := Ze
          obtain ⟨ad507, e507, hx507_0⟩ := Kd.at_int HR1.out x22_2 p507 q507
          obtain rfl : ad506 = ad507 := (by injection e507)
          replace p507 := eq_true p507
          replace q507 := eq_true q507
          have p508 : 0 ≤ (x22_2 : Int) := Ze
          have q508 : x22_2 < (l2.length : Int) := Ze
          obtain ⟨ad508, e508, hx508_0⟩ := Kd.at_int HR2.out x22_2 p508 q508
          cases e508
          replace p508 := eq_true p508
          replace q508 := eq_true q508
          go_wp2
          repeat (go_quiet (fail); try go_wp2)
          go_ret
          exact ⟨Zs, Zd⟩
         rw [if_neg c27] at H
         have c27b0 : decide ((rd l2 x22_2) < 0) = F := decide_eq_false c27
         clear c27
         have p506 : 0 ≤ (x22_2 : Int) := Ze
         have q506 : x22_2 < (l1.length : Int) := Ze
         obtain ⟨ad506, e506, hx506_0⟩ := Kd.at_int HR1.out x22_2 p506 q506
         cases e506
         replace p506 := eq_true p506
         replace q506 := eq_true q506
         have p507 : 0 ≤ (x22_2 : Int) := Ze
         have q507 : x22_2 < (l1.length : Int) := Ze
         obtain ⟨ad507, e507, hx507_0⟩ := Kd.at_int HR1.out x22_2 p507 q507
         obtain rfl : ad506 = ad507 := (by injection e507)
         replace p507 := eq_true p507
         replace q507 := eq_true q507
         have p508 : 0 ≤ (x22_2 : Int) := Ze
         have q508 : x22_2 < (l2.length : Int) := Ze
         obtain ⟨ad508, e508, hx508_0⟩ := Kd.at_int HR2.out x22_2 p508 q508
         cases e508
         replace p508 := eq_true p508
         replace q508 := eq_true q508
         have p509 : 0 ≤ (x22_2 : Int) := Ze
         have q509 : x22_2 < (l2.length : Int) := Ze
         obtain ⟨ad509, e509, hx509_0⟩ := Kd.at_int HR2.out x22_2 p509 q509
         obtain rfl : ad508 = ad509 := (by injection e509)
         replace p509 := eq_true p509
         replace q509 := eq_true q509
         go_upto_if 66 with (fail)
         repeat (go_quiet (fail); go_upto_if 66 with (fail))
         by_cases c28 : (rd l2 x22_2) > 1152921504606846976
         ·rw [if_pos c28] at H
          have c28b0 : decide (1152921504606846976 < (rd l2 x22_2)) = T := decide_eq_true c28
          clear c28
          (try simp only [c28b0])
          obtain rfl := Option.some.inj H
          go_wp2
          repeat (go_quiet (fail); try go_wp2)
          go_ret
          exact ⟨Zs, Zd⟩
         rw [if_neg c28] at H
         have c28b0 : decide (1152921504606846976 < (rd l2 x22_2)) = F := decide_eq_false c28
         clear c28
         (try simp only [c28b0])
         have H' := Aside0.mk H
         clear H
         go_wp2
         repeat (go_quiet (fail); try go_wp2)
         go_roundg k2
         case measure => have := HJ3.out; have := HK2.out; omega
         case rel => exact ⟨(wrap64 (x22_2 + 1)), (Zs), H', ⟨by have := HJ3.out; have := HK2.out; omega⟩, Zd⟩
        rw [if_neg c26] at H
        exact absurd H (by simp)
       rw [if_neg c23] at H
       exact absurd H (by simp)
      rw [if_neg c22] at H
      exact absurd H (by simp)
     rw [if_neg c7] at H
     have c7b0 : decide (x22_2 < (l0.length : Int)) = F := decide_eq_false c7
     clear c7
     (try simp only [c7b0])
     obtain rfl := Option.some.inj H
     go_wp2
     repeat (go_quiet (fail); try go_wp2)
     go_ret
     exact ⟨Zs, Zd⟩
end Go.Proofs.Ytgnmhfjfefgbfaa.Pr
