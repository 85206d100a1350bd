/- Functions' values and contracts, as the print wrote them. -/
import Derived.Test.YtggbflplbblgbaaQ962P0
namespace Go.Proofs.Ytggbflplbblgbaa.Pr
open Bool renaming true → T
open Bool renaming false → F
open Go.RowKit Go.Proofs.YtggbflplbblgbaaW.PrintWords Go.Proofs.YtggbflplbblgbaaW.PrintLast Go.Proofs.YtggbflplbblgbaaW.PrintMore
attribute [local go_sem] QaD QaF QaJ QaK QaB QaC QaE QaG   -- for this text's walks alone
set_option linter.unusedVariables false
set_option linter.unusedSimpArgs false
mutual
def Qae.l0 : Nat → List Int → List Int → List (S91) → Int → Int → Option (List Int × List Int × Int)
 | 0, _, _, _, _, _ => none
 | k + 1, x0, x1, x2, x30, x31 => if x31 < x30 then (if 0 ≤ x31 then (if x31 < (x0.length : Int) then ((QaA.f (rd x0 x31) 0 73048).bind fun t501 => (if t501 = T then (if x31 > 0 then (if 0 ≤ (wrap64 (x31 - 1)) then (if (wrap64 (x31 - 1)) < (x0.length : Int) then (if (rd x0 x31) ≤ (rd x0 (wrap64 (x31 - 1))) then (some (([] : List Int), ([] : List Int), 2)) else (if x31 < (x1.length : Int) then ((QaA.f (rd x1 x31) (-1099511627776) 1099511627776).bind fun t505 => (if t505 = T then (Qae.l0 k x0 x1 x2 x30 (wrap64 (x31 + 1))) else (some (([] : List Int), ([] : List Int), 2)))) else (none))) else (none)) else (none)) else (if x31 < (x1.length : Int) then ((QaA.f (rd x1 x31) (-1099511627776) 1099511627776).bind fun t507 => (if t507 = T then (Qae.l0 k x0 x1 x2 x30 (wrap64 (x31 + 1))) else (some (([] : List Int), ([] : List Int), 2)))) else (none))) else (some (([] : List Int), ([] : List Int), 2)))) else (none)) else (none)) else ((QaU.f x1).bind fun t508 => (if 0 ≤ (x2.length : Int) then (if ((x2.length : Int) : Int).toNat ≤ 35184372088832 then (Qae.l1 k x0 x2 (List.replicate ((x2.length : Int) : Int).toNat 0) t508 (x2.length : Int) 0) else (none)) else (none)))
def Qae.l1 : Nat → List Int → List (S91) → List Int → List Int → Int → Int → Option (List Int × List Int × Int)
 | 0, _, _, _, _, _, _ => none
 | k + 1, x0, x2, x6, x7, x71, x72 => if x72 < x71 then (if 0 ≤ x72 then (if x72 < (x2.length : Int) then (Qae.l2 k x0 x2 x6 x7 x72 x71 x72 0 0 0) else (none)) else (none)) else (some (x6, x7, 0))
def Qae.l2 : Nat → List Int → List (S91) → List Int → List Int → Int → Int → Int → Int → Int → Int → Option (List Int × List Int × Int)
 | 0, _, _, _, _, _, _, _, _, _, _ => none
 | k + 1, x0, x2, x6, x7, x10, x71, x72, x86, x515000, x515001 => if x86 < 2 then (if x86 = 0 then ((Qah.f k x0 ((rd_T91 x2 x72).f0)).bind fun bt517 => (if bt517.2 = T then (Qae.l2 k x0 x2 x6 x7 x10 x71 x72 (wrap64 (x86 + 1)) bt517.1 x515001) else (Qae.l1 k x0 x2 x6 x7 x71 (wrap64 (x72 + 1))))) else (if x86 = 1 then ((Qah.f k x0 ((rd_T91 x2 x72).f1)).bind fun bt519 => (if bt519.2 = T then (Qae.l2 k x0 x2 x6 x7 x10 x71 x72 (wrap64 (x86 + 1)) x515000 bt519.1) else (Qae.l1 k x0 x2 x6 x7 x71 (wrap64 (x72 + 1))))) else (none))) else (if 0 ≤ x515000 then (if x515000 < (x7.length : Int) then (if 0 ≤ x515001 then (if x515001 < (x7.length : Int) then (if (rd x7 x515000) = 0 then (Qae.j3 k x0 x2 x6 x7 x10 x71 x72 T x515000 x515001) else (if (rd x7 x515001) = 0 then (Qae.j3 k x0 x2 x6 x7 x10 x71 x72 T x515000 x515001) else (Qae.j3 k x0 x2 x6 x7 x10 x71 x72 ((decide ((rd x7 x515000) > 0)) == (decide ((rd x7 x515001) > 0))) x515000 x515001))) else (none)) else (none)) else (none)) else (none))
def Qae.j3 : Nat → List Int → List (S91) → List Int → List Int → Int → Int → Int → Bool → Int → Int → Option (List Int × List Int × Int)
 | 0, _, _, _, _, _, _, _, _, _, _ => none
 | k + 1, x0, x2, x6, x7, x10, x71, x72, x130, x515000, x515001 => if x130 = T then (Qae.l1 k x0 x2 x6 x7 x71 (wrap64 (x72 + 1))) else (if 0 ≤ x515000 then (if x515000 < (x7.length : Int) then ((Qa6.f (rd x7 x515000)).bind fun t528 => (if 0 ≤ x515001 then (if x515001 < (x7.length : Int) then ((Qa6.f (rd x7 x515001)).bind fun t530 => (if (rd x7 x515000) < 0 then ((some (x7.set (x515001 : Int).toNat (wrap64 ((rd x7 x515001) - (wrap64 ((wrap64 (Int.tdiv (mn t528 t530) 1000)) * 1000)))) : List Int)).bind fun y533 => (if 0 ≤ x10 then (if x10 < (x6.length : Int) then (Qae.l1 k x0 x2 (x6.set (x10 : Int).toNat (wrap64 (Int.tdiv (mn t528 t530) 1000))) (y533.set (x515000 : Int).toNat (wrap64 ((rd y533 x515000) + (wrap64 ((wrap64 (Int.tdiv (mn t528 t530) 1000)) * 1000))))) x71 (wrap64 (x72 + 1))) else (none)) else (none))) else ((some (x7.set (x515000 : Int).toNat (wrap64 ((rd x7 x515000) - (wrap64 ((wrap64 (Int.tdiv (mn t528 t530) 1000)) * 1000)))) : List Int)).bind fun y538 => (if 0 ≤ x10 then (if x10 < (x6.length : Int) then (Qae.l1 k x0 x2 (x6.set (x10 : Int).toNat (wrap64 (Int.tdiv (mn t528 t530) 1000))) (y538.set (x515001 : Int).toNat (wrap64 ((rd y538 x515001) + (wrap64 ((wrap64 (Int.tdiv (mn t528 t530) 1000)) * 1000))))) x71 (wrap64 (x72 + 1))) else (none)) else (none))))) else (none)) else (none))) else (none)) else (none))
end
def Qae.f (k : Nat) (l0 : List Int) (l1 : List Int) (l2 : List (S91)) : Option (List Int × List Int × Int) := (Qar.f k l2).bind fun t499 => (if t499 = 0 then (if (l1.length : Int) = (l0.length : Int) then (Qae.l0 k l0 l1 l2 (l0.length : Int) 0) else (some (([] : List Int), ([] : List Int), 2))) else (some (([] : List Int), ([] : List Int), t499)))
theorem Qae.mono_l : ∀ k, (∀ y0 y1 y2 y3 y4, LeO (Qae.l0 k y0 y1 y2 y3 y4) (Qae.l0 (k + 1) y0 y1 y2 y3 y4)) ∧ (∀ y0 y1 y2 y3 y4 y5, LeO (Qae.l1 k y0 y1 y2 y3 y4 y5) (Qae.l1 (k + 1) y0 y1 y2 y3 y4 y5)) ∧ (∀ y0 y1 y2 y3 y4 y5 y6 y7 y8 y9, LeO (Qae.l2 k y0 y1 y2 y3 y4 y5 y6 y7 y8 y9) (Qae.l2 (k + 1) y0 y1 y2 y3 y4 y5 y6 y7 y8 y9)) ∧ (∀ y0 y1 y2 y3 y4 y5 y6 y7 y8 y9, LeO (Qae.j3 k y0 y1 y2 y3 y4 y5 y6 y7 y8 y9) (Qae.j3 (k + 1) y0 y1 y2 y3 y4 y5 y6 y7 y8 y9))
 | 0 => ⟨fun _ _ _ _ _ r h => by simp [Qae.l0] at h, fun _ _ _ _ _ _ r h => by simp [Qae.l1] at h, fun _ _ _ _ _ _ _ _ _ _ r h => by simp [Qae.l2] at h, fun _ _ _ _ _ _ _ _ _ _ r h => by simp [Qae.j3] at h⟩
 | k + 1 => by
  obtain ⟨ih0, ih1, ih2, ih3⟩ := Qae.mono_l k
  refine ⟨?_, ?_, ?_, ?_⟩
  ·intro y0 y1 y2 y3 y4
   unfold Qae.l0
   exact ZM6 ih0 ih1 ih2 ih3 Qah.mono Qar.mono
  ·intro y0 y1 y2 y3 y4 y5
   unfold Qae.l1
   exact ZM6 ih0 ih1 ih2 ih3 Qah.mono Qar.mono
  ·intro y0 y1 y2 y3 y4 y5 y6 y7 y8 y9
   unfold Qae.l2
   exact ZM6 ih0 ih1 ih2 ih3 Qah.mono Qar.mono
  intro y0 y1 y2 y3 y4 y5 y6 y7 y8 y9
  unfold Qae.j3
  exact ZM6 ih0 ih1 ih2 ih3 Qah.mono Qar.mono
theorem Qae.mono : ∀ a0 a1 a2 k, LeO (Qae.f k a0 a1 a2) (Qae.f (k + 1) a0 a1 a2) := by
 intro a0 a1 a2 k
 obtain ⟨ih0, ih1, ih2, ih3⟩ := Qae.mono_l k
 unfold Qae.f
 exact ZM6 ih0 ih1 ih2 ih3 Qah.mono Qar.mono
def Qae.T9 : Bool × List (List Nat × List Nat) := (T, [([], []), ([], []), ([0, 1], [0, 1]), ([2], [2]), ([3], [3]), ([4], [4]), ([5, 4], [5]), ([6], [6]), ([7, 6], [6, 7]), ([8, 6, 6], [6, 8]), ([9], [9]), ([9], [9]), ([10, 11, 9], [9, 10, 11]), ([12, 9], [9, 12]), ([9], [9]), ([9], [9]), ([15, 9], [9, 15]), ([14, 16, 9], [9, 14, 16]), ([17, 9], [9, 17]), ([13, 18, 9], [9, 13, 18]), ([9, 19, 6], [6, 9, 19]), ([6, 20], [6, 20]), ([21, 9], [21]), ([22], [22]), ([22], [22]), ([23, 24, 22], [22, 23, 24]), ([25, 22], [22, 25]), ([26, 22, 22], [22, 26]), ([27, 22], [22, 27]), ([22, 28], [22, 28])])
def Qae.B9 : List Nat := [0, 0, 3, 7, 15, 31, 63, 127, 255, 511, 1023, 1023, 4095, 8191, 1023, 1023, 33791, 115711, 246783, 524287, 1048575, 2097151, 4194303, 8388607, 8388607, 33554431, 67108863, 134217727, 268435455, 536870911]
theorem Qae.tab9 : rtab .any (opsOf Try.f33 9) = Qae.T9 := by kernel_rfl
theorem Qae.bits9 : Qbk Qae.T9.2 Qae.B9 = T := by kernel_rfl
def Qae.T18 : Bool × List (List Nat × List Nat) := (T, [([], []), ([], []), ([0, 1], [0, 1]), ([2], [2]), ([3], [3]), ([], []), ([], []), ([5, 6], [5, 6]), ([7], [7]), ([8], [8]), ([4, 9], [4, 9]), ([], [])])
def Qae.B18 : List Nat := [0, 0, 3, 7, 15, 0, 0, 96, 224, 480, 1023, 0]
theorem Qae.tab18 : rtab .any (opsOf Try.f33 18) = Qae.T18 := by kernel_rfl
theorem Qae.bits18 : Qbk Qae.T18.2 Qae.B18 = T := by kernel_rfl
def Qae.T25 : Bool × List (List Nat × List Nat) := (T, [([], []), ([], []), ([1], [1]), ([0, 2], [0, 2]), ([], []), ([], []), ([5], [5]), ([4, 6], [4, 6]), ([3, 0, 1, 2, 3], [3]), ([7, 8, 0, 1, 2, 3, 4, 5, 6, 7, 8], [7])])
def Qae.B25 : List Nat := [0, 0, 2, 7, 0, 0, 32, 112, 15, 511]
theorem Qae.tab25 : rtab .any (opsOf Try.f33 25) = Qae.T25 := by kernel_rfl
theorem Qae.bits25 : Qbk Qae.T25.2 Qae.B25 = T := by kernel_rfl
def Qae.T26 : Bool × List (List Nat × List Nat) := (T, [([], []), ([0], [0]), ([1], [1]), ([2], [2]), ([3], [3]), ([4], [4]), ([5, 4], [4, 5]), ([6, 4], [4, 6]), ([7, 4], [4, 7]), ([4, 8], [4, 8]), ([9, 4], [9]), ([10], [10]), ([11, 10], [10, 11]), ([12, 10], [10, 12]), ([13, 10], [10, 13]), ([10], [10]), ([15, 10], [10, 15]), ([16, 10], [10, 16]), ([17, 10], [10, 17]), ([14, 18, 10], [10, 14, 18]), ([10, 19], [10, 19])])
def Qae.B26 : List Nat := [0, 1, 3, 7, 15, 31, 63, 127, 255, 511, 1023, 2047, 4095, 8191, 16383, 2047, 34815, 100351, 231423, 524287, 1048575]
theorem Qae.tab26 : rtab .any (opsOf Try.f33 26) = Qae.T26 := by kernel_rfl
theorem Qae.bits26 : Qbk Qae.T26.2 Qae.B26 = T := by kernel_rfl
def Qae.T27 : Bool × List (List Nat × List Nat) := (T, [([], []), ([0], [0]), ([1], [1]), ([2], [2]), ([], []), ([4], [4]), ([5], [5]), ([6, 3], [6]), ([3, 7], [3, 7]), ([8], [8]), ([9, 7, 0, 1, 2, 3, 4, 5, 6, 7, 8, 9], [9])])
def Qae.B27 : List Nat := [0, 1, 3, 7, 0, 16, 48, 127, 255, 511, 1023]
theorem Qae.tab27 : rtab .any (opsOf Try.f33 27) = Qae.T27 := by kernel_rfl
theorem Qae.bits27 : Qbk Qae.T27.2 Qae.B27 = T := by kernel_rfl
set_option maxHeartbeats 8000000 in
set_option maxRecDepth 100000 in
theorem Qae.calls (k : Nat) (A0 : Option Addr) (c0 : Nat) (l0 : List Int) (A1 : Option Addr) (c1 : Nat) (l1 : List Int) (A2 : Option Addr) (c2 : Nat) (l2 : List (S91)) (r1 : List Int) (r2 : List Int) (r3 : Int) (w : World) (hr0 : Kd.C (Kd.int .i64) w A0 l0.length l0) (hc0 : l0.length ≤ c0) (hr1 : Kd.C (Kd.int .i64) w A1 l1.length l1) (hc1 : l1.length ≤ c1) (hr2 : Kd.C k91 w A2 l2.length l2) (hc2 : l2.length ≤ c2) (h : Qae.f k l0 l1 l2 = some (r1, r2, r3)) :
  Calls Try.prog 33 #[.slice A0 l0.length c0, .slice A1 l1.length c1, .slice A2 l2.length c2] w fun e w' => ∃ v0_ v1_ : Value, e = .returned (.tuple #[v0_, v1_, .int .i64 r3]) ∧ Kd.R (Kd.int .i64) 3 w' w.heap.size (fun k_ => some k_ ≠ (v1_ : Value).ownBlock) v0_ r1 ∧ Kd.R (Kd.int .i64) 3 w' w.heap.size (fun k_ => some k_ ≠ (v0_ : Value).ownBlock) v1_ r2 ∧ Below w.heap.size w w' := by
 have hu94 := Try.underlying94
 have hix94_0 : ∀ (x0_ x1_ : Value) (W : World), (Instr.index 94 (.agg #[x0_, x1_]) (.int .i64 0)).run Try.prog W = .ok x0_ W := fun _ _ _ => by kernel_rfl
 have hix94_1 : ∀ (x0_ x1_ : Value) (W : World), (Instr.index 94 (.agg #[x0_, x1_]) (.int .i64 1)).run Try.prog W = .ok x1_ W := fun _ _ _ => by kernel_rfl
 have HR0 := Aside0.mk hr0
 have HC0 := Aside0.mk hc0
 clear hr0 hc0
 have HR1 := Aside0.mk hr1
 have HC1 := Aside0.mk hc1
 clear hr1 hc1
 have HR2 := Aside0.mk hr2
 have HC2 := Aside0.mk hc2
 clear hr2 hc2
 have HB := Aside0.mk (Below.refl w.heap.size w)
 have H : ((Qar.f k l2).bind fun t499 => (if t499 = 0 then (if (l1.length : Int) = (l0.length : Int) then (Qae.l0 k l0 l1 l2 (l0.length : Int) 0) else (some (([] : List Int), ([] : List Int), 2))) else (some (([] : List Int), ([] : List Int), t499)))) = some (r1, r2, r3) := h
 clear h
 replace H := Option.bind_eq_some_iff.mp H
 obtain ⟨t499, A40, H⟩ := H
 replace H : (if t499 = 0 then (if (l1.length : Int) = (l0.length : Int) then (Qae.l0 k l0 l1 l2 (l0.length : Int) 0) else (some (([] : List Int), ([] : List Int), 2))) else (some (([] : List Int), ([] : List Int), t499))) = some (r1, r2, r3) := H
 have A4 := Aside0.mk A40
 clear A40
 go_enter Try.func33, Try.ntmps33
 try go_wp2
 refine Qdk ?_
 go_upto_if 22 with (first | ((with_reducible refine Qat (f := 38) rfl ?_); refine goesL_ (some 20) rfl rfl Try.func38 (by kernel_rfl) rfl #[.slice A2 l2.length c2] rfl (Zl) ?_; (with_reducible refine (Qar.calls k _ _ l2 t499 _ ?side1 ?side2 A4.out).mono ?_); (case side1 => exact Zv HR2.out); (case side2 => exact HC2.out); rintro e w5 ⟨rfl, hb⟩; refine ⟨_, rfl, ?_⟩; replace HB := Aside0.mk (Qax (Zb) hb); (try clear hb); (try clear hb2); (try clear hk); (try clear hi)))
 (try simp only [Act.put, Zj, Zk, Zm])
 by_cases c6 : t499 = 0
 ·rw [if_pos c6] at H
  have c6b0 : (t499 == 0) = T := beq_iff_eq.mpr c6
  have c6b1 : (t499 != 0) = F := bne_eq_false_iff_eq.mpr c6
  clear c6
  (try simp only [c6b0, c6b1])
  by_cases c7 : (l1.length : Int) = (l0.length : Int)
  ·rw [if_pos c7] at H
   have c7b0 : ((l1.length : Int) == (l0.length : Int)) = T := beq_iff_eq.mpr c7
   have c7b1 : ((l1.length : Int) != (l0.length : Int)) = F := bne_eq_false_iff_eq.mpr c7
   have c7b2 : (l1.length == l0.length) = T := by first | simpa using c7 | (simp at c7 ⊢; omega)
   clear c7
   (try simp only [c7b0, c7b1, c7b2])
   have H' := Aside0.mk H
   clear H
   go_wp2
   go_loopg [31] k (fun kq v31 w' => ∃ (x31_1 : Int), v31 = .int .i64 x31_1 ∧ Aside0 (Qae.l0 kq l0 l1 l2 (l0.length : Int) x31_1 = some (r1, r2, r3)) ∧ Aside0 (kq ≤ k) ∧ Aside0 (Below w.heap.size w w'))
   case atStart => exact ⟨(0), (Zs2), H', ⟨Nat.le_refl _⟩, ⟨Zb⟩⟩
   case round =>
    clear H'
    try clear c1
    try clear c2
    try clear p2
    try clear c3
    try clear c6
    try clear c6b0
    try clear c6b1
    try clear c7
    try clear c7b0
    try clear c7b1
    try clear c7b2
    obtain ⟨x31_1, rfl, HA, HK1, HB⟩ := hrel
    cases gk with
    | zero => exact absurd HA.out (by simp [Qae.l0])
    | succ k1 =>
     have H := HA.out
     clear HA
     simp only [Qae.l0] at H
     by_cases c8 : x31_1 < (l0.length : Int)
     ·rw [if_pos c8] at H
      have c8b0 : decide (x31_1 < (l0.length : Int)) = T := decide_eq_true c8
      clear c8
      (try simp only [c8b0])
      by_cases c9 : 0 ≤ x31_1
      ·rw [if_pos c9] at H
       have c9b0 : decide (0 ≤ x31_1) = T := decide_eq_true c9
       clear c9
       by_cases c10 : x31_1 < (l0.length : Int)
       ·rw [if_pos c10] at H
        have c10b0 : decide (x31_1 < (l0.length : Int)) = T := decide_eq_true c10
        clear c10
        replace H := Option.bind_eq_some_iff.mp H
        obtain ⟨t501, A110, H⟩ := H
        replace H : (if t501 = T then (if x31_1 > 0 then (if 0 ≤ (wrap64 (x31_1 - 1)) then (if (wrap64 (x31_1 - 1)) < (l0.length : Int) then (if (rd l0 x31_1) ≤ (rd l0 (wrap64 (x31_1 - 1))) then (some (([] : List Int), ([] : List Int), 2)) else (if x31_1 < (l1.length : Int) then ((QaA.f (rd l1 x31_1) (-1099511627776) 1099511627776).bind fun t505 => (if t505 = T then (Qae.l0 k1 l0 l1 l2 (l0.length : Int) (wrap64 (x31_1 + 1))) else (some (([] : List Int), ([] : List Int), 2)))) else (none))) else (none)) else (none)) else (if x31_1 < (l1.length : Int) then ((QaA.f (rd l1 x31_1) (-1099511627776) 1099511627776).bind fun t507 => (if t507 = T then (Qae.l0 k1 l0 l1 l2 (l0.length : Int) (wrap64 (x31_1 + 1))) else (some (([] : List Int), ([] : List Int), 2)))) else (none))) else (some (([] : List Int), ([] : List Int), 2))) = some (r1, r2, r3) := H
        have A11 := Aside0.mk A110
        clear A110
        by_cases c12 : t501 = T
        ·subst c12
         have H1 : (if x31_1 > 0 then (if 0 ≤ (wrap64 (x31_1 - 1)) then (if (wrap64 (x31_1 - 1)) < (l0.length : Int) then (if (rd l0 x31_1) ≤ (rd l0 (wrap64 (x31_1 - 1))) then (some (([] : List Int), ([] : List Int), 2)) else (if x31_1 < (l1.length : Int) then ((QaA.f (rd l1 x31_1) (-1099511627776) 1099511627776).bind fun t505 => (if t505 = T then (Qae.l0 k1 l0 l1 l2 (l0.length : Int) (wrap64 (x31_1 + 1))) else (some (([] : List Int), ([] : List Int), 2)))) else (none))) else (none)) else (none)) else (if x31_1 < (l1.length : Int) then ((QaA.f (rd l1 x31_1) (-1099511627776) 1099511627776).bind fun t507 => (if t507 = T then (Qae.l0 k1 l0 l1 l2 (l0.length : Int) (wrap64 (x31_1 + 1))) else (some (([] : List Int), ([] : List Int), 2)))) else (none))) = some (r1, r2, r3) := by rw [if_pos rfl] at H; exact H
         clear H
         have H := H1
         clear H1
         by_cases c13 : x31_1 > 0
         ·rw [if_pos c13] at H
          have c13b0 : decide (0 < x31_1) = T := decide_eq_true c13
          clear c13
          obtain ⟨ji14, hji14⟩ : ∃ j_ : Int, (wrap64 (x31_1 - 1)) = j_ := ⟨_, rfl⟩
          replace H : (if 0 ≤ (ji14) then (if (ji14) < (l0.length : Int) then (if (rd l0 x31_1) ≤ (rd l0 (ji14)) then (some (([] : List Int), ([] : List Int), 2)) else (if x31_1 < (l1.length : Int) then ((QaA.f (rd l1 x31_1) (-1099511627776) 1099511627776).bind fun t505 => (if t505 = T then (Qae.l0 k1 l0 l1 l2 (l0.length : Int) (wrap64 (x31_1 + 1))) else (some (([] : List Int), ([] : List Int), 2)))) else (none))) else (none)) else (none)) = some (r1, r2, r3) := by first | (rw [hji14] at H; exact H) | (simp only [hji14] at H ⊢; exact H)
          (try rw [hji14] at A11)
          have hji14w : (IntKind.i64.wrap (x31_1 - 1)) = ji14 := (i64_w _).trans hji14
          by_cases c15 : 0 ≤ (ji14)
          ·rw [if_pos c15] at H
           have c15b0 : decide (0 ≤ (ji14)) = T := decide_eq_true c15
           clear c15
           by_cases c16 : (ji14) < (l0.length : Int)
           ·rw [if_pos c16] at H
            have c16b0 : decide ((ji14) < (l0.length : Int)) = T := decide_eq_true c16
            clear c16
            by_cases c17 : (rd l0 x31_1) ≤ (rd l0 (ji14))
            ·rw [if_pos c17] at H
             have c17b0 : decide ((rd l0 x31_1) ≤ (rd l0 (ji14))) = T := decide_eq_true c17
             clear c17
             simp only [Option.some.injEq, Prod.mk.injEq] at H
             obtain ⟨rfl, rfl, rfl⟩ := H
             try go_wp2
             replace HB := Aside0.mk (Qab HB.out)
             have p500 : 0 ≤ (x31_1 : Int) := Ze
             have q500 : x31_1 < (l0.length : Int) := Ze
             obtain ⟨ad500, e500, hx500_0⟩ := Kd.at_int HR0.out x31_1 p500 q500
             have hw500_0 := hx500_0
             cases e500
             replace hx500_0 := Zx HB.out hx500_0
             replace p500 := eq_true p500
             replace q500 := eq_true q500
             have p502 : 0 ≤ (x31_1 : Int) := Ze
             have q502 : x31_1 < (l0.length : Int) := Ze
             obtain ⟨ad502, e502, hx502_0⟩ := Kd.at_int HR0.out x31_1 p502 q502
             have hw502_0 := hx502_0
             obtain rfl : ad500 = ad502 := (by injection e502)
             replace hx502_0 := Zx HB.out hx502_0
             replace p502 := eq_true p502
             replace q502 := eq_true q502
             have p503 : 0 ≤ ((ji14) : Int) := Ze
             have q503 : (ji14) < (l0.length : Int) := Ze
             obtain ⟨ad503, e503, hx503_0⟩ := Kd.at_int HR0.out (ji14) p503 q503
             have hw503_0 := hx503_0
             obtain rfl : ad500 = ad503 := (by injection e503)
             replace hx503_0 := Zx HB.out hx503_0
             replace p503 := eq_true p503
             replace q503 := eq_true q503
             refine start_ (n := 30) (S := fun w' => w'.cell? (ad500.add (x31_1).toNat) = some (.int .i64 (rd l0 x31_1)) ∧ w'.cell? (ad500.add (x31_1).toNat) = some (.int .i64 (rd l0 x31_1)) ∧ w'.cell? (ad500.add ((ji14)).toNat) = some (.int .i64 (rd l0 (ji14)))) (ds := []) #[F, F, F, F, F, F, F, F, F, F, F, F, F, F, F, F, F, F, F, F, F, F, F, F, F, F, F, F, F, F] (by kernel_rfl) rfl rfl ⟨((HB.out.cell (World.block_lt_of_cell? w _ hw500_0)).trans hw500_0), ((HB.out.cell (World.block_lt_of_cell? w _ hw502_0)).trans hw502_0), ((HB.out.cell (World.block_lt_of_cell? w _ hw503_0)).trans hw503_0)⟩ (fun hHeld => ?_); refine Qa1 Qae.tab9 Qae.bits9 (fun HT_ HW_ => ?_)
             generalize wr.drew = w18 at HB hx500_0 hx502_0 hx503_0 hHeld ⊢
             refine pure_ (i := 0) (N := some 34) (v := ?_) (a' := ?_) #[T, F, F, F, F, F, F, F, F, F, F, F, F, F, F, F, F, F, F, F, F, F, F, F, F, F, F, F, F, F] rfl rfl (any_of HT_.out (by kernel_rfl)) (fun _ _ _ h => h) (Or.inl ⟨by rfl, ?_⟩) ?_ ?_
             rotate_left
             ·intro w'
              go_simp
              with_reducible rfl
             rotate_left
             ·simp only [Act.put, Zj, Zk, Zm, i64_w, i32_w]
              rfl
             refine pure_ (i := 1) (N := some 35) (v := ?_) (a' := ?_) #[T, T, F, F, F, F, F, F, F, F, F, F, F, F, F, F, F, F, F, F, F, F, F, F, F, F, F, F, F, F] rfl rfl (any_of HT_.out (by kernel_rfl)) (fun _ _ _ h => h) (Or.inl ⟨by rfl, ?_⟩) ?_ ?_
             rotate_left
             ·intro w'
              go_simp
              with_reducible rfl
             rotate_left
             ·simp only [Act.put, Zj, Zk, Zm, i64_w, i32_w]
              rfl
             refine pure_ (i := 2) (N := some 36) (v := ?_) (a' := ?_) #[T, T, T, F, F, F, F, F, F, F, F, F, F, F, F, F, F, F, F, F, F, F, F, F, F, F, F, F, F, F] rfl rfl (any_of HT_.out (by kernel_rfl)) (fun _ _ _ h => h) (Or.inl ⟨by rfl, ?_⟩) ?_ ?_
             rotate_left
             ·intro w'
              go_simp
              with_reducible rfl
             rotate_left
             ·simp only [Act.put, Zj, Zk, Zm, i64_w, i32_w]
              rfl
             refine take_ (i := 3) (N := some 37) (v := ?_) (a' := ?_) #[T, T, T, T, F, F, F, F, F, F, F, F, F, F, F, F, F, F, F, F, F, F, F, F, F, F, F, F, F, F] rfl rfl (QaH HT_.out HW_.out (by kernel_rfl)) (fun _ _ _ h => h) (Or.inl ⟨by rfl, ?_⟩) hHeld ?_ ?_
             rotate_left
             ·rintro w' ⟨s0, s1, s2⟩
              go_simp
              with_reducible rfl
             rotate_left
             ·simp only [Act.put, Zj, Zk, Zm, i64_w, i32_w]
              rfl
             refine one_ (i := 4) (N := some 38) #[T, T, T, T, T, F, F, F, F, F, F, F, F, F, F, F, F, F, F, F, F, F, F, F, F, F, F, F, F, F] rfl rfl (one_of HT_.out (by kernel_rfl)) (by decide) (fun K hK => ?_)
             refine goes_ Try.func60 (by kernel_rfl) rfl #[.int .i64 (rd l0 x31_1), .int .i64 0, .int .i64 73048] (by rfl) rfl rfl (Zl) ?_
             with_reducible refine (QaA.calls (rd l0 x31_1) 0 73048 T _ A11.out).mono ?_
             rintro e w' ⟨rfl, ⟨nd, rfl⟩⟩
             refine ⟨_, rfl, ?_⟩
             refine hK.out _ _ ⟨((HB.out.cell (World.block_lt_of_cell? w _ hw500_0)).trans hw500_0), ((HB.out.cell (World.block_lt_of_cell? w _ hw502_0)).trans hw502_0), ((HB.out.cell (World.block_lt_of_cell? w _ hw503_0)).trans hw503_0)⟩ (fun hHeld => ?_)
             clear hK K
             refine norm_ (a' := ?_) ?_ ?_
             rotate_left
             ·show Act.put _ (some 38) _ = _
              simp only [Act.put, Zj, Zk, Zm, i64_w, i32_w]
              rfl
             refine pure_ (i := 5) (N := some 39) (v := ?_) (a' := ?_) #[T, T, T, T, T, T, F, F, F, F, F, F, F, F, F, F, F, F, F, F, F, F, F, F, F, F, F, F, F, F] rfl rfl (any_of HT_.out (by kernel_rfl)) (fun _ _ _ h => h) (Or.inl ⟨by rfl, ?_⟩) ?_ ?_
             rotate_left
             ·intro w'
              go_simp
              with_reducible rfl
             rotate_left
             ·simp only [Act.put, Zj, Zk, Zm, i64_w, i32_w]
              rfl
             refine pure_ (i := 6) (N := some 40) (v := ?_) (a' := ?_) #[T, T, T, T, T, T, T, F, F, F, F, F, F, F, F, F, F, F, F, F, F, F, F, F, F, F, F, F, F, F] rfl rfl (any_of HT_.out (by kernel_rfl)) (fun _ _ _ h => h) (Or.inl ⟨by rfl, ?_⟩) ?_ ?_
             rotate_left
             ·intro w'
              go_simp
              with_reducible rfl
             rotate_left
             ·simp only [Act.put, Zj, Zk, Zm, i64_w, i32_w]
              rfl
             refine pure_ (i := 7) (N := some 41) (v := ?_) (a' := ?_) #[T, T, T, T, T, T, T, T, F, F, F, F, F, F, F, F, F, F, F, F, F, F, F, F, F, F, F, F, F, F] rfl rfl (any_of HT_.out (by kernel_rfl)) (fun _ _ _ h => h) (Or.inl ⟨by rfl, ?_⟩) ?_ ?_
             rotate_left
             ·intro w'
              go_simp
              with_reducible rfl
             rotate_left
             ·simp only [Act.put, Zj, Zk, Zm, i64_w, i32_w]
              rfl
             refine pure_ (i := 8) (N := some 42) (v := ?_) (a' := ?_) #[T, T, T, T, T, T, T, T, T, F, F, F, F, F, F, F, F, F, F, F, F, F, F, F, F, F, F, F, F, F] rfl rfl (any_of HT_.out (by kernel_rfl)) (fun _ _ _ h => h) (Or.inl ⟨by rfl, ?_⟩) ?_ ?_
             rotate_left
             ·intro w'
              go_simp
              with_reducible rfl
             rotate_left
             ·simp only [Act.put, Zj, Zk, Zm, i64_w, i32_w]
              rfl
             refine pure_ (i := 9) (N := some 43) (v := ?_) (a' := ?_) #[T, T, T, T, T, T, T, T, T, T, F, F, F, F, F, F, F, F, F, F, F, F, F, F, F, F, F, F, F, F] rfl rfl (any_of HT_.out (by kernel_rfl)) (fun _ _ _ h => h) (Or.inl ⟨by rfl, ?_⟩) ?_ ?_
             rotate_left
             ·intro w'
              go_simp
              with_reducible rfl
             rotate_left
             ·simp only [Act.put, Zj, Zk, Zm, i64_w, i32_w]
              rfl
             refine pure_ (i := 10) (N := some 44) (v := ?_) (a' := ?_) #[T, T, T, T, T, T, T, T, T, T, T, F, F, F, F, F, F, F, F, F, F, F, F, F, F, F, F, F, F, F] rfl rfl (any_of HT_.out (by kernel_rfl)) (fun _ _ _ h => h) (Or.inl ⟨by rfl, ?_⟩) ?_ ?_
             rotate_left
             ·intro w'
              go_simp
              with_reducible rfl
             rotate_left
             ·simp only [Act.put, Zj, Zk, Zm, i64_w, i32_w]
              rfl
             refine pure_ (i := 11) (N := some 45) (v := ?_) (a' := ?_) #[T, T, T, T, T, T, T, T, T, T, T, T, F, F, F, F, F, F, F, F, F, F, F, F, F, F, F, F, F, F] rfl rfl (any_of HT_.out (by kernel_rfl)) (fun _ _ _ h => h) (Or.inl ⟨by rfl, ?_⟩) ?_ ?_
             rotate_left
             ·intro w'
              go_simp
              with_reducible rfl
             rotate_left
             ·simp only [Act.put, Zj, Zk, Zm, i64_w, i32_w]
              rfl
             refine pure_ (i := 12) (N := some 46) (v := ?_) (a' := ?_) #[T, T, T, T, T, T, T, T, T, T, T, T, T, F, F, F, F, F, F, F, F, F, F, F, F, F, F, F, F, F] rfl rfl (any_of HT_.out (by kernel_rfl)) (fun _ _ _ h => h) (Or.inl ⟨by rfl, ?_⟩) ?_ ?_
             rotate_left
             ·intro w'
              go_simp
              with_reducible rfl
             rotate_left
             ·simp only [Act.put, Zj, Zk, Zm, i64_w, i32_w]
              rfl
             refine pure_ (i := 14) (N := some 48) (v := ?_) (a' := ?_) #[T, T, T, T, T, T, T, T, T, T, T, T, T, F, T, F, F, F, F, F, F, F, F, F, F, F, F, F, F, F] rfl rfl (any_of HT_.out (by kernel_rfl)) (fun _ _ _ h => h) (Or.inl ⟨by rfl, ?_⟩) ?_ ?_
             rotate_left
             ·intro w'
              go_simp
              with_reducible rfl
             rotate_left
             ·simp only [Act.put, Zj, Zk, Zm, i64_w, i32_w]
              rfl
             refine pure_ (i := 15) (N := some 49) (v := ?_) (a' := ?_) #[T, T, T, T, T, T, T, T, T, T, T, T, T, F, T, T, F, F, F, F, F, F, F, F, F, F, F, F, F, F] rfl rfl (any_of HT_.out (by kernel_rfl)) (fun _ _ _ h => h) (Or.inl ⟨by rfl, ?_⟩) ?_ ?_
             rotate_left
             ·intro w'
              go_simp
              with_reducible rfl
             rotate_left
             ·simp only [Act.put, Zj, Zk, Zm, i64_w, i32_w]
              rfl
             refine pure_ (i := 16) (N := some 50) (v := ?_) (a' := ?_) #[T, T, T, T, T, T, T, T, T, T, T, T, T, F, T, T, T, F, F, F, F, F, F, F, F, F, F, F, F, F] rfl rfl (any_of HT_.out (by kernel_rfl)) (fun _ _ _ h => h) (Or.inl ⟨by rfl, ?_⟩) ?_ ?_
             rotate_left
             ·intro w'
              go_simp
              with_reducible rfl
             rotate_left
             ·simp only [Act.put, Zj, Zk, Zm, i64_w, i32_w]
              rfl
             refine pure_ (i := 17) (N := some 51) (v := ?_) (a' := ?_) #[T, T, T, T, T, T, T, T, T, T, T, T, T, F, T, T, T, T, F, F, F, F, F, F, F, F, F, F, F, F] rfl rfl (any_of HT_.out (by kernel_rfl)) (fun _ _ _ h => h) (Or.inl ⟨by rfl, ?_⟩) ?_ ?_
             rotate_left
             ·intro w'
              go_simp
              with_reducible rfl
             rotate_left
             ·simp only [Act.put, Zj, Zk, Zm, i64_w, i32_w]
              rfl
             refine take_ (i := 13) (N := some 47) (v := ?_) (a' := ?_) #[T, T, T, T, T, T, T, T, T, T, T, T, T, T, T, T, T, T, F, F, F, F, F, F, F, F, F, F, F, F] rfl rfl (QaH HT_.out HW_.out (by kernel_rfl)) (fun _ _ _ h => h) (Or.inl ⟨by rfl, ?_⟩) hHeld ?_ ?_
             rotate_left
             ·rintro w' ⟨s0, s1, s2⟩
              go_simp
              with_reducible rfl
             rotate_left
             ·simp only [Act.put, Zj, Zk, Zm, i64_w, i32_w]
              rfl
             refine take_ (i := 18) (N := some 52) (v := ?_) (a' := ?_) #[T, T, T, T, T, T, T, T, T, T, T, T, T, T, T, T, T, T, T, F, F, F, F, F, F, F, F, F, F, F] rfl rfl (QaH HT_.out HW_.out (by kernel_rfl)) (fun _ _ _ h => h) (Or.inl ⟨by rfl, ?_⟩) hHeld ?_ ?_
             rotate_left
             ·rintro w' ⟨s0, s1, s2⟩
              go_simp
              with_reducible rfl
             rotate_left
             ·simp only [Act.put, Zj, Zk, Zm, i64_w, i32_w]
              rfl
             refine pure_ (i := 19) (N := some 53) (v := ?_) (a' := ?_) #[T, T, T, T, T, T, T, T, T, T, T, T, T, T, T, T, T, T, T, T, F, F, F, F, F, F, F, F, F, F] rfl rfl (any_of HT_.out (by kernel_rfl)) (fun _ _ _ h => h) (Or.inl ⟨by rfl, ?_⟩) ?_ ?_
             rotate_left
             ·intro w'
              go_simp
              with_reducible rfl
             rotate_left
             ·simp only [Act.put, Zj, Zk, Zm, i64_w, i32_w]
              rfl
             refine pure_ (i := 20) (N := some 54) (v := ?_) (a' := ?_) #[T, T, T, T, T, T, T, T, T, T, T, T, T, T, T, T, T, T, T, T, T, F, F, F, F, F, F, F, F, F] rfl rfl (any_of HT_.out (by kernel_rfl)) (fun _ _ _ h => h) (Or.inl ⟨by rfl, ?_⟩) ?_ ?_
             rotate_left
             ·intro w'
              go_simp
              with_reducible rfl
             rotate_left
             ·simp only [Act.put, Zj, Zk, Zm, i64_w, i32_w]
              rfl
             refine pure_ (i := 21) (N := some 55) (v := ?_) (a' := ?_) #[T, T, T, T, T, T, T, T, T, T, T, T, T, T, T, T, T, T, T, T, T, T, F, F, F, F, F, F, F, F] rfl rfl (any_of HT_.out (by kernel_rfl)) (fun _ _ _ h => h) (Or.inl ⟨by rfl, ?_⟩) ?_ ?_
             rotate_left
             ·intro w'
              go_simp
              with_reducible rfl
             rotate_left
             ·simp only [Act.put, Zj, Zk, Zm, i64_w, i32_w]
              rfl
             refine pure_ (i := 22) (N := some 56) (v := ?_) (a' := ?_) #[T, T, T, T, T, T, T, T, T, T, T, T, T, T, T, T, T, T, T, T, T, T, T, F, F, F, F, F, F, F] rfl rfl (any_of HT_.out (by kernel_rfl)) (fun _ _ _ h => h) (Or.inl ⟨by rfl, ?_⟩) ?_ ?_
             rotate_left
             ·intro w'
              go_simp
              with_reducible rfl
             rotate_left
             ·simp only [Act.put, Zj, Zk, Zm, i64_w, i32_w]
              rfl
             refine pure_ (i := 23) (N := some 57) (v := undef) (a' := ?_) #[T, T, T, T, T, T, T, T, T, T, T, T, T, T, T, T, T, T, T, T, T, T, T, T, F, F, F, F, F, F] rfl rfl (any_of HT_.out (by kernel_rfl)) (fun _ _ _ h => h) (Or.inr ⟨by rfl, rfl⟩) ?_ ?_
             rotate_left
             ·simp only [Act.put, Zj, Zk, Zm, i64_w, i32_w]
              rfl
             refine pure_ (i := 24) (N := some 58) (v := undef) (a' := ?_) #[T, T, T, T, T, T, T, T, T, T, T, T, T, T, T, T, T, T, T, T, T, T, T, T, T, F, F, F, F, F] rfl rfl (any_of HT_.out (by kernel_rfl)) (fun _ _ _ h => h) (Or.inr ⟨by rfl, rfl⟩) ?_ ?_
             rotate_left
             ·simp only [Act.put, Zj, Zk, Zm, i64_w, i32_w]
              rfl
             refine pure_ (i := 25) (N := some 59) (v := undef) (a' := ?_) #[T, T, T, T, T, T, T, T, T, T, T, T, T, T, T, T, T, T, T, T, T, T, T, T, T, T, F, F, F, F] rfl rfl (any_of HT_.out (by kernel_rfl)) (fun _ _ _ h => h) (Or.inr ⟨by rfl, rfl⟩) ?_ ?_
             rotate_left
             ·simp only [Act.put, Zj, Zk, Zm, i64_w, i32_w]
              rfl
             refine pure_ (i := 26) (N := some 60) (v := undef) (a' := ?_) #[T, T, T, T, T, T, T, T, T, T, T, T, T, T, T, T, T, T, T, T, T, T, T, T, T, T, T, F, F, F] rfl rfl (any_of HT_.out (by kernel_rfl)) (fun _ _ _ h => h) (Or.inr ⟨by rfl, rfl⟩) ?_ ?_
             rotate_left
             ·simp only [Act.put, Zj, Zk, Zm, i64_w, i32_w]
              rfl
             refine pure_ (i := 27) (N := some 61) (v := undef) (a' := ?_) #[T, T, T, T, T, T, T, T, T, T, T, T, T, T, T, T, T, T, T, T, T, T, T, T, T, T, T, T, F, F] rfl rfl (any_of HT_.out (by kernel_rfl)) (fun _ _ _ h => h) (Or.inr ⟨by rfl, rfl⟩) ?_ ?_
             rotate_left
             ·simp only [Act.put, Zj, Zk, Zm, i64_w, i32_w]
              rfl
             refine pure_ (i := 28) (N := some 62) (v := undef) (a' := ?_) #[T, T, T, T, T, T, T, T, T, T, T, T, T, T, T, T, T, T, T, T, T, T, T, T, T, T, T, T, T, F] rfl rfl (any_of HT_.out (by kernel_rfl)) (fun _ _ _ h => h) (Or.inr ⟨by rfl, rfl⟩) ?_ ?_
             rotate_left
             ·simp only [Act.put, Zj, Zk, Zm, i64_w, i32_w]
              rfl
             refine pure_ (i := 29) (N := some 63) (v := ?_) (a' := ?_) #[T, T, T, T, T, T, T, T, T, T, T, T, T, T, T, T, T, T, T, T, T, T, T, T, T, T, T, T, T, T] rfl rfl (any_of HT_.out (by kernel_rfl)) (fun _ _ _ h => h) (Or.inl ⟨by rfl, ?_⟩) ?_ ?_
             rotate_left
             ·intro w'
              go_simp
              with_reducible rfl
             rotate_left
             ·simp only [Act.put, Zj, Zk, Zm, i64_w, i32_w]
              rfl
             refine done_ (Qa5 HT_.out (by kernel_rfl)) ?_
             try go_wp2
             go_ret3
             exact ⟨_, _, by first | rfl | (simp [Qaj, Qak] <;> rfl) | (simp only [← hji14]; first | rfl | (simp [Qaj, Qak] <;> rfl)) | (simp [*, Qaj, Qak] <;> rfl), by first | exact Kd.R_nil _ _ _ _ _ | exact Kd.N_nil _ _ _ _ _ | exact Kd.V_nil _ _ _ _ _ | exact Kd.Q_nil _ _ _ _ _ | exact Kd.S_nil _ _ _ _ _, by first | exact Kd.R_nil _ _ _ _ _ | exact Kd.N_nil _ _ _ _ _ | exact Kd.V_nil _ _ _ _ _ | exact Kd.Q_nil _ _ _ _ _ | exact Kd.S_nil _ _ _ _ _, Zb⟩
            rw [if_neg c17] at H
            have c17b0 : decide ((rd l0 x31_1) ≤ (rd l0 (ji14))) = F := decide_eq_false c17
            clear c17
            by_cases c19 : x31_1 < (l1.length : Int)
            ·rw [if_pos c19] at H
             have c19b0 : decide (x31_1 < (l1.length : Int)) = T := decide_eq_true c19
             clear c19
             replace H := Option.bind_eq_some_iff.mp H
             obtain ⟨t505, A200, H⟩ := H
             replace H : (if t505 = T then (Qae.l0 k1 l0 l1 l2 (l0.length : Int) (wrap64 (x31_1 + 1))) else (some (([] : List Int), ([] : List Int), 2))) = some (r1, r2, r3) := H
             have A20 := Aside0.mk A200
             clear A200
             try go_wp2
             replace HB := Aside0.mk (Qab HB.out)
             have p500 : 0 ≤ (x31_1 : Int) := Ze
             have q500 : x31_1 < (l0.length : Int) := Ze
             obtain ⟨ad500, e500, hx500_0⟩ := Kd.at_int HR0.out x31_1 p500 q500
             have hw500_0 := hx500_0
             cases e500
             replace hx500_0 := Zx HB.out hx500_0
             replace p500 := eq_true p500
             replace q500 := eq_true q500
             have p502 : 0 ≤ (x31_1 : Int) := Ze
             have q502 : x31_1 < (l0.length : Int) := Ze
             obtain ⟨ad502, e502, hx502_0⟩ := Kd.at_int HR0.out x31_1 p502 q502
             have hw502_0 := hx502_0
             obtain rfl : ad500 = ad502 := (by injection e502)
             replace hx502_0 := Zx HB.out hx502_0
             replace p502 := eq_true p502
             replace q502 := eq_true q502
             have p503 : 0 ≤ ((ji14) : Int) := Ze
             have q503 : (ji14) < (l0.length : Int) := Ze
             obtain ⟨ad503, e503, hx503_0⟩ := Kd.at_int HR0.out (ji14) p503 q503
             have hw503_0 := hx503_0
             obtain rfl : ad500 = ad503 := (by injection e503)
             replace hx503_0 := Zx HB.out hx503_0
             replace p503 := eq_true p503
             replace q503 := eq_true q503
             have p504 : 0 ≤ (x31_1 : Int) := Ze
             have q504 : x31_1 < (l1.length : Int) := Ze
             obtain ⟨ad504, e504, hx504_0⟩ := Kd.at_int HR1.out x31_1 p504 q504
             have hw504_0 := hx504_0
             cases e504
             replace hx504_0 := Zx HB.out hx504_0
             replace p504 := eq_true p504
             replace q504 := eq_true q504
             refine start_ (n := 30) (S := fun w' => w'.cell? (ad500.add (x31_1).toNat) = some (.int .i64 (rd l0 x31_1)) ∧ w'.cell? (ad500.add (x31_1).toNat) = some (.int .i64 (rd l0 x31_1)) ∧ w'.cell? (ad500.add ((ji14)).toNat) = some (.int .i64 (rd l0 (ji14))) ∧ w'.cell? (ad504.add (x31_1).toNat) = some (.int .i64 (rd l1 x31_1))) (ds := []) #[F, F, F, F, F, F, F, F, F, F, F, F, F, F, F, F, F, F, F, F, F, F, F, F, F, F, F, F, F, F] (by kernel_rfl) rfl rfl ⟨((HB.out.cell (World.block_lt_of_cell? w _ hw500_0)).trans hw500_0), ((HB.out.cell (World.block_lt_of_cell? w _ hw502_0)).trans hw502_0), ((HB.out.cell (World.block_lt_of_cell? w _ hw503_0)).trans hw503_0), ((HB.out.cell (World.block_lt_of_cell? w _ hw504_0)).trans hw504_0)⟩ (fun hHeld => ?_); refine Qa1 Qae.tab9 Qae.bits9 (fun HT_ HW_ => ?_)
             generalize wr.drew = w21 at HB hx500_0 hx502_0 hx503_0 hx504_0 hHeld ⊢
             refine pure_ (i := 0) (N := some 34) (v := ?_) (a' := ?_) #[T, F, F, F, F, F, F, F, F, F, F, F, F, F, F, F, F, F, F, F, F, F, F, F, F, F, F, F, F, F] rfl rfl (any_of HT_.out (by kernel_rfl)) (fun _ _ _ h => h) (Or.inl ⟨by rfl, ?_⟩) ?_ ?_
             rotate_left
             ·intro w'
              go_simp
              with_reducible rfl
             rotate_left
             ·simp only [Act.put, Zj, Zk, Zm, i64_w, i32_w]
              rfl
             refine pure_ (i := 1) (N := some 35) (v := ?_) (a' := ?_) #[T, T, F, F, F, F, F, F, F, F, F, F, F, F, F, F, F, F, F, F, F, F, F, F, F, F, F, F, F, F] rfl rfl (any_of HT_.out (by kernel_rfl)) (fun _ _ _ h => h) (Or.inl ⟨by rfl, ?_⟩) ?_ ?_
             rotate_left
             ·intro w'
              go_simp
              with_reducible rfl
             rotate_left
             ·simp only [Act.put, Zj, Zk, Zm, i64_w, i32_w]
              rfl
             refine pure_ (i := 2) (N := some 36) (v := ?_) (a' := ?_) #[T, T, T, F, F, F, F, F, F, F, F, F, F, F, F, F, F, F, F, F, F, F, F, F, F, F, F, F, F, F] rfl rfl (any_of HT_.out (by kernel_rfl)) (fun _ _ _ h => h) (Or.inl ⟨by rfl, ?_⟩) ?_ ?_
             rotate_left
             ·intro w'
              go_simp
              with_reducible rfl
             rotate_left
             ·simp only [Act.put, Zj, Zk, Zm, i64_w, i32_w]
              rfl
             refine take_ (i := 3) (N := some 37) (v := ?_) (a' := ?_) #[T, T, T, T, F, F, F, F, F, F, F, F, F, F, F, F, F, F, F, F, F, F, F, F, F, F, F, F, F, F] rfl rfl (QaH HT_.out HW_.out (by kernel_rfl)) (fun _ _ _ h => h) (Or.inl ⟨by rfl, ?_⟩) hHeld ?_ ?_
             rotate_left
             ·rintro w' ⟨s0, s1, s2, s3⟩
              go_simp
              with_reducible rfl
             rotate_left
             ·simp only [Act.put, Zj, Zk, Zm, i64_w, i32_w]
              rfl
             refine one_ (i := 4) (N := some 38) #[T, T, T, T, T, F, F, F, F, F, F, F, F, F, F, F, F, F, F, F, F, F, F, F, F, F, F, F, F, F] rfl rfl (one_of HT_.out (by kernel_rfl)) (by decide) (fun K hK => ?_)
             refine goes_ Try.func60 (by kernel_rfl) rfl #[.int .i64 (rd l0 x31_1), .int .i64 0, .int .i64 73048] (by rfl) rfl rfl (Zl) ?_
             with_reducible refine (QaA.calls (rd l0 x31_1) 0 73048 T _ A11.out).mono ?_
             rintro e w' ⟨rfl, ⟨nd, rfl⟩⟩
             refine ⟨_, rfl, ?_⟩
             refine hK.out _ _ ⟨((HB.out.cell (World.block_lt_of_cell? w _ hw500_0)).trans hw500_0), ((HB.out.cell (World.block_lt_of_cell? w _ hw502_0)).trans hw502_0), ((HB.out.cell (World.block_lt_of_cell? w _ hw503_0)).trans hw503_0), ((HB.out.cell (World.block_lt_of_cell? w _ hw504_0)).trans hw504_0)⟩ (fun hHeld => ?_)
             clear hK K
             refine norm_ (a' := ?_) ?_ ?_
             rotate_left
             ·show Act.put _ (some 38) _ = _
              simp only [Act.put, Zj, Zk, Zm, i64_w, i32_w]
              rfl
             refine pure_ (i := 5) (N := some 39) (v := ?_) (a' := ?_) #[T, T, T, T, T, T, F, F, F, F, F, F, F, F, F, F, F, F, F, F, F, F, F, F, F, F, F, F, F, F] rfl rfl (any_of HT_.out (by kernel_rfl)) (fun _ _ _ h => h) (Or.inl ⟨by rfl, ?_⟩) ?_ ?_
             rotate_left
             ·intro w'
              go_simp
              with_reducible rfl
             rotate_left
             ·simp only [Act.put, Zj, Zk, Zm, i64_w, i32_w]
              rfl
             refine pure_ (i := 6) (N := some 40) (v := ?_) (a' := ?_) #[T, T, T, T, T, T, T, F, F, F, F, F, F, F, F, F, F, F, F, F, F, F, F, F, F, F, F, F, F, F] rfl rfl (any_of HT_.out (by kernel_rfl)) (fun _ _ _ h => h) (Or.inl ⟨by rfl, ?_⟩) ?_ ?_
             rotate_left
             ·intro w'
              go_simp
              with_reducible rfl
             rotate_left
             ·simp only [Act.put, Zj, Zk, Zm, i64_w, i32_w]
              rfl
             refine pure_ (i := 7) (N := some 41) (v := ?_) (a' := ?_) #[T, T, T, T, T, T, T, T, F, F, F, F, F, F, F, F, F, F, F, F, F, F, F, F, F, F, F, F, F, F] rfl rfl (any_of HT_.out (by kernel_rfl)) (fun _ _ _ h => h) (Or.inl ⟨by rfl, ?_⟩) ?_ ?_
             rotate_left
             ·intro w'
              go_simp
              with_reducible rfl
             rotate_left
             ·simp only [Act.put, Zj, Zk, Zm, i64_w, i32_w]
              rfl
             refine pure_ (i := 8) (N := some 42) (v := ?_) (a' := ?_) #[T, T, T, T, T, T, T, T, T, F, F, F, F, F, F, F, F, F, F, F, F, F, F, F, F, F, F, F, F, F] rfl rfl (any_of HT_.out (by kernel_rfl)) (fun _ _ _ h => h) (Or.inl ⟨by rfl, ?_⟩) ?_ ?_
             rotate_left
             ·intro w'
              go_simp
              with_reducible rfl
             rotate_left
             ·simp only [Act.put, Zj, Zk, Zm, i64_w, i32_w]
              rfl
             refine pure_ (i := 9) (N := some 43) (v := ?_) (a' := ?_) #[T, T, T, T, T, T, T, T, T, T, F, F, F, F, F, F, F, F, F, F, F, F, F, F, F, F, F, F, F, F] rfl rfl (any_of HT_.out (by kernel_rfl)) (fun _ _ _ h => h) (Or.inl ⟨by rfl, ?_⟩) ?_ ?_
             rotate_left
             ·intro w'
              go_simp
              with_reducible rfl
             rotate_left
             ·simp only [Act.put, Zj, Zk, Zm, i64_w, i32_w]
              rfl
             refine pure_ (i := 10) (N := some 44) (v := ?_) (a' := ?_) #[T, T, T, T, T, T, T, T, T, T, T, F, F, F, F, F, F, F, F, F, F, F, F, F, F, F, F, F, F, F] rfl rfl (any_of HT_.out (by kernel_rfl)) (fun _ _ _ h => h) (Or.inl ⟨by rfl, ?_⟩) ?_ ?_
             rotate_left
             ·intro w'
              go_simp
              with_reducible rfl
             rotate_left
             ·simp only [Act.put, Zj, Zk, Zm, i64_w, i32_w]
              rfl
             refine pure_ (i := 11) (N := some 45) (v := ?_) (a' := ?_) #[T, T, T, T, T, T, T, T, T, T, T, T, F, F, F, F, F, F, F, F, F, F, F, F, F, F, F, F, F, F] rfl rfl (any_of HT_.out (by kernel_rfl)) (fun _ _ _ h => h) (Or.inl ⟨by rfl, ?_⟩) ?_ ?_
             rotate_left
             ·intro w'
              go_simp
              with_reducible rfl
             rotate_left
             ·simp only [Act.put, Zj, Zk, Zm, i64_w, i32_w]
              rfl
             refine pure_ (i := 12) (N := some 46) (v := ?_) (a' := ?_) #[T, T, T, T, T, T, T, T, T, T, T, T, T, F, F, F, F, F, F, F, F, F, F, F, F, F, F, F, F, F] rfl rfl (any_of HT_.out (by kernel_rfl)) (fun _ _ _ h => h) (Or.inl ⟨by rfl, ?_⟩) ?_ ?_
             rotate_left
             ·intro w'
              go_simp
              with_reducible rfl
             rotate_left
             ·simp only [Act.put, Zj, Zk, Zm, i64_w, i32_w]
              rfl
             refine pure_ (i := 14) (N := some 48) (v := ?_) (a' := ?_) #[T, T, T, T, T, T, T, T, T, T, T, T, T, F, T, F, F, F, F, F, F, F, F, F, F, F, F, F, F, F] rfl rfl (any_of HT_.out (by kernel_rfl)) (fun _ _ _ h => h) (Or.inl ⟨by rfl, ?_⟩) ?_ ?_
             rotate_left
             ·intro w'
              go_simp
              with_reducible rfl
             rotate_left
             ·simp only [Act.put, Zj, Zk, Zm, i64_w, i32_w]
              rfl
             refine pure_ (i := 15) (N := some 49) (v := ?_) (a' := ?_) #[T, T, T, T, T, T, T, T, T, T, T, T, T, F, T, T, F, F, F, F, F, F, F, F, F, F, F, F, F, F] rfl rfl (any_of HT_.out (by kernel_rfl)) (fun _ _ _ h => h) (Or.inl ⟨by rfl, ?_⟩) ?_ ?_
             rotate_left
             ·intro w'
              go_simp
              with_reducible rfl
             rotate_left
             ·simp only [Act.put, Zj, Zk, Zm, i64_w, i32_w]
              rfl
             refine pure_ (i := 16) (N := some 50) (v := ?_) (a' := ?_) #[T, T, T, T, T, T, T, T, T, T, T, T, T, F, T, T, T, F, F, F, F, F, F, F, F, F, F, F, F, F] rfl rfl (any_of HT_.out (by kernel_rfl)) (fun _ _ _ h => h) (Or.inl ⟨by rfl, ?_⟩) ?_ ?_
             rotate_left
             ·intro w'
              go_simp
              with_reducible rfl
             rotate_left
             ·simp only [Act.put, Zj, Zk, Zm, i64_w, i32_w]
              rfl
             refine pure_ (i := 17) (N := some 51) (v := ?_) (a' := ?_) #[T, T, T, T, T, T, T, T, T, T, T, T, T, F, T, T, T, T, F, F, F, F, F, F, F, F, F, F, F, F] rfl rfl (any_of HT_.out (by kernel_rfl)) (fun _ _ _ h => h) (Or.inl ⟨by rfl, ?_⟩) ?_ ?_
             rotate_left
             ·intro w'
              go_simp
              with_reducible rfl
             rotate_left
             ·simp only [Act.put, Zj, Zk, Zm, i64_w, i32_w]
              rfl
             refine take_ (i := 13) (N := some 47) (v := ?_) (a' := ?_) #[T, T, T, T, T, T, T, T, T, T, T, T, T, T, T, T, T, T, F, F, F, F, F, F, F, F, F, F, F, F] rfl rfl (QaH HT_.out HW_.out (by kernel_rfl)) (fun _ _ _ h => h) (Or.inl ⟨by rfl, ?_⟩) hHeld ?_ ?_
             rotate_left
             ·rintro w' ⟨s0, s1, s2, s3⟩
              go_simp
              with_reducible rfl
             rotate_left
             ·simp only [Act.put, Zj, Zk, Zm, i64_w, i32_w]
              rfl
             refine take_ (i := 18) (N := some 52) (v := ?_) (a' := ?_) #[T, T, T, T, T, T, T, T, T, T, T, T, T, T, T, T, T, T, T, F, F, F, F, F, F, F, F, F, F, F] rfl rfl (QaH HT_.out HW_.out (by kernel_rfl)) (fun _ _ _ h => h) (Or.inl ⟨by rfl, ?_⟩) hHeld ?_ ?_
             rotate_left
             ·rintro w' ⟨s0, s1, s2, s3⟩
              go_simp
              with_reducible rfl
             rotate_left
             ·simp only [Act.put, Zj, Zk, Zm, i64_w, i32_w]
              rfl
             refine pure_ (i := 19) (N := some 53) (v := ?_) (a' := ?_) #[T, T, T, T, T, T, T, T, T, T, T, T, T, T, T, T, T, T, T, T, F, F, F, F, F, F, F, F, F, F] rfl rfl (any_of HT_.out (by kernel_rfl)) (fun _ _ _ h => h) (Or.inl ⟨by rfl, ?_⟩) ?_ ?_
             rotate_left
             ·intro w'
              go_simp
              with_reducible rfl
             rotate_left
             ·simp only [Act.put, Zj, Zk, Zm, i64_w, i32_w]
              rfl
             refine pure_ (i := 20) (N := some 54) (v := ?_) (a' := ?_) #[T, T, T, T, T, T, T, T, T, T, T, T, T, T, T, T, T, T, T, T, T, F, F, F, F, F, F, F, F, F] rfl rfl (any_of HT_.out (by kernel_rfl)) (fun _ _ _ h => h) (Or.inl ⟨by rfl, ?_⟩) ?_ ?_
             rotate_left
             ·intro w'
              go_simp
              with_reducible rfl
             rotate_left
             ·simp only [Act.put, Zj, Zk, Zm, i64_w, i32_w]
              rfl
             refine pure_ (i := 21) (N := some 55) (v := ?_) (a' := ?_) #[T, T, T, T, T, T, T, T, T, T, T, T, T, T, T, T, T, T, T, T, T, T, F, F, F, F, F, F, F, F] rfl rfl (any_of HT_.out (by kernel_rfl)) (fun _ _ _ h => h) (Or.inl ⟨by rfl, ?_⟩) ?_ ?_
             rotate_left
             ·intro w'
              go_simp
              with_reducible rfl
             rotate_left
             ·simp only [Act.put, Zj, Zk, Zm, i64_w, i32_w]
              rfl
             refine pure_ (i := 22) (N := some 56) (v := ?_) (a' := ?_) #[T, T, T, T, T, T, T, T, T, T, T, T, T, T, T, T, T, T, T, T, T, T, T, F, F, F, F, F, F, F] rfl rfl (any_of HT_.out (by kernel_rfl)) (fun _ _ _ h => h) (Or.inl ⟨by rfl, ?_⟩) ?_ ?_
             rotate_left
             ·intro w'
              go_simp
              with_reducible rfl
             rotate_left
             ·simp only [Act.put, Zj, Zk, Zm, i64_w, i32_w]
              rfl
             refine pure_ (i := 23) (N := some 57) (v := ?_) (a' := ?_) #[T, T, T, T, T, T, T, T, T, T, T, T, T, T, T, T, T, T, T, T, T, T, T, T, F, F, F, F, F, F] rfl rfl (any_of HT_.out (by kernel_rfl)) (fun _ _ _ h => h) (Or.inl ⟨by rfl, ?_⟩) ?_ ?_
             rotate_left
             ·intro w'
              go_simp
              with_reducible rfl
             rotate_left
             ·simp only [Act.put, Zj, Zk, Zm, i64_w, i32_w]
              rfl
             refine pure_ (i := 24) (N := some 58) (v := ?_) (a' := ?_) #[T, T, T, T, T, T, T, T, T, T, T, T, T, T, T, T, T, T, T, T, T, T, T, T, T, F, F, F, F, F] rfl rfl (any_of HT_.out (by kernel_rfl)) (fun _ _ _ h => h) (Or.inl ⟨by rfl, ?_⟩) ?_ ?_
             rotate_left
             ·intro w'
              go_simp
              with_reducible rfl
             rotate_left
             ·simp only [Act.put, Zj, Zk, Zm, i64_w, i32_w]
              rfl
             refine pure_ (i := 25) (N := some 59) (v := ?_) (a' := ?_) #[T, T, T, T, T, T, T, T, T, T, T, T, T, T, T, T, T, T, T, T, T, T, T, T, T, T, F, F, F, F] rfl rfl (any_of HT_.out (by kernel_rfl)) (fun _ _ _ h => h) (Or.inl ⟨by rfl, ?_⟩) ?_ ?_
             rotate_left
             ·intro w'
              go_simp
              with_reducible rfl
             rotate_left
             ·simp only [Act.put, Zj, Zk, Zm, i64_w, i32_w]
              rfl
             refine take_ (i := 26) (N := some 60) (v := ?_) (a' := ?_) #[T, T, T, T, T, T, T, T, T, T, T, T, T, T, T, T, T, T, T, T, T, T, T, T, T, T, T, F, F, F] rfl rfl (QaH HT_.out HW_.out (by kernel_rfl)) (fun _ _ _ h => h) (Or.inl ⟨by rfl, ?_⟩) hHeld ?_ ?_
             rotate_left
             ·rintro w' ⟨s0, s1, s2, s3⟩
              go_simp
              with_reducible rfl
             rotate_left
             ·simp only [Act.put, Zj, Zk, Zm, i64_w, i32_w]
              rfl
             refine one_ (i := 27) (N := some 61) #[T, T, T, T, T, T, T, T, T, T, T, T, T, T, T, T, T, T, T, T, T, T, T, T, T, T, T, T, F, F] rfl rfl (one_of HT_.out (by kernel_rfl)) (by decide) (fun K hK => ?_)
             refine goes_ Try.func60 (by kernel_rfl) rfl #[.int .i64 (rd l1 x31_1), .int .i64 (-1099511627776), .int .i64 1099511627776] (by rfl) rfl rfl (Zl) ?_
             with_reducible refine (QaA.calls (rd l1 x31_1) (-1099511627776) 1099511627776 t505 _ A20.out).mono ?_
             rintro e w' ⟨rfl, ⟨nd, rfl⟩⟩
             refine ⟨_, rfl, ?_⟩
             refine hK.out _ _ ⟨((HB.out.cell (World.block_lt_of_cell? w _ hw500_0)).trans hw500_0), ((HB.out.cell (World.block_lt_of_cell? w _ hw502_0)).trans hw502_0), ((HB.out.cell (World.block_lt_of_cell? w _ hw503_0)).trans hw503_0), ((HB.out.cell (World.block_lt_of_cell? w _ hw504_0)).trans hw504_0)⟩ (fun hHeld => ?_)
             clear hK K
             refine norm_ (a' := ?_) ?_ ?_
             rotate_left
             ·show Act.put _ (some 61) _ = _
              simp only [Act.put, Zj, Zk, Zm, i64_w, i32_w]
              rfl
             refine pure_ (i := 28) (N := some 62) (v := ?_) (a' := ?_) #[T, T, T, T, T, T, T, T, T, T, T, T, T, T, T, T, T, T, T, T, T, T, T, T, T, T, T, T, T, F] rfl rfl (any_of HT_.out (by kernel_rfl)) (fun _ _ _ h => h) (Or.inl ⟨by rfl, ?_⟩) ?_ ?_
             rotate_left
             ·intro w'
              go_simp
              with_reducible rfl
             rotate_left
             ·simp only [Act.put, Zj, Zk, Zm, i64_w, i32_w]
              rfl
             refine pure_ (i := 29) (N := some 63) (v := ?_) (a' := ?_) #[T, T, T, T, T, T, T, T, T, T, T, T, T, T, T, T, T, T, T, T, T, T, T, T, T, T, T, T, T, T] rfl rfl (any_of HT_.out (by kernel_rfl)) (fun _ _ _ h => h) (Or.inl ⟨by rfl, ?_⟩) ?_ ?_
             rotate_left
             ·intro w'
              go_simp
              with_reducible rfl
             rotate_left
             ·simp only [Act.put, Zj, Zk, Zm, i64_w, i32_w]
              rfl
             refine done_ (Qa5 HT_.out (by kernel_rfl)) ?_
             go_upto_if 63 with (fail)
             by_cases c22 : t505 = T
             ·subst c22
              have H1 : (Qae.l0 k1 l0 l1 l2 (l0.length : Int) (wrap64 (x31_1 + 1))) = some (r1, r2, r3) := by rw [if_pos rfl] at H; exact H
              clear H
              have H := H1
              clear H1
              have H' := Aside0.mk H
              clear H
              go_wp2
              go_roundg k1
              case measure => have := HK1.out; omega
              case rel => exact ⟨(wrap64 (x31_1 + 1)), (Zs2), H', ⟨by have := HK1.out; omega⟩, ⟨Zb⟩⟩
             replace c22 := Bool.eq_false_iff.mpr c22
             subst c22
             have H1 : (some (([] : List Int), ([] : List Int), 2)) = some (r1, r2, r3) := by rw [if_neg (show ¬ (F = T) by decide)] at H; exact H
             clear H
             have H := H1
             clear H1
             simp only [Option.some.injEq, Prod.mk.injEq] at H
             obtain ⟨rfl, rfl, rfl⟩ := H
             go_wp2
             go_ret3
             exact ⟨_, _, by first | rfl | (simp [Qaj, Qak] <;> rfl) | (simp only [← hji14]; first | rfl | (simp [Qaj, Qak] <;> rfl)) | (simp [*, Qaj, Qak] <;> rfl), by first | exact Kd.R_nil _ _ _ _ _ | exact Kd.N_nil _ _ _ _ _ | exact Kd.V_nil _ _ _ _ _ | exact Kd.Q_nil _ _ _ _ _ | exact Kd.S_nil _ _ _ _ _, by first | exact Kd.R_nil _ _ _ _ _ | exact Kd.N_nil _ _ _ _ _ | exact Kd.V_nil _ _ _ _ _ | exact Kd.Q_nil _ _ _ _ _ | exact Kd.S_nil _ _ _ _ _, Zb⟩
            rw [if_neg c19] at H
            exact absurd H (by simp)
           rw [if_neg c16] at H
           exact absurd H (by simp)
          rw [if_neg c15] at H
          exact absurd H (by simp)
         rw [if_neg c13] at H
         have c13b0 : decide (0 < x31_1) = F := decide_eq_false c13
         clear c13
         by_cases c23 : x31_1 < (l1.length : Int)
         ·rw [if_pos c23] at H
          have c23b0 : decide (x31_1 < (l1.length : Int)) = T := decide_eq_true c23
          clear c23
          replace H := Option.bind_eq_some_iff.mp H
          obtain ⟨t507, A240, H⟩ := H
          replace H : (if t507 = T then (Qae.l0 k1 l0 l1 l2 (l0.length : Int) (wrap64 (x31_1 + 1))) else (some (([] : List Int), ([] : List Int), 2))) = some (r1, r2, r3) := H
          have A24 := Aside0.mk A240
          clear A240
          try go_wp2
          replace HB := Aside0.mk (Qab HB.out)
          have p500 : 0 ≤ (x31_1 : Int) := Ze
          have q500 : x31_1 < (l0.length : Int) := Ze
          obtain ⟨ad500, e500, hx500_0⟩ := Kd.at_int HR0.out x31_1 p500 q500
          have hw500_0 := hx500_0
          cases e500
          replace hx500_0 := Zx HB.out hx500_0
          replace p500 := eq_true p500
          replace q500 := eq_true q500
          have p506 : 0 ≤ (x31_1 : Int) := Ze
          have q506 : x31_1 < (l1.length : Int) := Ze
          obtain ⟨ad506, e506, hx506_0⟩ := Kd.at_int HR1.out x31_1 p506 q506
          have hw506_0 := hx506_0
          cases e506
          replace hx506_0 := Zx HB.out hx506_0
          replace p506 := eq_true p506
          replace q506 := eq_true q506
          refine start_ (n := 30) (S := fun w' => w'.cell? (ad500.add (x31_1).toNat) = some (.int .i64 (rd l0 x31_1)) ∧ w'.cell? (ad506.add (x31_1).toNat) = some (.int .i64 (rd l1 x31_1))) (ds := []) #[F, F, F, F, F, F, F, F, F, F, F, F, F, F, F, F, F, F, F, F, F, F, F, F, F, F, F, F, F, F] (by kernel_rfl) rfl rfl ⟨((HB.out.cell (World.block_lt_of_cell? w _ hw500_0)).trans hw500_0), ((HB.out.cell (World.block_lt_of_cell? w _ hw506_0)).trans hw506_0)⟩ (fun hHeld => ?_); refine Qa1 Qae.tab9 Qae.bits9 (fun HT_ HW_ => ?_)
          generalize wr.drew = w25 at HB hx500_0 hx506_0 hHeld ⊢
          refine pure_ (i := 0) (N := some 34) (v := ?_) (a' := ?_) #[T, F, F, F, F, F, F, F, F, F, F, F, F, F, F, F, F, F, F, F, F, F, F, F, F, F, F, F, F, F] rfl rfl (any_of HT_.out (by kernel_rfl)) (fun _ _ _ h => h) (Or.inl ⟨by rfl, ?_⟩) ?_ ?_
          rotate_left
          ·intro w'
           go_simp
           with_reducible rfl
          rotate_left
          ·simp only [Act.put, Zj, Zk, Zm, i64_w, i32_w]
           rfl
          refine pure_ (i := 1) (N := some 35) (v := ?_) (a' := ?_) #[T, T, F, F, F, F, F, F, F, F, F, F, F, F, F, F, F, F, F, F, F, F, F, F, F, F, F, F, F, F] rfl rfl (any_of HT_.out (by kernel_rfl)) (fun _ _ _ h => h) (Or.inl ⟨by rfl, ?_⟩) ?_ ?_
          rotate_left
          ·intro w'
           go_simp
           with_reducible rfl
          rotate_left
          ·simp only [Act.put, Zj, Zk, Zm, i64_w, i32_w]
           rfl
          refine pure_ (i := 2) (N := some 36) (v := ?_) (a' := ?_) #[T, T, T, F, F, F, F, F, F, F, F, F, F, F, F, F, F, F, F, F, F, F, F, F, F, F, F, F, F, F] rfl rfl (any_of HT_.out (by kernel_rfl)) (fun _ _ _ h => h) (Or.inl ⟨by rfl, ?_⟩) ?_ ?_
          rotate_left
          ·intro w'
           go_simp
           with_reducible rfl
          rotate_left
          ·simp only [Act.put, Zj, Zk, Zm, i64_w, i32_w]
           rfl
          refine take_ (i := 3) (N := some 37) (v := ?_) (a' := ?_) #[T, T, T, T, F, F, F, F, F, F, F, F, F, F, F, F, F, F, F, F, F, F, F, F, F, F, F, F, F, F] rfl rfl (QaH HT_.out HW_.out (by kernel_rfl)) (fun _ _ _ h => h) (Or.inl ⟨by rfl, ?_⟩) hHeld ?_ ?_
          rotate_left
          ·rintro w' ⟨s0, s1⟩
           go_simp
           with_reducible rfl
          rotate_left
          ·simp only [Act.put, Zj, Zk, Zm, i64_w, i32_w]
           rfl
          refine one_ (i := 4) (N := some 38) #[T, T, T, T, T, F, F, F, F, F, F, F, F, F, F, F, F, F, F, F, F, F, F, F, F, F, F, F, F, F] rfl rfl (one_of HT_.out (by kernel_rfl)) (by decide) (fun K hK => ?_)
          refine goes_ Try.func60 (by kernel_rfl) rfl #[.int .i64 (rd l0 x31_1), .int .i64 0, .int .i64 73048] (by rfl) rfl rfl (Zl) ?_
          with_reducible refine (QaA.calls (rd l0 x31_1) 0 73048 T _ A11.out).mono ?_
          rintro e w' ⟨rfl, ⟨nd, rfl⟩⟩
          refine ⟨_, rfl, ?_⟩
          refine hK.out _ _ ⟨((HB.out.cell (World.block_lt_of_cell? w _ hw500_0)).trans hw500_0), ((HB.out.cell (World.block_lt_of_cell? w _ hw506_0)).trans hw506_0)⟩ (fun hHeld => ?_)
          clear hK K
          refine norm_ (a' := ?_) ?_ ?_
          rotate_left
          ·show Act.put _ (some 38) _ = _
           simp only [Act.put, Zj, Zk, Zm, i64_w, i32_w]
           rfl
          refine pure_ (i := 5) (N := some 39) (v := ?_) (a' := ?_) #[T, T, T, T, T, T, F, F, F, F, F, F, F, F, F, F, F, F, F, F, F, F, F, F, F, F, F, F, F, F] rfl rfl (any_of HT_.out (by kernel_rfl)) (fun _ _ _ h => h) (Or.inl ⟨by rfl, ?_⟩) ?_ ?_
          rotate_left
          ·intro w'
           go_simp
           with_reducible rfl
          rotate_left
          ·simp only [Act.put, Zj, Zk, Zm, i64_w, i32_w]
           rfl
          refine pure_ (i := 6) (N := some 40) (v := ?_) (a' := ?_) #[T, T, T, T, T, T, T, F, F, F, F, F, F, F, F, F, F, F, F, F, F, F, F, F, F, F, F, F, F, F] rfl rfl (any_of HT_.out (by kernel_rfl)) (fun _ _ _ h => h) (Or.inl ⟨by rfl, ?_⟩) ?_ ?_
          rotate_left
          ·intro w'
           go_simp
           with_reducible rfl
          rotate_left
          ·simp only [Act.put, Zj, Zk, Zm, i64_w, i32_w]
           rfl
          refine pure_ (i := 7) (N := some 41) (v := ?_) (a' := ?_) #[T, T, T, T, T, T, T, T, F, F, F, F, F, F, F, F, F, F, F, F, F, F, F, F, F, F, F, F, F, F] rfl rfl (any_of HT_.out (by kernel_rfl)) (fun _ _ _ h => h) (Or.inl ⟨by rfl, ?_⟩) ?_ ?_
          rotate_left
          ·intro w'
           go_simp
           with_reducible rfl
          rotate_left
          ·simp only [Act.put, Zj, Zk, Zm, i64_w, i32_w]
           rfl
          refine pure_ (i := 8) (N := some 42) (v := ?_) (a' := ?_) #[T, T, T, T, T, T, T, T, T, F, F, F, F, F, F, F, F, F, F, F, F, F, F, F, F, F, F, F, F, F] rfl rfl (any_of HT_.out (by kernel_rfl)) (fun _ _ _ h => h) (Or.inl ⟨by rfl, ?_⟩) ?_ ?_
          rotate_left
          ·intro w'
           go_simp
           with_reducible rfl
          rotate_left
          ·simp only [Act.put, Zj, Zk, Zm, i64_w, i32_w]
           rfl
          refine pure_ (i := 9) (N := some 43) (v := ?_) (a' := ?_) #[T, T, T, T, T, T, T, T, T, T, F, F, F, F, F, F, F, F, F, F, F, F, F, F, F, F, F, F, F, F] rfl rfl (any_of HT_.out (by kernel_rfl)) (fun _ _ _ h => h) (Or.inl ⟨by rfl, ?_⟩) ?_ ?_
          rotate_left
          ·intro w'
           go_simp
           with_reducible rfl
          rotate_left
          ·simp only [Act.put, Zj, Zk, Zm, i64_w, i32_w]
           rfl
          refine pure_ (i := 10) (N := some 44) (v := undef) (a' := ?_) #[T, T, T, T, T, T, T, T, T, T, T, F, F, F, F, F, F, F, F, F, F, F, F, F, F, F, F, F, F, F] rfl rfl (any_of HT_.out (by kernel_rfl)) (fun _ _ _ h => h) (Or.inr ⟨by rfl, rfl⟩) ?_ ?_
          rotate_left
          ·simp only [Act.put, Zj, Zk, Zm, i64_w, i32_w]
           rfl
          refine pure_ (i := 11) (N := some 45) (v := undef) (a' := ?_) #[T, T, T, T, T, T, T, T, T, T, T, T, F, F, F, F, F, F, F, F, F, F, F, F, F, F, F, F, F, F] rfl rfl (any_of HT_.out (by kernel_rfl)) (fun _ _ _ h => h) (Or.inr ⟨by rfl, rfl⟩) ?_ ?_
          rotate_left
          ·simp only [Act.put, Zj, Zk, Zm, i64_w, i32_w]
           rfl
          refine pure_ (i := 12) (N := some 46) (v := undef) (a' := ?_) #[T, T, T, T, T, T, T, T, T, T, T, T, T, F, F, F, F, F, F, F, F, F, F, F, F, F, F, F, F, F] rfl rfl (any_of HT_.out (by kernel_rfl)) (fun _ _ _ h => h) (Or.inr ⟨by rfl, rfl⟩) ?_ ?_
          rotate_left
          ·simp only [Act.put, Zj, Zk, Zm, i64_w, i32_w]
           rfl
          refine pure_ (i := 13) (N := some 47) (v := undef) (a' := ?_) #[T, T, T, T, T, T, T, T, T, T, T, T, T, T, F, F, F, F, F, F, F, F, F, F, F, F, F, F, F, F] rfl rfl (any_of HT_.out (by kernel_rfl)) (fun _ _ _ h => h) (Or.inr ⟨by rfl, rfl⟩) ?_ ?_
          rotate_left
          ·simp only [Act.put, Zj, Zk, Zm, i64_w, i32_w]
           rfl
          refine pure_ (i := 14) (N := some 48) (v := undef) (a' := ?_) #[T, T, T, T, T, T, T, T, T, T, T, T, T, T, T, F, F, F, F, F, F, F, F, F, F, F, F, F, F, F] rfl rfl (any_of HT_.out (by kernel_rfl)) (fun _ _ _ h => h) (Or.inr ⟨by rfl, rfl⟩) ?_ ?_
          rotate_left
          ·simp only [Act.put, Zj, Zk, Zm, i64_w, i32_w]
           rfl
          refine pure_ (i := 15) (N := some 49) (v := undef) (a' := ?_) #[T, T, T, T, T, T, T, T, T, T, T, T, T, T, T, T, F, F, F, F, F, F, F, F, F, F, F, F, F, F] rfl rfl (any_of HT_.out (by kernel_rfl)) (fun _ _ _ h => h) (Or.inr ⟨by rfl, rfl⟩) ?_ ?_
          rotate_left
          ·simp only [Act.put, Zj, Zk, Zm, i64_w, i32_w]
           rfl
          refine pure_ (i := 16) (N := some 50) (v := undef) (a' := ?_) #[T, T, T, T, T, T, T, T, T, T, T, T, T, T, T, T, T, F, F, F, F, F, F, F, F, F, F, F, F, F] rfl rfl (any_of HT_.out (by kernel_rfl)) (fun _ _ _ h => h) (Or.inr ⟨by rfl, rfl⟩) ?_ ?_
          rotate_left
          ·simp only [Act.put, Zj, Zk, Zm, i64_w, i32_w]
           rfl
          refine pure_ (i := 17) (N := some 51) (v := undef) (a' := ?_) #[T, T, T, T, T, T, T, T, T, T, T, T, T, T, T, T, T, T, F, F, F, F, F, F, F, F, F, F, F, F] rfl rfl (any_of HT_.out (by kernel_rfl)) (fun _ _ _ h => h) (Or.inr ⟨by rfl, rfl⟩) ?_ ?_
          rotate_left
          ·simp only [Act.put, Zj, Zk, Zm, i64_w, i32_w]
           rfl
          refine pure_ (i := 18) (N := some 52) (v := undef) (a' := ?_) #[T, T, T, T, T, T, T, T, T, T, T, T, T, T, T, T, T, T, T, F, F, F, F, F, F, F, F, F, F, F] rfl rfl (any_of HT_.out (by kernel_rfl)) (fun _ _ _ h => h) (Or.inr ⟨by rfl, rfl⟩) ?_ ?_
          rotate_left
          ·simp only [Act.put, Zj, Zk, Zm, i64_w, i32_w]
           rfl
          refine pure_ (i := 19) (N := some 53) (v := undef) (a' := ?_) #[T, T, T, T, T, T, T, T, T, T, T, T, T, T, T, T, T, T, T, T, F, F, F, F, F, F, F, F, F, F] rfl rfl (any_of HT_.out (by kernel_rfl)) (fun _ _ _ h => h) (Or.inr ⟨by rfl, rfl⟩) ?_ ?_
          rotate_left
          ·simp only [Act.put, Zj, Zk, Zm, i64_w, i32_w]
           rfl
          refine pure_ (i := 20) (N := some 54) (v := ?_) (a' := ?_) #[T, T, T, T, T, T, T, T, T, T, T, T, T, T, T, T, T, T, T, T, T, F, F, F, F, F, F, F, F, F] rfl rfl (any_of HT_.out (by kernel_rfl)) (fun _ _ _ h => h) (Or.inl ⟨by rfl, ?_⟩) ?_ ?_
          rotate_left
          ·intro w'
           go_simp
           with_reducible rfl
          rotate_left
          ·simp only [Act.put, Zj, Zk, Zm, i64_w, i32_w]
           rfl
          refine pure_ (i := 21) (N := some 55) (v := ?_) (a' := ?_) #[T, T, T, T, T, T, T, T, T, T, T, T, T, T, T, T, T, T, T, T, T, T, F, F, F, F, F, F, F, F] rfl rfl (any_of HT_.out (by kernel_rfl)) (fun _ _ _ h => h) (Or.inl ⟨by rfl, ?_⟩) ?_ ?_
          rotate_left
          ·intro w'
           go_simp
           with_reducible rfl
          rotate_left
          ·simp only [Act.put, Zj, Zk, Zm, i64_w, i32_w]
           rfl
          refine pure_ (i := 22) (N := some 56) (v := ?_) (a' := ?_) #[T, T, T, T, T, T, T, T, T, T, T, T, T, T, T, T, T, T, T, T, T, T, T, F, F, F, F, F, F, F] rfl rfl (any_of HT_.out (by kernel_rfl)) (fun _ _ _ h => h) (Or.inl ⟨by rfl, ?_⟩) ?_ ?_
          rotate_left
          ·intro w'
           go_simp
           with_reducible rfl
          rotate_left
          ·simp only [Act.put, Zj, Zk, Zm, i64_w, i32_w]
           rfl
          refine pure_ (i := 23) (N := some 57) (v := ?_) (a' := ?_) #[T, T, T, T, T, T, T, T, T, T, T, T, T, T, T, T, T, T, T, T, T, T, T, T, F, F, F, F, F, F] rfl rfl (any_of HT_.out (by kernel_rfl)) (fun _ _ _ h => h) (Or.inl ⟨by rfl, ?_⟩) ?_ ?_
          rotate_left
          ·intro w'
           go_simp
           with_reducible rfl
          rotate_left
          ·simp only [Act.put, Zj, Zk, Zm, i64_w, i32_w]
           rfl
          refine pure_ (i := 24) (N := some 58) (v := ?_) (a' := ?_) #[T, T, T, T, T, T, T, T, T, T, T, T, T, T, T, T, T, T, T, T, T, T, T, T, T, F, F, F, F, F] rfl rfl (any_of HT_.out (by kernel_rfl)) (fun _ _ _ h => h) (Or.inl ⟨by rfl, ?_⟩) ?_ ?_
          rotate_left
          ·intro w'
           go_simp
           with_reducible rfl
          rotate_left
          ·simp only [Act.put, Zj, Zk, Zm, i64_w, i32_w]
           rfl
          refine pure_ (i := 25) (N := some 59) (v := ?_) (a' := ?_) #[T, T, T, T, T, T, T, T, T, T, T, T, T, T, T, T, T, T, T, T, T, T, T, T, T, T, F, F, F, F] rfl rfl (any_of HT_.out (by kernel_rfl)) (fun _ _ _ h => h) (Or.inl ⟨by rfl, ?_⟩) ?_ ?_
          rotate_left
          ·intro w'
           go_simp
           with_reducible rfl
          rotate_left
          ·simp only [Act.put, Zj, Zk, Zm, i64_w, i32_w]
           rfl
          refine take_ (i := 26) (N := some 60) (v := ?_) (a' := ?_) #[T, T, T, T, T, T, T, T, T, T, T, T, T, T, T, T, T, T, T, T, T, T, T, T, T, T, T, F, F, F] rfl rfl (QaH HT_.out HW_.out (by kernel_rfl)) (fun _ _ _ h => h) (Or.inl ⟨by rfl, ?_⟩) hHeld ?_ ?_
          rotate_left
          ·rintro w' ⟨s0, s1⟩
           go_simp
           with_reducible rfl
          rotate_left
          ·simp only [Act.put, Zj, Zk, Zm, i64_w, i32_w]
           rfl
          refine one_ (i := 27) (N := some 61) #[T, T, T, T, T, T, T, T, T, T, T, T, T, T, T, T, T, T, T, T, T, T, T, T, T, T, T, T, F, F] rfl rfl (one_of HT_.out (by kernel_rfl)) (by decide) (fun K hK => ?_)
          refine goes_ Try.func60 (by kernel_rfl) rfl #[.int .i64 (rd l1 x31_1), .int .i64 (-1099511627776), .int .i64 1099511627776] (by rfl) rfl rfl (Zl) ?_
          with_reducible refine (QaA.calls (rd l1 x31_1) (-1099511627776) 1099511627776 t507 _ A24.out).mono ?_
          rintro e w' ⟨rfl, ⟨nd, rfl⟩⟩
          refine ⟨_, rfl, ?_⟩
          refine hK.out _ _ ⟨((HB.out.cell (World.block_lt_of_cell? w _ hw500_0)).trans hw500_0), ((HB.out.cell (World.block_lt_of_cell? w _ hw506_0)).trans hw506_0)⟩ (fun hHeld => ?_)
          clear hK K
          refine norm_ (a' := ?_) ?_ ?_
          rotate_left
          ·show Act.put _ (some 61) _ = _
           simp only [Act.put, Zj, Zk, Zm, i64_w, i32_w]
           rfl
          refine pure_ (i := 28) (N := some 62) (v := ?_) (a' := ?_) #[T, T, T, T, T, T, T, T, T, T, T, T, T, T, T, T, T, T, T, T, T, T, T, T, T, T, T, T, T, F] rfl rfl (any_of HT_.out (by kernel_rfl)) (fun _ _ _ h => h) (Or.inl ⟨by rfl, ?_⟩) ?_ ?_
          rotate_left
          ·intro w'
           go_simp
           with_reducible rfl
          rotate_left
          ·simp only [Act.put, Zj, Zk, Zm, i64_w, i32_w]
           rfl
          refine pure_ (i := 29) (N := some 63) (v := ?_) (a' := ?_) #[T, T, T, T, T, T, T, T, T, T, T, T, T, T, T, T, T, T, T, T, T, T, T, T, T, T, T, T, T, T] rfl rfl (any_of HT_.out (by kernel_rfl)) (fun _ _ _ h => h) (Or.inl ⟨by rfl, ?_⟩) ?_ ?_
          rotate_left
          ·intro w'
           go_simp
           with_reducible rfl
          rotate_left
          ·simp only [Act.put, Zj, Zk, Zm, i64_w, i32_w]
           rfl
          refine done_ (Qa5 HT_.out (by kernel_rfl)) ?_
          go_upto_if 63 with (fail)
          by_cases c26 : t507 = T
          ·subst c26
           have H1 : (Qae.l0 k1 l0 l1 l2 (l0.length : Int) (wrap64 (x31_1 + 1))) = some (r1, r2, r3) := by rw [if_pos rfl] at H; exact H
           clear H
           have H := H1
           clear H1
           have H' := Aside0.mk H
           clear H
           go_wp2
           go_roundg k1
           case measure => have := HK1.out; omega
           case rel => exact ⟨(wrap64 (x31_1 + 1)), (Zs2), H', ⟨by have := HK1.out; omega⟩, ⟨Zb⟩⟩
          replace c26 := Bool.eq_false_iff.mpr c26
          subst c26
          have H1 : (some (([] : List Int), ([] : List Int), 2)) = some (r1, r2, r3) := by rw [if_neg (show ¬ (F = T) by decide)] at H; exact H
          clear H
          have H := H1
          clear H1
          simp only [Option.some.injEq, Prod.mk.injEq] at H
          obtain ⟨rfl, rfl, rfl⟩ := H
          go_wp2
          go_ret3
          exact ⟨_, _, Zq, by first | exact Kd.R_nil _ _ _ _ _ | exact Kd.N_nil _ _ _ _ _ | exact Kd.V_nil _ _ _ _ _ | exact Kd.Q_nil _ _ _ _ _ | exact Kd.S_nil _ _ _ _ _, by first | exact Kd.R_nil _ _ _ _ _ | exact Kd.N_nil _ _ _ _ _ | exact Kd.V_nil _ _ _ _ _ | exact Kd.Q_nil _ _ _ _ _ | exact Kd.S_nil _ _ _ _ _, Zb⟩
         rw [if_neg c23] at H
         exact absurd H (by simp)
        replace c12 := Bool.eq_false_iff.mpr c12
        subst c12
        have H1 : (some (([] : List Int), ([] : List Int), 2)) = some (r1, r2, r3) := by rw [if_neg (show ¬ (F = T) by decide)] at H; exact H
        clear H
        have H := H1
        clear H1
        simp only [Option.some.injEq, Prod.mk.injEq] at H
        obtain ⟨rfl, rfl, rfl⟩ := H
        try go_wp2
        replace HB := Aside0.mk (Qab HB.out)
        have p500 : 0 ≤ (x31_1 : Int) := Ze
        have q500 : x31_1 < (l0.length : Int) := Ze
        obtain ⟨ad500, e500, hx500_0⟩ := Kd.at_int HR0.out x31_1 p500 q500
        have hw500_0 := hx500_0
        cases e500
        replace hx500_0 := Zx HB.out hx500_0
        replace p500 := eq_true p500
        replace q500 := eq_true q500
        refine start_ (n := 30) (S := fun w' => w'.cell? (ad500.add (x31_1).toNat) = some (.int .i64 (rd l0 x31_1))) (ds := []) #[F, F, F, F, F, F, F, F, F, F, F, F, F, F, F, F, F, F, F, F, F, F, F, F, F, F, F, F, F, F] (by kernel_rfl) rfl rfl (((HB.out.cell (World.block_lt_of_cell? w _ hw500_0)).trans hw500_0)) (fun hHeld => ?_); refine Qa1 Qae.tab9 Qae.bits9 (fun HT_ HW_ => ?_)
        generalize wr.drew = w27 at HB hx500_0 hHeld ⊢
        refine pure_ (i := 0) (N := some 34) (v := ?_) (a' := ?_) #[T, F, F, F, F, F, F, F, F, F, F, F, F, F, F, F, F, F, F, F, F, F, F, F, F, F, F, F, F, F] rfl rfl (any_of HT_.out (by kernel_rfl)) (fun _ _ _ h => h) (Or.inl ⟨by rfl, ?_⟩) ?_ ?_
        rotate_left
        ·intro w'
         go_simp
         with_reducible rfl
        rotate_left
        ·simp only [Act.put, Zj, Zk, Zm, i64_w, i32_w]
         rfl
        refine pure_ (i := 1) (N := some 35) (v := ?_) (a' := ?_) #[T, T, F, F, F, F, F, F, F, F, F, F, F, F, F, F, F, F, F, F, F, F, F, F, F, F, F, F, F, F] rfl rfl (any_of HT_.out (by kernel_rfl)) (fun _ _ _ h => h) (Or.inl ⟨by rfl, ?_⟩) ?_ ?_
        rotate_left
        ·intro w'
         go_simp
         with_reducible rfl
        rotate_left
        ·simp only [Act.put, Zj, Zk, Zm, i64_w, i32_w]
         rfl
        refine pure_ (i := 2) (N := some 36) (v := ?_) (a' := ?_) #[T, T, T, F, F, F, F, F, F, F, F, F, F, F, F, F, F, F, F, F, F, F, F, F, F, F, F, F, F, F] rfl rfl (any_of HT_.out (by kernel_rfl)) (fun _ _ _ h => h) (Or.inl ⟨by rfl, ?_⟩) ?_ ?_
        rotate_left
        ·intro w'
         go_simp
         with_reducible rfl
        rotate_left
        ·simp only [Act.put, Zj, Zk, Zm, i64_w, i32_w]
         rfl
        refine take_ (i := 3) (N := some 37) (v := ?_) (a' := ?_) #[T, T, T, T, F, F, F, F, F, F, F, F, F, F, F, F, F, F, F, F, F, F, F, F, F, F, F, F, F, F] rfl rfl (QaH HT_.out HW_.out (by kernel_rfl)) (fun _ _ _ h => h) (Or.inl ⟨by rfl, ?_⟩) hHeld ?_ ?_
        rotate_left
        ·intro w' s0
         go_simp
         with_reducible rfl
        rotate_left
        ·simp only [Act.put, Zj, Zk, Zm, i64_w, i32_w]
         rfl
        refine one_ (i := 4) (N := some 38) #[T, T, T, T, T, F, F, F, F, F, F, F, F, F, F, F, F, F, F, F, F, F, F, F, F, F, F, F, F, F] rfl rfl (one_of HT_.out (by kernel_rfl)) (by decide) (fun K hK => ?_)
        refine goes_ Try.func60 (by kernel_rfl) rfl #[.int .i64 (rd l0 x31_1), .int .i64 0, .int .i64 73048] (by rfl) rfl rfl (Zl) ?_
        with_reducible refine (QaA.calls (rd l0 x31_1) 0 73048 F _ A11.out).mono ?_
        rintro e w' ⟨rfl, ⟨nd, rfl⟩⟩
        refine ⟨_, rfl, ?_⟩
        refine hK.out _ _ (((HB.out.cell (World.block_lt_of_cell? w _ hw500_0)).trans hw500_0)) (fun hHeld => ?_)
        clear hK K
        refine norm_ (a' := ?_) ?_ ?_
        rotate_left
        ·show Act.put _ (some 38) _ = _
         simp only [Act.put, Zj, Zk, Zm, i64_w, i32_w]
         rfl
        refine pure_ (i := 5) (N := some 39) (v := ?_) (a' := ?_) #[T, T, T, T, T, T, F, F, F, F, F, F, F, F, F, F, F, F, F, F, F, F, F, F, F, F, F, F, F, F] rfl rfl (any_of HT_.out (by kernel_rfl)) (fun _ _ _ h => h) (Or.inl ⟨by rfl, ?_⟩) ?_ ?_
        rotate_left
        ·intro w'
         go_simp
         with_reducible rfl
        rotate_left
        ·simp only [Act.put, Zj, Zk, Zm, i64_w, i32_w]
         rfl
        refine pure_ (i := 6) (N := some 40) (v := ?_) (a' := ?_) #[T, T, T, T, T, T, T, F, F, F, F, F, F, F, F, F, F, F, F, F, F, F, F, F, F, F, F, F, F, F] rfl rfl (any_of HT_.out (by kernel_rfl)) (fun _ _ _ h => h) (Or.inl ⟨by rfl, ?_⟩) ?_ ?_
        rotate_left
        ·intro w'
         go_simp
         with_reducible rfl
        rotate_left
        ·simp only [Act.put, Zj, Zk, Zm, i64_w, i32_w]
         rfl
        refine pure_ (i := 7) (N := some 41) (v := undef) (a' := ?_) #[T, T, T, T, T, T, T, T, F, F, F, F, F, F, F, F, F, F, F, F, F, F, F, F, F, F, F, F, F, F] rfl rfl (any_of HT_.out (by kernel_rfl)) (fun _ _ _ h => h) (Or.inr ⟨by rfl, rfl⟩) ?_ ?_
        rotate_left
        ·simp only [Act.put, Zj, Zk, Zm, i64_w, i32_w]
         rfl
        refine pure_ (i := 8) (N := some 42) (v := undef) (a' := ?_) #[T, T, T, T, T, T, T, T, T, F, F, F, F, F, F, F, F, F, F, F, F, F, F, F, F, F, F, F, F, F] rfl rfl (any_of HT_.out (by kernel_rfl)) (fun _ _ _ h => h) (Or.inr ⟨by rfl, rfl⟩) ?_ ?_
        rotate_left
        ·simp only [Act.put, Zj, Zk, Zm, i64_w, i32_w]
         rfl
        refine pure_ (i := 9) (N := some 43) (v := undef) (a' := ?_) #[T, T, T, T, T, T, T, T, T, T, F, F, F, F, F, F, F, F, F, F, F, F, F, F, F, F, F, F, F, F] rfl rfl (any_of HT_.out (by kernel_rfl)) (fun _ _ _ h => h) (Or.inr ⟨by rfl, rfl⟩) ?_ ?_
        rotate_left
        ·simp only [Act.put, Zj, Zk, Zm, i64_w, i32_w]
         rfl
        refine pure_ (i := 10) (N := some 44) (v := undef) (a' := ?_) #[T, T, T, T, T, T, T, T, T, T, T, F, F, F, F, F, F, F, F, F, F, F, F, F, F, F, F, F, F, F] rfl rfl (any_of HT_.out (by kernel_rfl)) (fun _ _ _ h => h) (Or.inr ⟨by rfl, rfl⟩) ?_ ?_
        rotate_left
        ·simp only [Act.put, Zj, Zk, Zm, i64_w, i32_w]
         rfl
        refine pure_ (i := 11) (N := some 45) (v := undef) (a' := ?_) #[T, T, T, T, T, T, T, T, T, T, T, T, F, F, F, F, F, F, F, F, F, F, F, F, F, F, F, F, F, F] rfl rfl (any_of HT_.out (by kernel_rfl)) (fun _ _ _ h => h) (Or.inr ⟨by rfl, rfl⟩) ?_ ?_
        rotate_left
        ·simp only [Act.put, Zj, Zk, Zm, i64_w, i32_w]
         rfl
        refine pure_ (i := 12) (N := some 46) (v := undef) (a' := ?_) #[T, T, T, T, T, T, T, T, T, T, T, T, T, F, F, F, F, F, F, F, F, F, F, F, F, F, F, F, F, F] rfl rfl (any_of HT_.out (by kernel_rfl)) (fun _ _ _ h => h) (Or.inr ⟨by rfl, rfl⟩) ?_ ?_
        rotate_left
        ·simp only [Act.put, Zj, Zk, Zm, i64_w, i32_w]
         rfl
        refine pure_ (i := 13) (N := some 47) (v := undef) (a' := ?_) #[T, T, T, T, T, T, T, T, T, T, T, T, T, T, F, F, F, F, F, F, F, F, F, F, F, F, F, F, F, F] rfl rfl (any_of HT_.out (by kernel_rfl)) (fun _ _ _ h => h) (Or.inr ⟨by rfl, rfl⟩) ?_ ?_
        rotate_left
        ·simp only [Act.put, Zj, Zk, Zm, i64_w, i32_w]
         rfl
        refine pure_ (i := 14) (N := some 48) (v := undef) (a' := ?_) #[T, T, T, T, T, T, T, T, T, T, T, T, T, T, T, F, F, F, F, F, F, F, F, F, F, F, F, F, F, F] rfl rfl (any_of HT_.out (by kernel_rfl)) (fun _ _ _ h => h) (Or.inr ⟨by rfl, rfl⟩) ?_ ?_
        rotate_left
        ·simp only [Act.put, Zj, Zk, Zm, i64_w, i32_w]
         rfl
        refine pure_ (i := 15) (N := some 49) (v := undef) (a' := ?_) #[T, T, T, T, T, T, T, T, T, T, T, T, T, T, T, T, F, F, F, F, F, F, F, F, F, F, F, F, F, F] rfl rfl (any_of HT_.out (by kernel_rfl)) (fun _ _ _ h => h) (Or.inr ⟨by rfl, rfl⟩) ?_ ?_
        rotate_left
        ·simp only [Act.put, Zj, Zk, Zm, i64_w, i32_w]
         rfl
        refine pure_ (i := 16) (N := some 50) (v := undef) (a' := ?_) #[T, T, T, T, T, T, T, T, T, T, T, T, T, T, T, T, T, F, F, F, F, F, F, F, F, F, F, F, F, F] rfl rfl (any_of HT_.out (by kernel_rfl)) (fun _ _ _ h => h) (Or.inr ⟨by rfl, rfl⟩) ?_ ?_
        rotate_left
        ·simp only [Act.put, Zj, Zk, Zm, i64_w, i32_w]
         rfl
        refine pure_ (i := 17) (N := some 51) (v := undef) (a' := ?_) #[T, T, T, T, T, T, T, T, T, T, T, T, T, T, T, T, T, T, F, F, F, F, F, F, F, F, F, F, F, F] rfl rfl (any_of HT_.out (by kernel_rfl)) (fun _ _ _ h => h) (Or.inr ⟨by rfl, rfl⟩) ?_ ?_
        rotate_left
        ·simp only [Act.put, Zj, Zk, Zm, i64_w, i32_w]
         rfl
        refine pure_ (i := 18) (N := some 52) (v := undef) (a' := ?_) #[T, T, T, T, T, T, T, T, T, T, T, T, T, T, T, T, T, T, T, F, F, F, F, F, F, F, F, F, F, F] rfl rfl (any_of HT_.out (by kernel_rfl)) (fun _ _ _ h => h) (Or.inr ⟨by rfl, rfl⟩) ?_ ?_
        rotate_left
        ·simp only [Act.put, Zj, Zk, Zm, i64_w, i32_w]
         rfl
        refine pure_ (i := 19) (N := some 53) (v := undef) (a' := ?_) #[T, T, T, T, T, T, T, T, T, T, T, T, T, T, T, T, T, T, T, T, F, F, F, F, F, F, F, F, F, F] rfl rfl (any_of HT_.out (by kernel_rfl)) (fun _ _ _ h => h) (Or.inr ⟨by rfl, rfl⟩) ?_ ?_
        rotate_left
        ·simp only [Act.put, Zj, Zk, Zm, i64_w, i32_w]
         rfl
        refine pure_ (i := 20) (N := some 54) (v := undef) (a' := ?_) #[T, T, T, T, T, T, T, T, T, T, T, T, T, T, T, T, T, T, T, T, T, F, F, F, F, F, F, F, F, F] rfl rfl (any_of HT_.out (by kernel_rfl)) (fun _ _ _ h => h) (Or.inr ⟨by rfl, rfl⟩) ?_ ?_
        rotate_left
        ·simp only [Act.put, Zj, Zk, Zm, i64_w, i32_w]
         rfl
        refine pure_ (i := 21) (N := some 55) (v := ?_) (a' := ?_) #[T, T, T, T, T, T, T, T, T, T, T, T, T, T, T, T, T, T, T, T, T, T, F, F, F, F, F, F, F, F] rfl rfl (any_of HT_.out (by kernel_rfl)) (fun _ _ _ h => h) (Or.inl ⟨by rfl, ?_⟩) ?_ ?_
        rotate_left
        ·intro w'
         go_simp
         with_reducible rfl
        rotate_left
        ·simp only [Act.put, Zj, Zk, Zm, i64_w, i32_w]
         rfl
        refine pure_ (i := 22) (N := some 56) (v := ?_) (a' := ?_) #[T, T, T, T, T, T, T, T, T, T, T, T, T, T, T, T, T, T, T, T, T, T, T, F, F, F, F, F, F, F] rfl rfl (any_of HT_.out (by kernel_rfl)) (fun _ _ _ h => h) (Or.inl ⟨by rfl, ?_⟩) ?_ ?_
        rotate_left
        ·intro w'
         go_simp
         with_reducible rfl
        rotate_left
        ·simp only [Act.put, Zj, Zk, Zm, i64_w, i32_w]
         rfl
        refine pure_ (i := 23) (N := some 57) (v := undef) (a' := ?_) #[T, T, T, T, T, T, T, T, T, T, T, T, T, T, T, T, T, T, T, T, T, T, T, T, F, F, F, F, F, F] rfl rfl (any_of HT_.out (by kernel_rfl)) (fun _ _ _ h => h) (Or.inr ⟨by rfl, rfl⟩) ?_ ?_
        rotate_left
        ·simp only [Act.put, Zj, Zk, Zm, i64_w, i32_w]
         rfl
        refine pure_ (i := 24) (N := some 58) (v := undef) (a' := ?_) #[T, T, T, T, T, T, T, T, T, T, T, T, T, T, T, T, T, T, T, T, T, T, T, T, T, F, F, F, F, F] rfl rfl (any_of HT_.out (by kernel_rfl)) (fun _ _ _ h => h) (Or.inr ⟨by rfl, rfl⟩) ?_ ?_
        rotate_left
        ·simp only [Act.put, Zj, Zk, Zm, i64_w, i32_w]
         rfl
        refine pure_ (i := 25) (N := some 59) (v := undef) (a' := ?_) #[T, T, T, T, T, T, T, T, T, T, T, T, T, T, T, T, T, T, T, T, T, T, T, T, T, T, F, F, F, F] rfl rfl (any_of HT_.out (by kernel_rfl)) (fun _ _ _ h => h) (Or.inr ⟨by rfl, rfl⟩) ?_ ?_
        rotate_left
        ·simp only [Act.put, Zj, Zk, Zm, i64_w, i32_w]
         rfl
        refine pure_ (i := 26) (N := some 60) (v := undef) (a' := ?_) #[T, T, T, T, T, T, T, T, T, T, T, T, T, T, T, T, T, T, T, T, T, T, T, T, T, T, T, F, F, F] rfl rfl (any_of HT_.out (by kernel_rfl)) (fun _ _ _ h => h) (Or.inr ⟨by rfl, rfl⟩) ?_ ?_
        rotate_left
        ·simp only [Act.put, Zj, Zk, Zm, i64_w, i32_w]
         rfl
        refine pure_ (i := 27) (N := some 61) (v := undef) (a' := ?_) #[T, T, T, T, T, T, T, T, T, T, T, T, T, T, T, T, T, T, T, T, T, T, T, T, T, T, T, T, F, F] rfl rfl (any_of HT_.out (by kernel_rfl)) (fun _ _ _ h => h) (Or.inr ⟨by rfl, rfl⟩) ?_ ?_
        rotate_left
        ·simp only [Act.put, Zj, Zk, Zm, i64_w, i32_w]
         rfl
        refine pure_ (i := 28) (N := some 62) (v := undef) (a' := ?_) #[T, T, T, T, T, T, T, T, T, T, T, T, T, T, T, T, T, T, T, T, T, T, T, T, T, T, T, T, T, F] rfl rfl (any_of HT_.out (by kernel_rfl)) (fun _ _ _ h => h) (Or.inr ⟨by rfl, rfl⟩) ?_ ?_
        rotate_left
        ·simp only [Act.put, Zj, Zk, Zm, i64_w, i32_w]
         rfl
        refine pure_ (i := 29) (N := some 63) (v := ?_) (a' := ?_) #[T, T, T, T, T, T, T, T, T, T, T, T, T, T, T, T, T, T, T, T, T, T, T, T, T, T, T, T, T, T] rfl rfl (any_of HT_.out (by kernel_rfl)) (fun _ _ _ h => h) (Or.inl ⟨by rfl, ?_⟩) ?_ ?_
        rotate_left
        ·intro w'
         go_simp
         with_reducible rfl
        rotate_left
        ·simp only [Act.put, Zj, Zk, Zm, i64_w, i32_w]
         rfl
        refine done_ (Qa5 HT_.out (by kernel_rfl)) ?_
        try go_wp2
        go_ret3
        exact ⟨_, _, Zq, by first | exact Kd.R_nil _ _ _ _ _ | exact Kd.N_nil _ _ _ _ _ | exact Kd.V_nil _ _ _ _ _ | exact Kd.Q_nil _ _ _ _ _ | exact Kd.S_nil _ _ _ _ _, by first | exact Kd.R_nil _ _ _ _ _ | exact Kd.N_nil _ _ _ _ _ | exact Kd.V_nil _ _ _ _ _ | exact Kd.Q_nil _ _ _ _ _ | exact Kd.S_nil _ _ _ _ _, Zb⟩
       rw [if_neg c10] at H
       exact absurd H (by simp)
      rw [if_neg c9] at H
      exact absurd H (by simp)
     rw [if_neg c8] at H
     have c8b0 : decide (x31_1 < (l0.length : Int)) = F := decide_eq_false c8
     clear c8
     (try simp only [c8b0])
     replace H := Option.bind_eq_some_iff.mp H
     obtain ⟨t508, A280, H⟩ := H
     replace H : (if 0 ≤ (l2.length : Int) then (if ((l2.length : Int) : Int).toNat ≤ 35184372088832 then (Qae.l1 k1 l0 l2 (List.replicate ((l2.length : Int) : Int).toNat 0) t508 (l2.length : Int) 0) else (none)) else (none)) = some (r1, r2, r3) := H
     have A28 := Aside0.mk A280
     clear A280
     by_cases c29 : 0 ≤ (l2.length : Int)
     ·rw [if_pos c29] at H
      have c29b0 := eq_true c29
      have c29b1 : decide (0 ≤ (l2.length : Int)) = T := decide_eq_true c29
      clear c29
      by_cases c30 : ((l2.length : Int) : Int).toNat ≤ 35184372088832
      ·rw [if_pos c30] at H
       have c30b0 := eq_true c30
       have c30b1 : decide (((l2.length : Int) : Int).toNat ≤ 35184372088832) = T := decide_eq_true c30
       clear c30
       obtain ⟨y511, hy511⟩ : ∃ y_ : List Int, y_ = (List.replicate ((l2.length : Int) : Int).toNat 0) := ⟨_, rfl⟩
       replace H : (Qae.l1 k1 l0 l2 y511 t508 (l2.length : Int) 0) = some (r1, r2, r3) := by first | (rw [hy511]; with_reducible exact H) | (have H2_ := (Option.bind_some _ _).symm.trans H; rw [hy511]; with_reducible exact H2_) | (have H2_ := (Option.bind_some _ _).symm.trans H; with_reducible exact H2_) | with_reducible exact H | (rw [hy511]; exact H) | exact H
       have Ny511 := Aside0.mk hy511
       clear hy511
       have H' := Aside0.mk H
       clear H
       try go_wp2_with (first | ((with_reducible refine Qat (f := 61) rfl ?_); refine goesL_ (some 66) rfl rfl Try.func61 (by kernel_rfl) rfl #[.slice A1 l1.length c1] rfl (Zl) ?_; (with_reducible refine (QaU.calls _ _ l1 t508 _ ?side1 ?side2 A28.out).mono ?_); (case side1 => exact Zv (Kd.C_below HR1.out HB.out)); (case side2 => exact HC1.out); rintro e w31 ⟨v509, rfl, ho0, hb⟩; refine ⟨_, rfl, ?_⟩; have HO510 := Aside0.mk (Kd.R_lower ho0 (Qay (Zb))); replace HB := Aside0.mk (Qax (Zb) hb); (try clear hb); (try clear hb2); (try clear hk); (try clear hi); (try clear ho0)) | ((with_reducible refine Qbi (N := 69) rfl ?_); refine Kd.R_make (Kd.int .i64) _ 3 rfl (N := 69) rfl 46 _ _ rfl (l2.length : Int) rfl rfl Try.underlying46 (.int .i64 0) 8 info3 rfl (by decide) (by omega) 0 (ok := fun _ => True) (okp := fun _ => True) rfl (fun _ hk => hk) trivial (Ze) (Nat.le_trans (Nat.mul_le_mul_right _ (Ze : (l2.length : Int).toNat ≤ 35184372088832)) (by omega)) (Below.refl _ _) (Nat.le_refl _) ?_; intro v512 w32 ho33 hb hg_ hnew_; clear hg_ hnew_; (first | rw [← Ny511.out] at ho33 | (simp only [Int.reduceToNat] at ho33; rw [← Ny511.out] at ho33)); have HO513 := Aside0.mk (Kd.R_lower (Kd.R_new' ho33 (Kd.R_lt (Zr HO510.out))) (Qay (Zb))); replace HO510 := Aside0.mk (Kd.R_elder' (Zr HO510.out) (Kd.R_base ho33) hb); replace HB := Aside0.mk (Qax (Zb) hb); clear hb ho33))
       go_step3
       try go_wp2
       go_loopg [72] k1 (fun kq v72 w' => ∃ (x6_2 : List Int) (x7_2 : List Int) (x72_2 : Int), v72 = .int .i64 x72_2 ∧ Aside0 (Qae.l1 kq l0 l2 x6_2 x7_2 (l2.length : Int) x72_2 = some (r1, r2, r3)) ∧ Aside0 (kq ≤ k1) ∧ Aside0 (Kd.R (Kd.int .i64) 3 w' w.heap.size (fun k_ => some k_ ≠ (v509 : Value).ownBlock) v512 x6_2) ∧ Aside0 (Kd.R (Kd.int .i64) 3 w' w.heap.size (fun k_ => some k_ ≠ (v512 : Value).ownBlock) v509 x7_2) ∧ Aside0 (Below w.heap.size w w'))
       case atStart => exact ⟨(y511), (t508), (0), (Zs2), H', ⟨Nat.le_refl _⟩, ⟨by (with_reducible repeat (first | apply Kd.R_alloc | apply Kd.R_drewN | apply Kd.R_drew)); exact Kd.R_mono HO513.out (fun _ hk => hk.2)⟩, ⟨by (with_reducible repeat (first | apply Kd.R_alloc | apply Kd.R_drewN | apply Kd.R_drew)); exact Kd.R_mono HO510.out (fun _ hk => hk.2)⟩, ⟨Zb⟩⟩
       case round =>
        clear H'
        try clear c1
        try clear c2
        try clear p2
        try clear c3
        try clear p3
        try clear p5
        try clear q5
        try clear hx5
        try clear c6
        try clear p6
        try clear c8
        try clear c8b0
        try clear c9
        try clear c10
        try clear c12
        try clear c13
        try clear c13b0
        try clear c15
        try clear c16
        try clear c19
        try clear c22
        try clear c23
        try clear c23b0
        try clear c26
        try clear c29
        try clear c29b0
        try clear c29b1
        try clear c30
        try clear c30b0
        try clear c30b1
        try clear hx500_0
        try clear hx506_0
        try clear p500
        try clear p506
        try clear q500
        try clear q506
        obtain ⟨x6_2, x7_2, x72_2, rfl, HA, HK2, HO_6, HO_7, HB⟩ := hrel
        cases gk with
        | zero => exact absurd HA.out (by simp [Qae.l1])
        | succ k2 =>
         have H := HA.out
         clear HA
         simp only [Qae.l1] at H
         by_cases c34 : x72_2 < (l2.length : Int)
         ·rw [if_pos c34] at H
          have c34b0 : decide (x72_2 < (l2.length : Int)) = T := decide_eq_true c34
          clear c34
          (try simp only [c34b0])
          by_cases c35 : 0 ≤ x72_2
          ·rw [if_pos c35] at H
           have c35b0 : decide (0 ≤ x72_2) = T := decide_eq_true c35
           clear c35
           by_cases c36 : x72_2 < (l2.length : Int)
           ·rw [if_pos c36] at H
            have c36b0 : decide (x72_2 < (l2.length : Int)) = T := decide_eq_true c36
            clear c36
            have H' := Aside0.mk H
            clear H
            try go_wp2_with (first | ((with_reducible refine Qbi (N := 11) rfl ?_); refine Zbx (N := 11) (cs := #[.int .i64 0, .int .i64 0]) (t := 94) ?_; intro gb514 hg w37 hbox hb; have BK514 := Aside0.mk (hbox); have GW514 := Aside0.mk (Zt w hg (Zb)); have GE514 := GW514; replace HO_6 := Aside0.mk (Kd.R_below (Zr HO_6.out) hb); replace HO_7 := Aside0.mk (Kd.R_below (Zr HO_7.out) hb); replace HB := Aside0.mk (Qax (Zb) hb); clear hb hbox hg))
            replace HO_6 := Aside0.mk (Kd.R_drew HO_6.out)
            replace HO_7 := Aside0.mk (Kd.R_drew HO_7.out)
            replace BK514 := Aside0.mk (QaM BK514.out)
            replace HB := Aside0.mk (Qab HB.out)
            have p515 : 0 ≤ (x72_2 : Int) := Ze
            have q515 : x72_2 < (l2.length : Int) := Ze
            obtain ⟨ad515, e515, hx515_0, hx515_1, hx515_2⟩ := at_T91 HR2.out x72_2 p515 q515
            have hw515_2 := hx515_2
            have hw515_1 := hx515_1
            have hw515_0 := hx515_0
            cases e515
            replace hx515_0 := Zx HB.out hx515_0
            replace hx515_1 := Zx HB.out hx515_1
            replace hx515_2 := Zx HB.out hx515_2
            replace p515 := eq_true p515
            replace q515 := eq_true q515
            have p516 : 0 ≤ (x72_2 : Int) := Ze
            have q516 : x72_2 < (l2.length : Int) := Ze
            obtain ⟨ad516, e516, hx516_0, hx516_1, hx516_2⟩ := at_T91 HR2.out x72_2 p516 q516
            have hw516_2 := hx516_2
            have hw516_1 := hx516_1
            have hw516_0 := hx516_0
            obtain rfl : ad515 = ad516 := (by injection e516)
            replace hx516_0 := Zx HB.out hx516_0
            replace hx516_1 := Zx HB.out hx516_1
            replace hx516_2 := Zx HB.out hx516_2
            replace p516 := eq_true p516
            replace q516 := eq_true q516
            refine start_ (n := 12) (S := fun w' => w'.cell? (ad515.add ((x72_2).toNat * 3)) = some (.int .i64 ((rd_T91 l2 x72_2).f0)) ∧ w'.cell? ⟨(ad515.add ((x72_2).toNat * 3)).block, (ad515.add ((x72_2).toNat * 3)).off + 1, none⟩ = some (.int .i64 ((rd_T91 l2 x72_2).f1)) ∧ w'.cell? ⟨(ad515.add ((x72_2).toNat * 3)).block, (ad515.add ((x72_2).toNat * 3)).off + 2, none⟩ = some (.int .i64 ((rd_T91 l2 x72_2).f2)) ∧ w'.cell? (ad515.add ((x72_2).toNat * 3)) = some (.int .i64 ((rd_T91 l2 x72_2).f0)) ∧ w'.cell? ⟨(ad515.add ((x72_2).toNat * 3)).block, (ad515.add ((x72_2).toNat * 3)).off + 1, none⟩ = some (.int .i64 ((rd_T91 l2 x72_2).f1)) ∧ w'.cell? ⟨(ad515.add ((x72_2).toNat * 3)).block, (ad515.add ((x72_2).toNat * 3)).off + 2, none⟩ = some (.int .i64 ((rd_T91 l2 x72_2).f2))) (ds := []) #[F, F, F, F, F, F, F, F, F, F, F, F] (by kernel_rfl) rfl rfl ⟨((HB.out.cell (World.block_lt_of_cell? w _ hw515_0)).trans hw515_0), ((HB.out.cell (World.block_lt_of_cell? w _ hw515_1)).trans hw515_1), ((HB.out.cell (World.block_lt_of_cell? w _ hw515_2)).trans hw515_2), ((HB.out.cell (World.block_lt_of_cell? w _ hw516_0)).trans hw516_0), ((HB.out.cell (World.block_lt_of_cell? w _ hw516_1)).trans hw516_1), ((HB.out.cell (World.block_lt_of_cell? w _ hw516_2)).trans hw516_2)⟩ (fun hHeld => ?_); refine Qa1 Qae.tab18 Qae.bits18 (fun HT_ HW_ => ?_)
            generalize w37.drew = w38 at HO_6 HO_7 BK514 HB hx515_0 hx515_1 hx515_2 hx516_0 hx516_1 hx516_2 hHeld ⊢
            refine pure_ (i := 0) (N := some 75) (v := ?_) (a' := ?_) #[T, F, F, F, F, F, F, F, F, F, F, F] rfl rfl (any_of HT_.out (by kernel_rfl)) (fun _ _ _ h => h) (Or.inl ⟨by rfl, ?_⟩) ?_ ?_
            rotate_left
            ·intro w'
             go_simp
             with_reducible rfl
            rotate_left
            ·simp only [Act.put, Zj, Zk, Zm, i64_w, i32_w]
             rfl
            refine pure_ (i := 1) (N := some 76) (v := ?_) (a' := ?_) #[T, T, F, F, F, F, F, F, F, F, F, F] rfl rfl (any_of HT_.out (by kernel_rfl)) (fun _ _ _ h => h) (Or.inl ⟨by rfl, ?_⟩) ?_ ?_
            rotate_left
            ·intro w'
             go_simp
             with_reducible rfl
            rotate_left
            ·simp only [Act.put, Zj, Zk, Zm, i64_w, i32_w]
             rfl
            refine pure_ (i := 2) (N := some 77) (v := ?_) (a' := ?_) #[T, T, T, F, F, F, F, F, F, F, F, F] rfl rfl (any_of HT_.out (by kernel_rfl)) (fun _ _ _ h => h) (Or.inl ⟨by rfl, ?_⟩) ?_ ?_
            rotate_left
            ·intro w'
             go_simp
             with_reducible rfl
            rotate_left
            ·simp only [Act.put, Zj, Zk, Zm, i64_w, i32_w]
             rfl
            refine pure_ (i := 3) (N := some 78) (v := ?_) (a' := ?_) #[T, T, T, T, F, F, F, F, F, F, F, F] rfl rfl (any_of HT_.out (by kernel_rfl)) (fun _ _ _ h => h) (Or.inl ⟨by rfl, ?_⟩) ?_ ?_
            rotate_left
            ·intro w'
             go_simp
             with_reducible rfl
            rotate_left
            ·simp only [Act.put, Zj, Zk, Zm, i64_w, i32_w]
             rfl
            refine pure_ (i := 5) (N := some 80) (v := ?_) (a' := ?_) #[T, T, T, T, F, T, F, F, F, F, F, F] rfl rfl (any_of HT_.out (by kernel_rfl)) (fun _ _ _ h => h) (Or.inl ⟨by rfl, ?_⟩) ?_ ?_
            rotate_left
            ·intro w'
             go_simp
             with_reducible rfl
            rotate_left
            ·simp only [Act.put, Zj, Zk, Zm, i64_w, i32_w]
             rfl
            refine pure_ (i := 6) (N := some 81) (v := ?_) (a' := ?_) #[T, T, T, T, F, T, T, F, F, F, F, F] rfl rfl (any_of HT_.out (by kernel_rfl)) (fun _ _ _ h => h) (Or.inl ⟨by rfl, ?_⟩) ?_ ?_
            rotate_left
            ·intro w'
             go_simp
             with_reducible rfl
            rotate_left
            ·simp only [Act.put, Zj, Zk, Zm, i64_w, i32_w]
             rfl
            refine pure_ (i := 7) (N := some 82) (v := ?_) (a' := ?_) #[T, T, T, T, F, T, T, T, F, F, F, F] rfl rfl (any_of HT_.out (by kernel_rfl)) (fun _ _ _ h => h) (Or.inl ⟨by rfl, ?_⟩) ?_ ?_
            rotate_left
            ·intro w'
             go_simp
             with_reducible rfl
            rotate_left
            ·simp only [Act.put, Zj, Zk, Zm, i64_w, i32_w]
             rfl
            refine pure_ (i := 8) (N := some 83) (v := ?_) (a' := ?_) #[T, T, T, T, F, T, T, T, T, F, F, F] rfl rfl (any_of HT_.out (by kernel_rfl)) (fun _ _ _ h => h) (Or.inl ⟨by rfl, ?_⟩) ?_ ?_
            rotate_left
            ·intro w'
             go_simp
             with_reducible rfl
            rotate_left
            ·simp only [Act.put, Zj, Zk, Zm, i64_w, i32_w]
             rfl
            refine pure_ (i := 11) (N := some 86) (v := ?_) (a' := ?_) #[T, T, T, T, F, T, T, T, T, F, F, T] rfl rfl (any_of HT_.out (by kernel_rfl)) (fun _ _ _ h => h) (Or.inl ⟨by rfl, ?_⟩) ?_ ?_
            rotate_left
            ·intro w'
             go_simp
             with_reducible rfl
            rotate_left
            ·simp only [Act.put, Zj, Zk, Zm, i64_w, i32_w]
             rfl
            refine take_ (i := 4) (N := some 79) (v := ?_) (a' := ?_) #[T, T, T, T, T, T, T, T, T, F, F, T] rfl rfl (QaH HT_.out HW_.out (by kernel_rfl)) (fun _ _ _ h => h) (Or.inl ⟨by rfl, ?_⟩) hHeld ?_ ?_
            rotate_left
            ·rintro w' ⟨s0, s1, s2, s3, s4, s5⟩
             go_simp
             with_reducible rfl
            rotate_left
            ·simp only [Act.put, Zj, Zk, Zm, i64_w, i32_w]
             rfl
            refine take_ (i := 9) (N := some 84) (v := ?_) (a' := ?_) #[T, T, T, T, T, T, T, T, T, T, F, T] rfl rfl (QaH HT_.out HW_.out (by kernel_rfl)) (fun _ _ _ h => h) (Or.inl ⟨by rfl, ?_⟩) hHeld ?_ ?_
            rotate_left
            ·rintro w' ⟨s0, s1, s2, s3, s4, s5⟩
             go_simp
             with_reducible rfl
            rotate_left
            ·simp only [Act.put, Zj, Zk, Zm, i64_w, i32_w]
             rfl
            refine pure_ (i := 10) (N := some 85) (v := ?_) (a' := ?_) #[T, T, T, T, T, T, T, T, T, T, T, T] rfl rfl (any_of HT_.out (by kernel_rfl)) (fun _ _ _ h => h) (Or.inl ⟨by rfl, ?_⟩) ?_ ?_
            rotate_left
            ·intro w'
             go_simp
             with_reducible rfl
            rotate_left
            ·simp only [Act.put, Zj, Zk, Zm, i64_w, i32_w]
             rfl
            refine done_ (Qa5 HT_.out (by kernel_rfl)) ?_
            try go_wp2
            go_loopg [86] k2 (fun kq v86 w' => ∃ (x86_3 : Int) (x515000_3 : Int) (x515001_3 : Int), v86 = .int .i64 x86_3 ∧ Aside0 (Qae.l2 kq l0 l2 x6_2 x7_2 x72_2 (l2.length : Int) x72_2 x86_3 x515000_3 x515001_3 = some (r1, r2, r3)) ∧ Aside0 (kq ≤ k2) ∧ Aside0 (Kd.R (Kd.int .i64) 3 w' w.heap.size (fun k_ => some k_ ≠ (v509 : Value).ownBlock) v512 x6_2) ∧ Aside0 (Kd.R (Kd.int .i64) 3 w' w.heap.size (fun k_ => some k_ ≠ (v512 : Value).ownBlock) v509 x7_2) ∧ Aside0 (w'.heap[gb514]? = some (.cells #[.int .i64 x515000_3, .int .i64 x515001_3] 94 (0, 0))) ∧ Aside0 (Below w.heap.size w w'))
            case atStart => exact ⟨(0), (0), (0), (Zs2), H', ⟨Nat.le_refl _⟩, ⟨Zr HO_6.out⟩, ⟨Zr HO_7.out⟩, ⟨Zu BK514.out⟩, ⟨Zc1 GE514.out⟩⟩
            case round =>
             clear H'
             try clear c1
             try clear c2
             try clear p2
             try clear c3
             try clear p3
             try clear p5
             try clear q5
             try clear hx5
             try clear c6
             try clear p6
             try clear c8
             try clear c8b0
             try clear c9
             try clear c10
             try clear c12
             try clear c13
             try clear c13b0
             try clear c15
             try clear c16
             try clear c19
             try clear c22
             try clear c23
             try clear c23b0
             try clear c26
             try clear c29
             try clear c29b0
             try clear c29b1
             try clear c30
             try clear c30b0
             try clear c30b1
             try clear c34
             try clear c34b0
             try clear c35
             try clear c35b0
             try clear c36
             try clear c36b0
             try clear hx500_0
             try clear hx506_0
             try clear hx515_0
             try clear hx515_1
             try clear hx515_2
             try clear hx516_0
             try clear hx516_1
             try clear hx516_2
             try clear p2
             try clear p3
             try clear p5
             try clear p500
             try clear p506
             try clear p515
             try clear p516
             try clear p6
             try clear q5
             try clear q500
             try clear q506
             try clear q515
             try clear q516
             obtain ⟨x86_3, x515000_3, x515001_3, rfl, HA, HK3, HO_6, HO_7, BK514, HB⟩ := hrel
             cases gk with
             | zero => exact absurd HA.out (by simp [Qae.l2])
             | succ k3 =>
              have H := HA.out
              clear HA
              simp only [Qae.l2] at H
              by_cases c39 : x86_3 < 2
              ·rw [if_pos c39] at H
               have c39b0 : decide (x86_3 < 2) = T := decide_eq_true c39
               clear c39
               (try simp only [c39b0])
               by_cases c40 : x86_3 = 0
               ·rw [if_pos c40] at H
                have c40x := c40
                have c40b0 : (x86_3 == 0) = T := beq_iff_eq.mpr c40
                have c40b1 : (x86_3 != 0) = F := bne_eq_false_iff_eq.mpr c40
                clear c40
                replace H := Option.bind_eq_some_iff.mp H
                obtain ⟨⟨t517, t518⟩, A410, H⟩ := H
                replace H : (if t518 = T then (Qae.l2 k3 l0 l2 x6_2 x7_2 x72_2 (l2.length : Int) x72_2 (wrap64 (x86_3 + 1)) t517 x515001_3) else (Qae.l1 k3 l0 l2 x6_2 x7_2 (l2.length : Int) (wrap64 (x72_2 + 1)))) = some (r1, r2, r3) := H
                have A41 := Aside0.mk A410
                clear A410
                go_upto_if 97 with (first | ((with_reducible refine Qat (f := 62) rfl ?_); refine goesL_ (some 93) rfl rfl Try.func62 (by kernel_rfl) rfl #[.slice A0 l0.length c0, .int .i64 ((rd_T91 l2 x72_2).f0)] rfl (Zl) ?_; (with_reducible refine (Qah.calls k3 _ _ l0 ((rd_T91 l2 x72_2).f0) t517 t518 _ ?side1 ?side2 A41.out).mono ?_); (case side1 => exact Zv (Kd.C_below HR0.out HB.out)); (case side2 => exact HC0.out); rintro e w' ⟨rfl, ⟨nd, rfl⟩⟩; refine ⟨_, rfl, ?_⟩))
                (try simp only [Act.put, Zj, Zk, Zm])
                by_cases c42 : t518 = T
                ·subst c42
                 have H1 : (Qae.l2 k3 l0 l2 x6_2 x7_2 x72_2 (l2.length : Int) x72_2 (wrap64 (x86_3 + 1)) t517 x515001_3) = some (r1, r2, r3) := by rw [if_pos rfl] at H; exact H
                 clear H
                 have H := H1
                 clear H1
                 have H' := Aside0.mk H
                 clear H
                 obtain ⟨hcz43_0, hfz43_0⟩ := Zy (v := (.int .i64 x515000_3)) BK514.out 0
                 obtain ⟨hcz43_1, hfz43_1⟩ := Zy (v := (.int .i64 x515001_3)) BK514.out 1
                 go_wp2
                 go_roundg k3
                 case measure => have := HK1.out; have := HK2.out; have := HK3.out; omega
                 case rel => exact ⟨(wrap64 (x86_3 + 1)), (t517), (x515001_3), (Zs2), H', ⟨by have := HK1.out; have := HK2.out; have := HK3.out; omega⟩, ⟨by (with_reducible repeat (first | apply Kd.R_alloc | apply Kd.R_drewN | apply Kd.R_drew)); exact Kd.R_mono (Zf gb514 0 (Kd.R_types HO_6.out BK514.out (by decide)) (.int .i64 t517)) (fun _ hk => hk.1)⟩, ⟨by (with_reducible repeat (first | apply Kd.R_alloc | apply Kd.R_drewN | apply Kd.R_drew)); exact Kd.R_mono (Zf gb514 0 (Kd.R_types HO_7.out BK514.out (by decide)) (.int .i64 t517)) (fun _ hk => hk.1)⟩, ⟨Zp2 BK514.out⟩, ⟨Zc1 GE514.out⟩⟩
                replace c42 := Bool.eq_false_iff.mpr c42
                subst c42
                have H1 : (Qae.l1 k3 l0 l2 x6_2 x7_2 (l2.length : Int) (wrap64 (x72_2 + 1))) = some (r1, r2, r3) := by rw [if_neg (show ¬ (F = T) by decide)] at H; exact H
                clear H
                have H := H1
                clear H1
                have H' := Aside0.mk H
                clear H
                go_wp2
                go_roundg k3
                case measure => have := HK1.out; have := HK2.out; have := HK3.out; omega
                case rel => exact ⟨(x6_2), (x7_2), (wrap64 (x72_2 + 1)), (Zs2), H', ⟨by have := HK1.out; have := HK2.out; have := HK3.out; omega⟩, ⟨Zr HO_6.out⟩, ⟨Zr HO_7.out⟩, ⟨Zc1 GE514.out⟩⟩
               rw [if_neg c40] at H
               have c40b0 : (x86_3 == 0) = F := beq_eq_false_iff_ne.mpr c40
               have c40b1 : (x86_3 != 0) = T := bne_iff_ne.mpr c40
               by_cases c44 : x86_3 = 1
               ·rw [if_pos c44] at H
                have c44x := c44
                have c44b0 : (x86_3 == 1) = T := beq_iff_eq.mpr c44
                have c44b1 : (x86_3 != 1) = F := bne_eq_false_iff_eq.mpr c44
                clear c44
                replace H := Option.bind_eq_some_iff.mp H
                obtain ⟨⟨t519, t520⟩, A450, H⟩ := H
                replace H : (if t520 = T then (Qae.l2 k3 l0 l2 x6_2 x7_2 x72_2 (l2.length : Int) x72_2 (wrap64 (x86_3 + 1)) x515000_3 t519) else (Qae.l1 k3 l0 l2 x6_2 x7_2 (l2.length : Int) (wrap64 (x72_2 + 1)))) = some (r1, r2, r3) := H
                have A45 := Aside0.mk A450
                clear A450
                go_upto_if 97 with (first | ((with_reducible refine Qat (f := 62) rfl ?_); refine goesL_ (some 93) rfl rfl Try.func62 (by kernel_rfl) rfl #[.slice A0 l0.length c0, .int .i64 ((rd_T91 l2 x72_2).f1)] rfl (Zl) ?_; (with_reducible refine (Qah.calls k3 _ _ l0 ((rd_T91 l2 x72_2).f1) t519 t520 _ ?side1 ?side2 A45.out).mono ?_); (case side1 => exact Zv (Kd.C_below HR0.out HB.out)); (case side2 => exact HC0.out); rintro e w' ⟨rfl, ⟨nd, rfl⟩⟩; refine ⟨_, rfl, ?_⟩))
                (try simp only [Act.put, Zj, Zk, Zm])
                by_cases c46 : t520 = T
                ·subst c46
                 have H1 : (Qae.l2 k3 l0 l2 x6_2 x7_2 x72_2 (l2.length : Int) x72_2 (wrap64 (x86_3 + 1)) x515000_3 t519) = some (r1, r2, r3) := by rw [if_pos rfl] at H; exact H
                 clear H
                 have H := H1
                 clear H1
                 have H' := Aside0.mk H
                 clear H
                 obtain ⟨hcz47_0, hfz47_0⟩ := Zy (v := (.int .i64 x515000_3)) BK514.out 0
                 obtain ⟨hcz47_1, hfz47_1⟩ := Zy (v := (.int .i64 x515001_3)) BK514.out 1
                 go_wp2
                 go_roundg k3
                 case measure => have := HK1.out; have := HK2.out; have := HK3.out; omega
                 case rel => exact ⟨(wrap64 (x86_3 + 1)), (x515000_3), (t519), (Zs2), H', ⟨by have := HK1.out; have := HK2.out; have := HK3.out; omega⟩, ⟨by (with_reducible repeat (first | apply Kd.R_alloc | apply Kd.R_drewN | apply Kd.R_drew)); exact Kd.R_mono (Zf gb514 1 (Kd.R_types HO_6.out BK514.out (by decide)) (.int .i64 t519)) (fun _ hk => hk.1)⟩, ⟨by (with_reducible repeat (first | apply Kd.R_alloc | apply Kd.R_drewN | apply Kd.R_drew)); exact Kd.R_mono (Zf gb514 1 (Kd.R_types HO_7.out BK514.out (by decide)) (.int .i64 t519)) (fun _ hk => hk.1)⟩, ⟨Zp2 BK514.out⟩, ⟨Zc1 GE514.out⟩⟩
                replace c46 := Bool.eq_false_iff.mpr c46
                subst c46
                have H1 : (Qae.l1 k3 l0 l2 x6_2 x7_2 (l2.length : Int) (wrap64 (x72_2 + 1))) = some (r1, r2, r3) := by rw [if_neg (show ¬ (F = T) by decide)] at H; exact H
                clear H
                have H := H1
                clear H1
                have H' := Aside0.mk H
                clear H
                go_wp2
                go_roundg k3
                case measure => have := HK1.out; have := HK2.out; have := HK3.out; omega
                case rel => exact ⟨(x6_2), (x7_2), (wrap64 (x72_2 + 1)), (Zs2), H', ⟨by have := HK1.out; have := HK2.out; have := HK3.out; omega⟩, ⟨Zr HO_6.out⟩, ⟨Zr HO_7.out⟩, ⟨Zc1 GE514.out⟩⟩
               rw [if_neg c44] at H
               exact absurd H (by simp)
              rw [if_neg c39] at H
              have c39b0 : decide (x86_3 < 2) = F := decide_eq_false c39
              clear c39
              (try simp only [c39b0])
              by_cases c48 : 0 ≤ x515000_3
              ·rw [if_pos c48] at H
               have c48b0 : decide (0 ≤ x515000_3) = T := decide_eq_true c48
               clear c48
               by_cases c49 : x515000_3 < (x7_2.length : Int)
               ·rw [if_pos c49] at H
                have c49b0 : decide (x515000_3 < (x7_2.length : Int)) = T := decide_eq_true c49
                clear c49
                by_cases c50 : 0 ≤ x515001_3
                ·rw [if_pos c50] at H
                 have c50b0 : decide (0 ≤ x515001_3) = T := decide_eq_true c50
                 clear c50
                 by_cases c51 : x515001_3 < (x7_2.length : Int)
                 ·rw [if_pos c51] at H
                  have c51b0 : decide (x515001_3 < (x7_2.length : Int)) = T := decide_eq_true c51
                  clear c51
                  have HC52 := Aside0.mk H
                  clear H
                  try go_wp2
                  replace HO_6 := Aside0.mk (Kd.R_drew HO_6.out)
                  replace HO_7 := Aside0.mk (Kd.R_drew HO_7.out)
                  replace BK514 := Aside0.mk (QaM BK514.out)
                  replace HB := Aside0.mk (Qab HB.out)
                  obtain ⟨Ao54, co54, eo54⟩ := Kd.R_slice HO_7.out
                  (first | subst eo54 | (injection eo54 with f1_ f2_ f3_; have f4_ := f1_.symm; have f5_ := f3_.symm; clear f1_ f2_ f3_; subst f4_; subst f5_))
                  have p521 : 0 ≤ (x515000_3 : Int) := Ze
                  have q521 : x515000_3 < (x7_2.length : Int) := Ze
                  obtain ⟨ad521, e521, hx521_0⟩ := Kd.at_int (Kd.R_reads' HO_7.out).2.2 x515000_3 p521 q521
                  cases e521
                  replace p521 := eq_true p521
                  replace q521 := eq_true q521
                  have p522 : 0 ≤ (x515001_3 : Int) := Ze
                  have q522 : x515001_3 < (x7_2.length : Int) := Ze
                  obtain ⟨ad522, e522, hx522_0⟩ := Kd.at_int (Kd.R_reads' HO_7.out).2.2 x515001_3 p522 q522
                  obtain rfl : ad521 = ad522 := (by injection e522)
                  replace p522 := eq_true p522
                  replace q522 := eq_true q522
                  refine start_ (n := 10) (S := fun w' => w'.cell? ⟨gb514, 0, none⟩ = some (.int .i64 x515000_3) ∧ w'.cell? ⟨gb514, 1, none⟩ = some (.int .i64 x515001_3) ∧ w'.cell? (ad521.add (x515000_3).toNat) = some (.int .i64 (rd x7_2 x515000_3)) ∧ w'.cell? (ad521.add (x515001_3).toNat) = some (.int .i64 (rd x7_2 x515001_3))) (ds := []) #[F, F, F, F, F, F, F, F, F, F] (by kernel_rfl) rfl rfl ⟨(QaY BK514.out 0).trans rfl, (QaY BK514.out 1).trans rfl, hx521_0, hx522_0⟩ (fun hHeld => ?_); refine Qa1 Qae.tab25 Qae.bits25 (fun HT_ HW_ => ?_)
                  generalize wr.drew = w53 at HO_6 HO_7 BK514 HB hx521_0 hx522_0 hHeld ⊢
                  refine pure_ (i := 0) (N := some 102) (v := ?_) (a' := ?_) #[T, F, F, F, F, F, F, F, F, F] rfl rfl (any_of HT_.out (by kernel_rfl)) (fun _ _ _ h => h) (Or.inl ⟨by rfl, ?_⟩) ?_ ?_
                  rotate_left
                  ·intro w'
                   go_simp
                   with_reducible rfl
                  rotate_left
                  ·simp only [Act.put, Zj, Zk, Zm, i64_w, i32_w]
                   rfl
                  refine pure_ (i := 1) (N := some 103) (v := ?_) (a' := ?_) #[T, T, F, F, F, F, F, F, F, F] rfl rfl (any_of HT_.out (by kernel_rfl)) (fun _ _ _ h => h) (Or.inl ⟨by rfl, ?_⟩) ?_ ?_
                  rotate_left
                  ·intro w'
                   go_simp
                   with_reducible rfl
                  rotate_left
                  ·simp only [Act.put, Zj, Zk, Zm, i64_w, i32_w]
                   rfl
                  refine pure_ (i := 4) (N := some 106) (v := ?_) (a' := ?_) #[T, T, F, F, T, F, F, F, F, F] rfl rfl (any_of HT_.out (by kernel_rfl)) (fun _ _ _ h => h) (Or.inl ⟨by rfl, ?_⟩) ?_ ?_
                  rotate_left
                  ·intro w'
                   go_simp
                   with_reducible rfl
                  rotate_left
                  ·simp only [Act.put, Zj, Zk, Zm, i64_w, i32_w]
                   rfl
                  refine pure_ (i := 5) (N := some 107) (v := ?_) (a' := ?_) #[T, T, F, F, T, T, F, F, F, F] rfl rfl (any_of HT_.out (by kernel_rfl)) (fun _ _ _ h => h) (Or.inl ⟨by rfl, ?_⟩) ?_ ?_
                  rotate_left
                  ·intro w'
                   go_simp
                   with_reducible rfl
                  rotate_left
                  ·simp only [Act.put, Zj, Zk, Zm, i64_w, i32_w]
                   rfl
                  refine take_ (i := 2) (N := some 104) (v := ?_) (a' := ?_) #[T, T, T, F, T, T, F, F, F, F] rfl rfl (QaH HT_.out HW_.out (by kernel_rfl)) (fun _ _ _ h => h) (Or.inl ⟨by rfl, ?_⟩) hHeld ?_ ?_
                  rotate_left
                  ·rintro w' ⟨s0, s1, s2, s3⟩
                   go_simp
                   with_reducible rfl
                  rotate_left
                  ·simp only [Act.put, Zj, Zk, Zm, i64_w, i32_w]
                   rfl
                  refine pure_ (i := 3) (N := some 105) (v := ?_) (a' := ?_) #[T, T, T, T, T, T, F, F, F, F] rfl rfl (any_of HT_.out (by kernel_rfl)) (fun _ _ _ h => h) (Or.inl ⟨by rfl, ?_⟩) ?_ ?_
                  rotate_left
                  ·intro w'
                   go_simp
                   with_reducible rfl
                  rotate_left
                  ·simp only [Act.put, Zj, Zk, Zm, i64_w, i32_w]
                   rfl
                  refine pure_ (i := 8) (N := some 16) (v := ?_) (a' := ?_) #[T, T, T, T, T, T, F, F, T, F] rfl rfl (any_of HT_.out (by kernel_rfl)) (fun _ _ _ h => h) (Or.inl ⟨by rfl, ?_⟩) ?_ ?_
                  rotate_left
                  ·intro w'
                   go_simp
                   with_reducible rfl
                  rotate_left
                  ·simp only [Act.put, Zj, Zk, Zm, i64_w, i32_w]
                   rfl
                  refine take_ (i := 6) (N := some 108) (v := ?_) (a' := ?_) #[T, T, T, T, T, T, T, F, T, F] rfl rfl (QaH HT_.out HW_.out (by kernel_rfl)) (fun _ _ _ h => h) (Or.inl ⟨by rfl, ?_⟩) hHeld ?_ ?_
                  rotate_left
                  ·rintro w' ⟨s0, s1, s2, s3⟩
                   go_simp
                   with_reducible rfl
                  rotate_left
                  ·simp only [Act.put, Zj, Zk, Zm, i64_w, i32_w]
                   rfl
                  refine pure_ (i := 7) (N := some 109) (v := ?_) (a' := ?_) #[T, T, T, T, T, T, T, T, T, F] rfl rfl (any_of HT_.out (by kernel_rfl)) (fun _ _ _ h => h) (Or.inl ⟨by rfl, ?_⟩) ?_ ?_
                  rotate_left
                  ·intro w'
                   go_simp
                   with_reducible rfl
                  rotate_left
                  ·simp only [Act.put, Zj, Zk, Zm, i64_w, i32_w]
                   rfl
                  refine pure_ (i := 9) (N := some 17) (v := ?_) (a' := ?_) #[T, T, T, T, T, T, T, T, T, T] rfl rfl (any_of HT_.out (by kernel_rfl)) (fun _ _ _ h => h) (Or.inl ⟨by rfl, ?_⟩) ?_ ?_
                  rotate_left
                  ·intro w'
                   go_simp
                   with_reducible rfl
                  rotate_left
                  ·simp only [Act.put, Zj, Zk, Zm, i64_w, i32_w]
                   rfl
                  refine done_ (Qa5 HT_.out (by kernel_rfl)) ?_
                  go_upto_region 26 with (fail)
                  go_cut [130] (fun v130 wc => ∃ (kq : Nat) (x130_51 : Bool), v130 = .bool x130_51 ∧ Aside0 (Qae.j3 kq l0 l2 x6_2 x7_2 x72_2 (l2.length : Int) x72_2 x130_51 x515000_3 x515001_3 = some (r1, r2, r3)) ∧ Aside0 (kq ≤ k3) ∧ Aside0 (Kd.R (Kd.int .i64) 3 wc w.heap.size (fun k_ => some k_ ≠ ((.slice (some ad521) x7_2.length co54) : Value).ownBlock) v512 x6_2) ∧ Aside0 (Kd.R (Kd.int .i64) 3 wc w.heap.size (fun k_ => some k_ ≠ (v512 : Value).ownBlock) (.slice (some ad521) x7_2.length co54) x7_2) ∧ Aside0 (wc.heap[gb514]? = some (.cells #[.int .i64 x515000_3, .int .i64 x515001_3] 94 (0, 0))) ∧ Aside0 (Below w.heap.size w wc))
                  case first =>
                   have H := HC52.out
                   clear HC52
                   by_cases c55 : (rd x7_2 x515000_3) = 0
                   ·rw [if_pos c55] at H
                    have c55b0 : ((rd x7_2 x515000_3) == 0) = T := beq_iff_eq.mpr c55
                    have c55b1 : ((rd x7_2 x515000_3) != 0) = F := bne_eq_false_iff_eq.mpr c55
                    clear c55
                    (first | rw [c55b0] | (simp only [i64_w, i32_w]; rw [c55b0]) | skip)
                    have H' := Aside0.mk H
                    clear H
                    try go_wp2
                    replace HO_6 := Aside0.mk (Kd.R_drew HO_6.out)
                    replace HO_7 := Aside0.mk (Kd.R_drew HO_7.out)
                    replace BK514 := Aside0.mk (QaM BK514.out)
                    replace HB := Aside0.mk (Qab HB.out)
                    have p523 : 0 ≤ (x515000_3 : Int) := Ze
                    have q523 : x515000_3 < (x7_2.length : Int) := Ze
                    obtain ⟨ad523, e523, hx523_0⟩ := Kd.at_int (Kd.R_reads' HO_7.out).2.2 x515000_3 p523 q523
                    obtain rfl : ad521 = ad523 := (by injection e523)
                    replace p523 := eq_true p523
                    replace q523 := eq_true q523
                    refine start_ (n := 21) (S := fun w' => w'.cell? (ad521.add (x515000_3).toNat) = some (.int .i64 (rd x7_2 x515000_3))) (ds := []) #[F, F, F, F, F, F, F, F, F, F, F, F, F, F, F, F, F, F, F, F, F] (by kernel_rfl) rfl rfl (hx523_0) (fun hHeld => ?_); refine Qa1 Qae.tab26 Qae.bits26 (fun HT_ HW_ => ?_)
                    generalize w53.drew = w56 at HO_6 HO_7 BK514 HB hx523_0 hHeld ⊢
                    refine pure_ (i := 0) (N := some 110) (v := ?_) (a' := ?_) #[T, F, F, F, F, F, F, F, F, F, F, F, F, F, F, F, F, F, F, F, F] rfl rfl (any_of HT_.out (by kernel_rfl)) (fun _ _ _ h => h) (Or.inl ⟨by rfl, ?_⟩) ?_ ?_
                    rotate_left
                    ·intro w'
                     go_simp
                     with_reducible rfl
                    rotate_left
                    ·simp only [Act.put, Zj, Zk, Zm, i64_w, i32_w]
                     rfl
                    refine pure_ (i := 1) (N := some 111) (v := ?_) (a' := ?_) #[T, T, F, F, F, F, F, F, F, F, F, F, F, F, F, F, F, F, F, F, F] rfl rfl (any_of HT_.out (by kernel_rfl)) (fun _ _ _ h => h) (Or.inl ⟨by rfl, ?_⟩) ?_ ?_
                    rotate_left
                    ·intro w'
                     go_simp
                     with_reducible rfl
                    rotate_left
                    ·simp only [Act.put, Zj, Zk, Zm, i64_w, i32_w]
                     rfl
                    refine take_ (i := 2) (N := some 112) (v := ?_) (a' := ?_) #[T, T, T, F, F, F, F, F, F, F, F, F, F, F, F, F, F, F, F, F, F] rfl rfl (QaH HT_.out HW_.out (by kernel_rfl)) (fun _ _ _ h => h) (Or.inl ⟨by rfl, ?_⟩) hHeld ?_ ?_
                    rotate_left
                    ·intro w' s0
                     go_simp
                     with_reducible rfl
                    rotate_left
                    ·simp only [Act.put, Zj, Zk, Zm, i64_w, i32_w]
                     rfl
                    refine pure_ (i := 3) (N := some 113) (v := ?_) (a' := ?_) #[T, T, T, T, F, F, F, F, F, F, F, F, F, F, F, F, F, F, F, F, F] rfl rfl (any_of HT_.out (by kernel_rfl)) (fun _ _ _ h => h) (Or.inl ⟨by rfl, ?_⟩) ?_ ?_
                    rotate_left
                    ·intro w'
                     go_simp
                     with_reducible rfl
                    rotate_left
                    ·simp only [Act.put, Zj, Zk, Zm, i64_w, i32_w]
                     rfl
                    refine pure_ (i := 4) (N := some 114) (v := ?_) (a' := ?_) #[T, T, T, T, T, F, F, F, F, F, F, F, F, F, F, F, F, F, F, F, F] rfl rfl (any_of HT_.out (by kernel_rfl)) (fun _ _ _ h => h) (Or.inl ⟨by rfl, ?_⟩) ?_ ?_
                    rotate_left
                    ·intro w'
                     go_simp
                     with_reducible rfl
                    rotate_left
                    ·simp only [Act.put, Zj, Zk, Zm, i64_w, i32_w]
                     rfl
                    refine pure_ (i := 5) (N := some 115) (v := undef) (a' := ?_) #[T, T, T, T, T, T, F, F, F, F, F, F, F, F, F, F, F, F, F, F, F] rfl rfl (any_of HT_.out (by kernel_rfl)) (fun _ _ _ h => h) (Or.inr ⟨by rfl, rfl⟩) ?_ ?_
                    rotate_left
                    ·simp only [Act.put, Zj, Zk, Zm, i64_w, i32_w]
                     rfl
                    refine pure_ (i := 6) (N := some 116) (v := undef) (a' := ?_) #[T, T, T, T, T, T, T, F, F, F, F, F, F, F, F, F, F, F, F, F, F] rfl rfl (any_of HT_.out (by kernel_rfl)) (fun _ _ _ h => h) (Or.inr ⟨by rfl, rfl⟩) ?_ ?_
                    rotate_left
                    ·simp only [Act.put, Zj, Zk, Zm, i64_w, i32_w]
                     rfl
                    refine pure_ (i := 7) (N := some 117) (v := undef) (a' := ?_) #[T, T, T, T, T, T, T, T, F, F, F, F, F, F, F, F, F, F, F, F, F] rfl rfl (any_of HT_.out (by kernel_rfl)) (fun _ _ _ h => h) (Or.inr ⟨by rfl, rfl⟩) ?_ ?_
                    rotate_left
                    ·simp only [Act.put, Zj, Zk, Zm, i64_w, i32_w]
                     rfl
                    refine pure_ (i := 8) (N := some 118) (v := undef) (a' := ?_) #[T, T, T, T, T, T, T, T, T, F, F, F, F, F, F, F, F, F, F, F, F] rfl rfl (any_of HT_.out (by kernel_rfl)) (fun _ _ _ h => h) (Or.inr ⟨by rfl, rfl⟩) ?_ ?_
                    rotate_left
                    ·simp only [Act.put, Zj, Zk, Zm, i64_w, i32_w]
                     rfl
                    refine pure_ (i := 9) (N := some 119) (v := ?_) (a' := ?_) #[T, T, T, T, T, T, T, T, T, T, F, F, F, F, F, F, F, F, F, F, F] rfl rfl (any_of HT_.out (by kernel_rfl)) (fun _ _ _ h => h) (Or.inl ⟨by rfl, ?_⟩) ?_ ?_
                    rotate_left
                    ·intro w'
                     go_simp
                     with_reducible rfl
                    rotate_left
                    ·simp only [Act.put, Zj, Zk, Zm, i64_w, i32_w]
                     rfl
                    refine pure_ (i := 10) (N := some 120) (v := ?_) (a' := ?_) #[T, T, T, T, T, T, T, T, T, T, T, F, F, F, F, F, F, F, F, F, F] rfl rfl (any_of HT_.out (by kernel_rfl)) (fun _ _ _ h => h) (Or.inl ⟨by rfl, ?_⟩) ?_ ?_
                    rotate_left
                    ·intro w'
                     go_simp
                     with_reducible rfl
                    rotate_left
                    ·simp only [Act.put, Zj, Zk, Zm, i64_w, i32_w]
                     rfl
                    refine pure_ (i := 11) (N := some 121) (v := undef) (a' := ?_) #[T, T, T, T, T, T, T, T, T, T, T, T, F, F, F, F, F, F, F, F, F] rfl rfl (any_of HT_.out (by kernel_rfl)) (fun _ _ _ h => h) (Or.inr ⟨by rfl, rfl⟩) ?_ ?_
                    rotate_left
                    ·simp only [Act.put, Zj, Zk, Zm, i64_w, i32_w]
                     rfl
                    refine pure_ (i := 12) (N := some 122) (v := undef) (a' := ?_) #[T, T, T, T, T, T, T, T, T, T, T, T, T, F, F, F, F, F, F, F, F] rfl rfl (any_of HT_.out (by kernel_rfl)) (fun _ _ _ h => h) (Or.inr ⟨by rfl, rfl⟩) ?_ ?_
                    rotate_left
                    ·simp only [Act.put, Zj, Zk, Zm, i64_w, i32_w]
                     rfl
                    refine pure_ (i := 13) (N := some 123) (v := undef) (a' := ?_) #[T, T, T, T, T, T, T, T, T, T, T, T, T, T, F, F, F, F, F, F, F] rfl rfl (any_of HT_.out (by kernel_rfl)) (fun _ _ _ h => h) (Or.inr ⟨by rfl, rfl⟩) ?_ ?_
                    rotate_left
                    ·simp only [Act.put, Zj, Zk, Zm, i64_w, i32_w]
                     rfl
                    refine pure_ (i := 14) (N := some 124) (v := undef) (a' := ?_) #[T, T, T, T, T, T, T, T, T, T, T, T, T, T, T, F, F, F, F, F, F] rfl rfl (any_of HT_.out (by kernel_rfl)) (fun _ _ _ h => h) (Or.inr ⟨by rfl, rfl⟩) ?_ ?_
                    rotate_left
                    ·simp only [Act.put, Zj, Zk, Zm, i64_w, i32_w]
                     rfl
                    refine pure_ (i := 15) (N := some 125) (v := undef) (a' := ?_) #[T, T, T, T, T, T, T, T, T, T, T, T, T, T, T, T, F, F, F, F, F] rfl rfl (any_of HT_.out (by kernel_rfl)) (fun _ _ _ h => h) (Or.inr ⟨by rfl, rfl⟩) ?_ ?_
                    rotate_left
                    ·simp only [Act.put, Zj, Zk, Zm, i64_w, i32_w]
                     rfl
                    refine pure_ (i := 16) (N := some 126) (v := undef) (a' := ?_) #[T, T, T, T, T, T, T, T, T, T, T, T, T, T, T, T, T, F, F, F, F] rfl rfl (any_of HT_.out (by kernel_rfl)) (fun _ _ _ h => h) (Or.inr ⟨by rfl, rfl⟩) ?_ ?_
                    rotate_left
                    ·simp only [Act.put, Zj, Zk, Zm, i64_w, i32_w]
                     rfl
                    refine pure_ (i := 17) (N := some 127) (v := undef) (a' := ?_) #[T, T, T, T, T, T, T, T, T, T, T, T, T, T, T, T, T, T, F, F, F] rfl rfl (any_of HT_.out (by kernel_rfl)) (fun _ _ _ h => h) (Or.inr ⟨by rfl, rfl⟩) ?_ ?_
                    rotate_left
                    ·simp only [Act.put, Zj, Zk, Zm, i64_w, i32_w]
                     rfl
                    refine pure_ (i := 18) (N := some 128) (v := undef) (a' := ?_) #[T, T, T, T, T, T, T, T, T, T, T, T, T, T, T, T, T, T, T, F, F] rfl rfl (any_of HT_.out (by kernel_rfl)) (fun _ _ _ h => h) (Or.inr ⟨by rfl, rfl⟩) ?_ ?_
                    rotate_left
                    ·simp only [Act.put, Zj, Zk, Zm, i64_w, i32_w]
                     rfl
                    refine pure_ (i := 19) (N := some 129) (v := undef) (a' := ?_) #[T, T, T, T, T, T, T, T, T, T, T, T, T, T, T, T, T, T, T, T, F] rfl rfl (any_of HT_.out (by kernel_rfl)) (fun _ _ _ h => h) (Or.inr ⟨by rfl, rfl⟩) ?_ ?_
                    rotate_left
                    ·simp only [Act.put, Zj, Zk, Zm, i64_w, i32_w]
                     rfl
                    refine pure_ (i := 20) (N := some 130) (v := ?_) (a' := ?_) #[T, T, T, T, T, T, T, T, T, T, T, T, T, T, T, T, T, T, T, T, T] rfl rfl (any_of HT_.out (by kernel_rfl)) (fun _ _ _ h => h) (Or.inl ⟨by rfl, ?_⟩) ?_ ?_
                    rotate_left
                    ·intro w'
                     go_simp
                     with_reducible rfl
                    rotate_left
                    ·simp only [Act.put, Zj, Zk, Zm, i64_w, i32_w]
                     rfl
                    refine done_ (Qa5 HT_.out (by kernel_rfl)) ?_
                    try go_wp2
                    go_meet
                    case rel => exact ⟨_, (T), (Zs2), H', ⟨by have := HK1.out; have := HK2.out; have := HK3.out; first | omega | exact Nat.le_refl _⟩, ⟨Zr HO_6.out⟩, ⟨Zr HO_7.out⟩, ⟨Zu BK514.out⟩, ⟨Zc1 GE514.out⟩⟩
                   rw [if_neg c55] at H
                   have c55b0 : ((rd x7_2 x515000_3) == 0) = F := beq_eq_false_iff_ne.mpr c55
                   have c55b1 : ((rd x7_2 x515000_3) != 0) = T := bne_iff_ne.mpr c55
                   (first | rw [c55b0] | (simp only [i64_w, i32_w]; rw [c55b0]) | skip)
                   by_cases c57 : (rd x7_2 x515001_3) = 0
                   ·rw [if_pos c57] at H
                    have c57b0 : ((rd x7_2 x515001_3) == 0) = T := beq_iff_eq.mpr c57
                    have c57b1 : ((rd x7_2 x515001_3) != 0) = F := bne_eq_false_iff_eq.mpr c57
                    clear c57
                    have H' := Aside0.mk H
                    clear H
                    try go_wp2
                    replace HO_6 := Aside0.mk (Kd.R_drew HO_6.out)
                    replace HO_7 := Aside0.mk (Kd.R_drew HO_7.out)
                    replace BK514 := Aside0.mk (QaM BK514.out)
                    replace HB := Aside0.mk (Qab HB.out)
                    have p523 : 0 ≤ (x515000_3 : Int) := Ze
                    have q523 : x515000_3 < (x7_2.length : Int) := Ze
                    obtain ⟨ad523, e523, hx523_0⟩ := Kd.at_int (Kd.R_reads' HO_7.out).2.2 x515000_3 p523 q523
                    obtain rfl : ad521 = ad523 := (by injection e523)
                    replace p523 := eq_true p523
                    replace q523 := eq_true q523
                    have p524 : 0 ≤ (x515001_3 : Int) := Ze
                    have q524 : x515001_3 < (x7_2.length : Int) := Ze
                    obtain ⟨ad524, e524, hx524_0⟩ := Kd.at_int (Kd.R_reads' HO_7.out).2.2 x515001_3 p524 q524
                    obtain rfl : ad521 = ad524 := (by injection e524)
                    replace p524 := eq_true p524
                    replace q524 := eq_true q524
                    refine start_ (n := 21) (S := fun w' => w'.cell? (ad521.add (x515000_3).toNat) = some (.int .i64 (rd x7_2 x515000_3)) ∧ w'.cell? (ad521.add (x515001_3).toNat) = some (.int .i64 (rd x7_2 x515001_3))) (ds := []) #[F, F, F, F, F, F, F, F, F, F, F, F, F, F, F, F, F, F, F, F, F] (by kernel_rfl) rfl rfl ⟨hx523_0, hx524_0⟩ (fun hHeld => ?_); refine Qa1 Qae.tab26 Qae.bits26 (fun HT_ HW_ => ?_)
                    generalize w53.drew = w58 at HO_6 HO_7 BK514 HB hx523_0 hx524_0 hHeld ⊢
                    refine pure_ (i := 0) (N := some 110) (v := ?_) (a' := ?_) #[T, F, F, F, F, F, F, F, F, F, F, F, F, F, F, F, F, F, F, F, F] rfl rfl (any_of HT_.out (by kernel_rfl)) (fun _ _ _ h => h) (Or.inl ⟨by rfl, ?_⟩) ?_ ?_
                    rotate_left
                    ·intro w'
                     go_simp
                     with_reducible rfl
                    rotate_left
                    ·simp only [Act.put, Zj, Zk, Zm, i64_w, i32_w]
                     rfl
                    refine pure_ (i := 1) (N := some 111) (v := ?_) (a' := ?_) #[T, T, F, F, F, F, F, F, F, F, F, F, F, F, F, F, F, F, F, F, F] rfl rfl (any_of HT_.out (by kernel_rfl)) (fun _ _ _ h => h) (Or.inl ⟨by rfl, ?_⟩) ?_ ?_
                    rotate_left
                    ·intro w'
                     go_simp
                     with_reducible rfl
                    rotate_left
                    ·simp only [Act.put, Zj, Zk, Zm, i64_w, i32_w]
                     rfl
                    refine take_ (i := 2) (N := some 112) (v := ?_) (a' := ?_) #[T, T, T, F, F, F, F, F, F, F, F, F, F, F, F, F, F, F, F, F, F] rfl rfl (QaH HT_.out HW_.out (by kernel_rfl)) (fun _ _ _ h => h) (Or.inl ⟨by rfl, ?_⟩) hHeld ?_ ?_
                    rotate_left
                    ·rintro w' ⟨s0, s1⟩
                     go_simp
                     with_reducible rfl
                    rotate_left
                    ·simp only [Act.put, Zj, Zk, Zm, i64_w, i32_w]
                     rfl
                    refine pure_ (i := 3) (N := some 113) (v := ?_) (a' := ?_) #[T, T, T, T, F, F, F, F, F, F, F, F, F, F, F, F, F, F, F, F, F] rfl rfl (any_of HT_.out (by kernel_rfl)) (fun _ _ _ h => h) (Or.inl ⟨by rfl, ?_⟩) ?_ ?_
                    rotate_left
                    ·intro w'
                     go_simp
                     with_reducible rfl
                    rotate_left
                    ·simp only [Act.put, Zj, Zk, Zm, i64_w, i32_w]
                     rfl
                    refine pure_ (i := 4) (N := some 114) (v := ?_) (a' := ?_) #[T, T, T, T, T, F, F, F, F, F, F, F, F, F, F, F, F, F, F, F, F] rfl rfl (any_of HT_.out (by kernel_rfl)) (fun _ _ _ h => h) (Or.inl ⟨by rfl, ?_⟩) ?_ ?_
                    rotate_left
                    ·intro w'
                     go_simp
                     with_reducible rfl
                    rotate_left
                    ·simp only [Act.put, Zj, Zk, Zm, i64_w, i32_w]
                     rfl
                    refine pure_ (i := 5) (N := some 115) (v := ?_) (a' := ?_) #[T, T, T, T, T, T, F, F, F, F, F, F, F, F, F, F, F, F, F, F, F] rfl rfl (any_of HT_.out (by kernel_rfl)) (fun _ _ _ h => h) (Or.inl ⟨by rfl, ?_⟩) ?_ ?_
                    rotate_left
                    ·intro w'
                     go_simp
                     with_reducible rfl
                    rotate_left
                    ·simp only [Act.put, Zj, Zk, Zm, i64_w, i32_w]
                     rfl
                    refine pure_ (i := 6) (N := some 116) (v := ?_) (a' := ?_) #[T, T, T, T, T, T, T, F, F, F, F, F, F, F, F, F, F, F, F, F, F] rfl rfl (any_of HT_.out (by kernel_rfl)) (fun _ _ _ h => h) (Or.inl ⟨by rfl, ?_⟩) ?_ ?_
                    rotate_left
                    ·intro w'
                     go_simp
                     with_reducible rfl
                    rotate_left
                    ·simp only [Act.put, Zj, Zk, Zm, i64_w, i32_w]
                     rfl
                    refine take_ (i := 7) (N := some 117) (v := ?_) (a' := ?_) #[T, T, T, T, T, T, T, T, F, F, F, F, F, F, F, F, F, F, F, F, F] rfl rfl (QaH HT_.out HW_.out (by kernel_rfl)) (fun _ _ _ h => h) (Or.inl ⟨by rfl, ?_⟩) hHeld ?_ ?_
                    rotate_left
                    ·rintro w' ⟨s0, s1⟩
                     go_simp
                     with_reducible rfl
                    rotate_left
                    ·simp only [Act.put, Zj, Zk, Zm, i64_w, i32_w]
                     rfl
                    refine pure_ (i := 8) (N := some 118) (v := ?_) (a' := ?_) #[T, T, T, T, T, T, T, T, T, F, F, F, F, F, F, F, F, F, F, F, F] rfl rfl (any_of HT_.out (by kernel_rfl)) (fun _ _ _ h => h) (Or.inl ⟨by rfl, ?_⟩) ?_ ?_
                    rotate_left
                    ·intro w'
                     go_simp
                     with_reducible rfl
                    rotate_left
                    ·simp only [Act.put, Zj, Zk, Zm, i64_w, i32_w]
                     rfl
                    refine pure_ (i := 9) (N := some 119) (v := ?_) (a' := ?_) #[T, T, T, T, T, T, T, T, T, T, F, F, F, F, F, F, F, F, F, F, F] rfl rfl (any_of HT_.out (by kernel_rfl)) (fun _ _ _ h => h) (Or.inl ⟨by rfl, ?_⟩) ?_ ?_
                    rotate_left
                    ·intro w'
                     go_simp
                     with_reducible rfl
                    rotate_left
                    ·simp only [Act.put, Zj, Zk, Zm, i64_w, i32_w]
                     rfl
                    refine pure_ (i := 10) (N := some 120) (v := ?_) (a' := ?_) #[T, T, T, T, T, T, T, T, T, T, T, F, F, F, F, F, F, F, F, F, F] rfl rfl (any_of HT_.out (by kernel_rfl)) (fun _ _ _ h => h) (Or.inl ⟨by rfl, ?_⟩) ?_ ?_
                    rotate_left
                    ·intro w'
                     go_simp
                     with_reducible rfl
                    rotate_left
                    ·simp only [Act.put, Zj, Zk, Zm, i64_w, i32_w]
                     rfl
                    refine pure_ (i := 11) (N := some 121) (v := undef) (a' := ?_) #[T, T, T, T, T, T, T, T, T, T, T, T, F, F, F, F, F, F, F, F, F] rfl rfl (any_of HT_.out (by kernel_rfl)) (fun _ _ _ h => h) (Or.inr ⟨by rfl, rfl⟩) ?_ ?_
                    rotate_left
                    ·simp only [Act.put, Zj, Zk, Zm, i64_w, i32_w]
                     rfl
                    refine pure_ (i := 12) (N := some 122) (v := undef) (a' := ?_) #[T, T, T, T, T, T, T, T, T, T, T, T, T, F, F, F, F, F, F, F, F] rfl rfl (any_of HT_.out (by kernel_rfl)) (fun _ _ _ h => h) (Or.inr ⟨by rfl, rfl⟩) ?_ ?_
                    rotate_left
                    ·simp only [Act.put, Zj, Zk, Zm, i64_w, i32_w]
                     rfl
                    refine pure_ (i := 13) (N := some 123) (v := undef) (a' := ?_) #[T, T, T, T, T, T, T, T, T, T, T, T, T, T, F, F, F, F, F, F, F] rfl rfl (any_of HT_.out (by kernel_rfl)) (fun _ _ _ h => h) (Or.inr ⟨by rfl, rfl⟩) ?_ ?_
                    rotate_left
                    ·simp only [Act.put, Zj, Zk, Zm, i64_w, i32_w]
                     rfl
                    refine pure_ (i := 14) (N := some 124) (v := undef) (a' := ?_) #[T, T, T, T, T, T, T, T, T, T, T, T, T, T, T, F, F, F, F, F, F] rfl rfl (any_of HT_.out (by kernel_rfl)) (fun _ _ _ h => h) (Or.inr ⟨by rfl, rfl⟩) ?_ ?_
                    rotate_left
                    ·simp only [Act.put, Zj, Zk, Zm, i64_w, i32_w]
                     rfl
                    refine pure_ (i := 15) (N := some 125) (v := undef) (a' := ?_) #[T, T, T, T, T, T, T, T, T, T, T, T, T, T, T, T, F, F, F, F, F] rfl rfl (any_of HT_.out (by kernel_rfl)) (fun _ _ _ h => h) (Or.inr ⟨by rfl, rfl⟩) ?_ ?_
                    rotate_left
                    ·simp only [Act.put, Zj, Zk, Zm, i64_w, i32_w]
                     rfl
                    refine pure_ (i := 16) (N := some 126) (v := undef) (a' := ?_) #[T, T, T, T, T, T, T, T, T, T, T, T, T, T, T, T, T, F, F, F, F] rfl rfl (any_of HT_.out (by kernel_rfl)) (fun _ _ _ h => h) (Or.inr ⟨by rfl, rfl⟩) ?_ ?_
                    rotate_left
                    ·simp only [Act.put, Zj, Zk, Zm, i64_w, i32_w]
                     rfl
                    refine pure_ (i := 17) (N := some 127) (v := undef) (a' := ?_) #[T, T, T, T, T, T, T, T, T, T, T, T, T, T, T, T, T, T, F, F, F] rfl rfl (any_of HT_.out (by kernel_rfl)) (fun _ _ _ h => h) (Or.inr ⟨by rfl, rfl⟩) ?_ ?_
                    rotate_left
                    ·simp only [Act.put, Zj, Zk, Zm, i64_w, i32_w]
                     rfl
                    refine pure_ (i := 18) (N := some 128) (v := undef) (a' := ?_) #[T, T, T, T, T, T, T, T, T, T, T, T, T, T, T, T, T, T, T, F, F] rfl rfl (any_of HT_.out (by kernel_rfl)) (fun _ _ _ h => h) (Or.inr ⟨by rfl, rfl⟩) ?_ ?_
                    rotate_left
                    ·simp only [Act.put, Zj, Zk, Zm, i64_w, i32_w]
                     rfl
                    refine pure_ (i := 19) (N := some 129) (v := undef) (a' := ?_) #[T, T, T, T, T, T, T, T, T, T, T, T, T, T, T, T, T, T, T, T, F] rfl rfl (any_of HT_.out (by kernel_rfl)) (fun _ _ _ h => h) (Or.inr ⟨by rfl, rfl⟩) ?_ ?_
                    rotate_left
                    ·simp only [Act.put, Zj, Zk, Zm, i64_w, i32_w]
                     rfl
                    refine pure_ (i := 20) (N := some 130) (v := ?_) (a' := ?_) #[T, T, T, T, T, T, T, T, T, T, T, T, T, T, T, T, T, T, T, T, T] rfl rfl (any_of HT_.out (by kernel_rfl)) (fun _ _ _ h => h) (Or.inl ⟨by rfl, ?_⟩) ?_ ?_
                    rotate_left
                    ·intro w'
                     go_simp
                     with_reducible rfl
                    rotate_left
                    ·simp only [Act.put, Zj, Zk, Zm, i64_w, i32_w]
                     rfl
                    refine done_ (Qa5 HT_.out (by kernel_rfl)) ?_
                    try go_wp2
                    go_meet
                    case rel => exact ⟨_, (T), (Zs2), H', ⟨by have := HK1.out; have := HK2.out; have := HK3.out; first | omega | exact Nat.le_refl _⟩, ⟨Zr HO_6.out⟩, ⟨Zr HO_7.out⟩, ⟨Zu BK514.out⟩, ⟨Zc1 GE514.out⟩⟩
                   rw [if_neg c57] at H
                   have c57b0 : ((rd x7_2 x515001_3) == 0) = F := beq_eq_false_iff_ne.mpr c57
                   have c57b1 : ((rd x7_2 x515001_3) != 0) = T := bne_iff_ne.mpr c57
                   have H' := Aside0.mk H
                   clear H
                   try go_wp2
                   replace HO_6 := Aside0.mk (Kd.R_drew HO_6.out)
                   replace HO_7 := Aside0.mk (Kd.R_drew HO_7.out)
                   replace BK514 := Aside0.mk (QaM BK514.out)
                   replace HB := Aside0.mk (Qab HB.out)
                   have p523 : 0 ≤ (x515000_3 : Int) := Ze
                   have q523 : x515000_3 < (x7_2.length : Int) := Ze
                   obtain ⟨ad523, e523, hx523_0⟩ := Kd.at_int (Kd.R_reads' HO_7.out).2.2 x515000_3 p523 q523
                   obtain rfl : ad521 = ad523 := (by injection e523)
                   replace p523 := eq_true p523
                   replace q523 := eq_true q523
                   have p524 : 0 ≤ (x515001_3 : Int) := Ze
                   have q524 : x515001_3 < (x7_2.length : Int) := Ze
                   obtain ⟨ad524, e524, hx524_0⟩ := Kd.at_int (Kd.R_reads' HO_7.out).2.2 x515001_3 p524 q524
                   obtain rfl : ad521 = ad524 := (by injection e524)
                   replace p524 := eq_true p524
                   replace q524 := eq_true q524
                   have p525 : 0 ≤ (x515000_3 : Int) := Ze
                   have q525 : x515000_3 < (x7_2.length : Int) := Ze
                   obtain ⟨ad525, e525, hx525_0⟩ := Kd.at_int (Kd.R_reads' HO_7.out).2.2 x515000_3 p525 q525
                   obtain rfl : ad521 = ad525 := (by injection e525)
                   replace p525 := eq_true p525
                   replace q525 := eq_true q525
                   have p526 : 0 ≤ (x515001_3 : Int) := Ze
                   have q526 : x515001_3 < (x7_2.length : Int) := Ze
                   obtain ⟨ad526, e526, hx526_0⟩ := Kd.at_int (Kd.R_reads' HO_7.out).2.2 x515001_3 p526 q526
                   obtain rfl : ad521 = ad526 := (by injection e526)
                   replace p526 := eq_true p526
                   replace q526 := eq_true q526
                   refine start_ (n := 21) (S := fun w' => w'.cell? (ad521.add (x515000_3).toNat) = some (.int .i64 (rd x7_2 x515000_3)) ∧ w'.cell? (ad521.add (x515001_3).toNat) = some (.int .i64 (rd x7_2 x515001_3)) ∧ w'.cell? (ad521.add (x515000_3).toNat) = some (.int .i64 (rd x7_2 x515000_3)) ∧ w'.cell? (ad521.add (x515001_3).toNat) = some (.int .i64 (rd x7_2 x515001_3))) (ds := []) #[F, F, F, F, F, F, F, F, F, F, F, F, F, F, F, F, F, F, F, F, F] (by kernel_rfl) rfl rfl ⟨hx523_0, hx524_0, hx525_0, hx526_0⟩ (fun hHeld => ?_); refine Qa1 Qae.tab26 Qae.bits26 (fun HT_ HW_ => ?_)
                   generalize w53.drew = w59 at HO_6 HO_7 BK514 HB hx523_0 hx524_0 hx525_0 hx526_0 hHeld ⊢
                   refine pure_ (i := 0) (N := some 110) (v := ?_) (a' := ?_) #[T, F, F, F, F, F, F, F, F, F, F, F, F, F, F, F, F, F, F, F, F] rfl rfl (any_of HT_.out (by kernel_rfl)) (fun _ _ _ h => h) (Or.inl ⟨by rfl, ?_⟩) ?_ ?_
                   rotate_left
                   ·intro w'
                    go_simp
                    with_reducible rfl
                   rotate_left
                   ·simp only [Act.put, Zj, Zk, Zm, i64_w, i32_w]
                    rfl
                   refine pure_ (i := 1) (N := some 111) (v := ?_) (a' := ?_) #[T, T, F, F, F, F, F, F, F, F, F, F, F, F, F, F, F, F, F, F, F] rfl rfl (any_of HT_.out (by kernel_rfl)) (fun _ _ _ h => h) (Or.inl ⟨by rfl, ?_⟩) ?_ ?_
                   rotate_left
                   ·intro w'
                    go_simp
                    with_reducible rfl
                   rotate_left
                   ·simp only [Act.put, Zj, Zk, Zm, i64_w, i32_w]
                    rfl
                   refine take_ (i := 2) (N := some 112) (v := ?_) (a' := ?_) #[T, T, T, F, F, F, F, F, F, F, F, F, F, F, F, F, F, F, F, F, F] rfl rfl (QaH HT_.out HW_.out (by kernel_rfl)) (fun _ _ _ h => h) (Or.inl ⟨by rfl, ?_⟩) hHeld ?_ ?_
                   rotate_left
                   ·rintro w' ⟨s0, s1, s2, s3⟩
                    go_simp
                    with_reducible rfl
                   rotate_left
                   ·simp only [Act.put, Zj, Zk, Zm, i64_w, i32_w]
                    rfl
                   refine pure_ (i := 3) (N := some 113) (v := ?_) (a' := ?_) #[T, T, T, T, F, F, F, F, F, F, F, F, F, F, F, F, F, F, F, F, F] rfl rfl (any_of HT_.out (by kernel_rfl)) (fun _ _ _ h => h) (Or.inl ⟨by rfl, ?_⟩) ?_ ?_
                   rotate_left
                   ·intro w'
                    go_simp
                    with_reducible rfl
                   rotate_left
                   ·simp only [Act.put, Zj, Zk, Zm, i64_w, i32_w]
                    rfl
                   refine pure_ (i := 4) (N := some 114) (v := ?_) (a' := ?_) #[T, T, T, T, T, F, F, F, F, F, F, F, F, F, F, F, F, F, F, F, F] rfl rfl (any_of HT_.out (by kernel_rfl)) (fun _ _ _ h => h) (Or.inl ⟨by rfl, ?_⟩) ?_ ?_
                   rotate_left
                   ·intro w'
                    go_simp
                    with_reducible rfl
                   rotate_left
                   ·simp only [Act.put, Zj, Zk, Zm, i64_w, i32_w]
                    rfl
                   refine pure_ (i := 5) (N := some 115) (v := ?_) (a' := ?_) #[T, T, T, T, T, T, F, F, F, F, F, F, F, F, F, F, F, F, F, F, F] rfl rfl (any_of HT_.out (by kernel_rfl)) (fun _ _ _ h => h) (Or.inl ⟨by rfl, ?_⟩) ?_ ?_
                   rotate_left
                   ·intro w'
                    go_simp
                    with_reducible rfl
                   rotate_left
                   ·simp only [Act.put, Zj, Zk, Zm, i64_w, i32_w]
                    rfl
                   refine pure_ (i := 6) (N := some 116) (v := ?_) (a' := ?_) #[T, T, T, T, T, T, T, F, F, F, F, F, F, F, F, F, F, F, F, F, F] rfl rfl (any_of HT_.out (by kernel_rfl)) (fun _ _ _ h => h) (Or.inl ⟨by rfl, ?_⟩) ?_ ?_
                   rotate_left
                   ·intro w'
                    go_simp
                    with_reducible rfl
                   rotate_left
                   ·simp only [Act.put, Zj, Zk, Zm, i64_w, i32_w]
                    rfl
                   refine take_ (i := 7) (N := some 117) (v := ?_) (a' := ?_) #[T, T, T, T, T, T, T, T, F, F, F, F, F, F, F, F, F, F, F, F, F] rfl rfl (QaH HT_.out HW_.out (by kernel_rfl)) (fun _ _ _ h => h) (Or.inl ⟨by rfl, ?_⟩) hHeld ?_ ?_
                   rotate_left
                   ·rintro w' ⟨s0, s1, s2, s3⟩
                    go_simp
                    with_reducible rfl
                   rotate_left
                   ·simp only [Act.put, Zj, Zk, Zm, i64_w, i32_w]
                    rfl
                   refine pure_ (i := 8) (N := some 118) (v := ?_) (a' := ?_) #[T, T, T, T, T, T, T, T, T, F, F, F, F, F, F, F, F, F, F, F, F] rfl rfl (any_of HT_.out (by kernel_rfl)) (fun _ _ _ h => h) (Or.inl ⟨by rfl, ?_⟩) ?_ ?_
                   rotate_left
                   ·intro w'
                    go_simp
                    with_reducible rfl
                   rotate_left
                   ·simp only [Act.put, Zj, Zk, Zm, i64_w, i32_w]
                    rfl
                   refine pure_ (i := 9) (N := some 119) (v := ?_) (a' := ?_) #[T, T, T, T, T, T, T, T, T, T, F, F, F, F, F, F, F, F, F, F, F] rfl rfl (any_of HT_.out (by kernel_rfl)) (fun _ _ _ h => h) (Or.inl ⟨by rfl, ?_⟩) ?_ ?_
                   rotate_left
                   ·intro w'
                    go_simp
                    with_reducible rfl
                   rotate_left
                   ·simp only [Act.put, Zj, Zk, Zm, i64_w, i32_w]
                    rfl
                   refine pure_ (i := 10) (N := some 120) (v := ?_) (a' := ?_) #[T, T, T, T, T, T, T, T, T, T, T, F, F, F, F, F, F, F, F, F, F] rfl rfl (any_of HT_.out (by kernel_rfl)) (fun _ _ _ h => h) (Or.inl ⟨by rfl, ?_⟩) ?_ ?_
                   rotate_left
                   ·intro w'
                    go_simp
                    with_reducible rfl
                   rotate_left
                   ·simp only [Act.put, Zj, Zk, Zm, i64_w, i32_w]
                    rfl
                   refine pure_ (i := 11) (N := some 121) (v := ?_) (a' := ?_) #[T, T, T, T, T, T, T, T, T, T, T, T, F, F, F, F, F, F, F, F, F] rfl rfl (any_of HT_.out (by kernel_rfl)) (fun _ _ _ h => h) (Or.inl ⟨by rfl, ?_⟩) ?_ ?_
                   rotate_left
                   ·intro w'
                    go_simp
                    with_reducible rfl
                   rotate_left
                   ·simp only [Act.put, Zj, Zk, Zm, i64_w, i32_w]
                    rfl
                   refine pure_ (i := 12) (N := some 122) (v := ?_) (a' := ?_) #[T, T, T, T, T, T, T, T, T, T, T, T, T, F, F, F, F, F, F, F, F] rfl rfl (any_of HT_.out (by kernel_rfl)) (fun _ _ _ h => h) (Or.inl ⟨by rfl, ?_⟩) ?_ ?_
                   rotate_left
                   ·intro w'
                    go_simp
                    with_reducible rfl
                   rotate_left
                   ·simp only [Act.put, Zj, Zk, Zm, i64_w, i32_w]
                    rfl
                   refine pure_ (i := 15) (N := some 125) (v := ?_) (a' := ?_) #[T, T, T, T, T, T, T, T, T, T, T, T, T, F, F, T, F, F, F, F, F] rfl rfl (any_of HT_.out (by kernel_rfl)) (fun _ _ _ h => h) (Or.inl ⟨by rfl, ?_⟩) ?_ ?_
                   rotate_left
                   ·intro w'
                    go_simp
                    with_reducible rfl
                   rotate_left
                   ·simp only [Act.put, Zj, Zk, Zm, i64_w, i32_w]
                    rfl
                   refine pure_ (i := 16) (N := some 126) (v := ?_) (a' := ?_) #[T, T, T, T, T, T, T, T, T, T, T, T, T, F, F, T, T, F, F, F, F] rfl rfl (any_of HT_.out (by kernel_rfl)) (fun _ _ _ h => h) (Or.inl ⟨by rfl, ?_⟩) ?_ ?_
                   rotate_left
                   ·intro w'
                    go_simp
                    with_reducible rfl
                   rotate_left
                   ·simp only [Act.put, Zj, Zk, Zm, i64_w, i32_w]
                    rfl
                   refine take_ (i := 13) (N := some 123) (v := ?_) (a' := ?_) #[T, T, T, T, T, T, T, T, T, T, T, T, T, T, F, T, T, F, F, F, F] rfl rfl (QaH HT_.out HW_.out (by kernel_rfl)) (fun _ _ _ h => h) (Or.inl ⟨by rfl, ?_⟩) hHeld ?_ ?_
                   rotate_left
                   ·rintro w' ⟨s0, s1, s2, s3⟩
                    go_simp
                    with_reducible rfl
                   rotate_left
                   ·simp only [Act.put, Zj, Zk, Zm, i64_w, i32_w]
                    rfl
                   refine pure_ (i := 14) (N := some 124) (v := ?_) (a' := ?_) #[T, T, T, T, T, T, T, T, T, T, T, T, T, T, T, T, T, F, F, F, F] rfl rfl (any_of HT_.out (by kernel_rfl)) (fun _ _ _ h => h) (Or.inl ⟨by rfl, ?_⟩) ?_ ?_
                   rotate_left
                   ·intro w'
                    go_simp
                    with_reducible rfl
                   rotate_left
                   ·simp only [Act.put, Zj, Zk, Zm, i64_w, i32_w]
                    rfl
                   refine take_ (i := 17) (N := some 127) (v := ?_) (a' := ?_) #[T, T, T, T, T, T, T, T, T, T, T, T, T, T, T, T, T, T, F, F, F] rfl rfl (QaH HT_.out HW_.out (by kernel_rfl)) (fun _ _ _ h => h) (Or.inl ⟨by rfl, ?_⟩) hHeld ?_ ?_
                   rotate_left
                   ·rintro w' ⟨s0, s1, s2, s3⟩
                    go_simp
                    with_reducible rfl
                   rotate_left
                   ·simp only [Act.put, Zj, Zk, Zm, i64_w, i32_w]
                    rfl
                   refine pure_ (i := 18) (N := some 128) (v := ?_) (a' := ?_) #[T, T, T, T, T, T, T, T, T, T, T, T, T, T, T, T, T, T, T, F, F] rfl rfl (any_of HT_.out (by kernel_rfl)) (fun _ _ _ h => h) (Or.inl ⟨by rfl, ?_⟩) ?_ ?_
                   rotate_left
                   ·intro w'
                    go_simp
                    with_reducible rfl
                   rotate_left
                   ·simp only [Act.put, Zj, Zk, Zm, i64_w, i32_w]
                    rfl
                   refine pure_ (i := 19) (N := some 129) (v := ?_) (a' := ?_) #[T, T, T, T, T, T, T, T, T, T, T, T, T, T, T, T, T, T, T, T, F] rfl rfl (any_of HT_.out (by kernel_rfl)) (fun _ _ _ h => h) (Or.inl ⟨by rfl, ?_⟩) ?_ ?_
                   rotate_left
                   ·intro w'
                    go_simp
                    with_reducible rfl
                   rotate_left
                   ·simp only [Act.put, Zj, Zk, Zm, i64_w, i32_w]
                    rfl
                   refine pure_ (i := 20) (N := some 130) (v := ?_) (a' := ?_) #[T, T, T, T, T, T, T, T, T, T, T, T, T, T, T, T, T, T, T, T, T] rfl rfl (any_of HT_.out (by kernel_rfl)) (fun _ _ _ h => h) (Or.inl ⟨by rfl, ?_⟩) ?_ ?_
                   rotate_left
                   ·intro w'
                    go_simp
                    with_reducible rfl
                   rotate_left
                   ·simp only [Act.put, Zj, Zk, Zm, i64_w, i32_w]
                    rfl
                   refine done_ (Qa5 HT_.out (by kernel_rfl)) ?_
                   try go_wp2
                   go_meet
                   case rel => exact ⟨_, (((decide ((rd x7_2 x515000_3) > 0)) == (decide ((rd x7_2 x515001_3) > 0)))), (Zs2), H', ⟨by have := HK1.out; have := HK2.out; have := HK3.out; first | omega | exact Nat.le_refl _⟩, ⟨Zr HO_6.out⟩, ⟨Zr HO_7.out⟩, ⟨Zu BK514.out⟩, ⟨Zc1 GE514.out⟩⟩
                  case rest =>
                   clear HC52
                   try clear p2
                   try clear c5
                   try clear p5
                   try clear q5
                   try clear hx5
                   try clear p52
                   try clear q52
                   try clear hx52
                   try clear c55
                   try clear c55b0
                   try clear c55b1
                   try clear c57
                   try clear c57b0
                   try clear c57b1
                   try clear hx523_0
                   try clear hx524_0
                   try clear hx525_0
                   try clear hx526_0
                   try clear p523
                   try clear p524
                   try clear p525
                   try clear p526
                   try clear q523
                   try clear q524
                   try clear q525
                   try clear q526
                   obtain ⟨kq, x130_51, rfl, HA, HJ51, HO_6, HO_7, BK514, HB⟩ := hcut
                   cases kq with
                   | zero => exact absurd HA.out (by simp [Qae.j3])
                   | succ kj51 =>
                    have H := HA.out
                    clear HA
                    simp only [Qae.j3] at H
                    by_cases c60 : x130_51 = T
                    ·subst c60
                     have H1 : (Qae.l1 kj51 l0 l2 x6_2 x7_2 (l2.length : Int) (wrap64 (x72_2 + 1))) = some (r1, r2, r3) := by rw [if_pos rfl] at H; exact H
                     clear H
                     have H := H1
                     clear H1
                     have H' := Aside0.mk H
                     clear H
                     go_wp2
                     go_roundg kj51
                     case measure => have := HK1.out; have := HK2.out; have := HK3.out; have := HJ51.out; omega
                     case rel => exact ⟨(x6_2), (x7_2), (wrap64 (x72_2 + 1)), (Zs2), H', ⟨by have := HK1.out; have := HK2.out; have := HK3.out; have := HJ51.out; omega⟩, ⟨Zr HO_6.out⟩, ⟨Zr HO_7.out⟩, ⟨Zc1 GE514.out⟩⟩
                    replace c60 := Bool.eq_false_iff.mpr c60
                    subst c60
                    have H1 : (if 0 ≤ x515000_3 then (if x515000_3 < (x7_2.length : Int) then ((Qa6.f (rd x7_2 x515000_3)).bind fun t528 => (if 0 ≤ x515001_3 then (if x515001_3 < (x7_2.length : Int) then ((Qa6.f (rd x7_2 x515001_3)).bind fun t530 => (if (rd x7_2 x515000_3) < 0 then ((some (x7_2.set (x515001_3 : Int).toNat (wrap64 ((rd x7_2 x515001_3) - (wrap64 ((wrap64 (Int.tdiv (mn t528 t530) 1000)) * 1000)))) : List Int)).bind fun y533 => (if 0 ≤ x72_2 then (if x72_2 < (x6_2.length : Int) then (Qae.l1 kj51 l0 l2 (x6_2.set (x72_2 : Int).toNat (wrap64 (Int.tdiv (mn t528 t530) 1000))) (y533.set (x515000_3 : Int).toNat (wrap64 ((rd y533 x515000_3) + (wrap64 ((wrap64 (Int.tdiv (mn t528 t530) 1000)) * 1000))))) (l2.length : Int) (wrap64 (x72_2 + 1))) else (none)) else (none))) else ((some (x7_2.set (x515000_3 : Int).toNat (wrap64 ((rd x7_2 x515000_3) - (wrap64 ((wrap64 (Int.tdiv (mn t528 t530) 1000)) * 1000)))) : List Int)).bind fun y538 => (if 0 ≤ x72_2 then (if x72_2 < (x6_2.length : Int) then (Qae.l1 kj51 l0 l2 (x6_2.set (x72_2 : Int).toNat (wrap64 (Int.tdiv (mn t528 t530) 1000))) (y538.set (x515001_3 : Int).toNat (wrap64 ((rd y538 x515001_3) + (wrap64 ((wrap64 (Int.tdiv (mn t528 t530) 1000)) * 1000))))) (l2.length : Int) (wrap64 (x72_2 + 1))) else (none)) else (none))))) else (none)) else (none))) else (none)) else (none)) = some (r1, r2, r3) := by rw [if_neg (show ¬ (F = T) by decide)] at H; exact H
                    clear H
                    have H := H1
                    clear H1
                    by_cases c61 : 0 ≤ x515000_3
                    ·rw [if_pos c61] at H
                     have c61b0 : decide (0 ≤ x515000_3) = T := decide_eq_true c61
                     clear c61
                     (try simp only [c61b0])
                     by_cases c62 : x515000_3 < (x7_2.length : Int)
                     ·rw [if_pos c62] at H
                      have c62b0 : decide (x515000_3 < (x7_2.length : Int)) = T := decide_eq_true c62
                      clear c62
                      replace H := Option.bind_eq_some_iff.mp H
                      obtain ⟨t528, A630, H⟩ := H
                      replace H : (if 0 ≤ x515001_3 then (if x515001_3 < (x7_2.length : Int) then ((Qa6.f (rd x7_2 x515001_3)).bind fun t530 => (if (rd x7_2 x515000_3) < 0 then ((some (x7_2.set (x515001_3 : Int).toNat (wrap64 ((rd x7_2 x515001_3) - (wrap64 ((wrap64 (Int.tdiv (mn t528 t530) 1000)) * 1000)))) : List Int)).bind fun y533 => (if 0 ≤ x72_2 then (if x72_2 < (x6_2.length : Int) then (Qae.l1 kj51 l0 l2 (x6_2.set (x72_2 : Int).toNat (wrap64 (Int.tdiv (mn t528 t530) 1000))) (y533.set (x515000_3 : Int).toNat (wrap64 ((rd y533 x515000_3) + (wrap64 ((wrap64 (Int.tdiv (mn t528 t530) 1000)) * 1000))))) (l2.length : Int) (wrap64 (x72_2 + 1))) else (none)) else (none))) else ((some (x7_2.set (x515000_3 : Int).toNat (wrap64 ((rd x7_2 x515000_3) - (wrap64 ((wrap64 (Int.tdiv (mn t528 t530) 1000)) * 1000)))) : List Int)).bind fun y538 => (if 0 ≤ x72_2 then (if x72_2 < (x6_2.length : Int) then (Qae.l1 kj51 l0 l2 (x6_2.set (x72_2 : Int).toNat (wrap64 (Int.tdiv (mn t528 t530) 1000))) (y538.set (x515001_3 : Int).toNat (wrap64 ((rd y538 x515001_3) + (wrap64 ((wrap64 (Int.tdiv (mn t528 t530) 1000)) * 1000))))) (l2.length : Int) (wrap64 (x72_2 + 1))) else (none)) else (none))))) else (none)) else (none)) = some (r1, r2, r3) := H
                      have A63 := Aside0.mk A630
                      clear A630
                      by_cases c64 : 0 ≤ x515001_3
                      ·rw [if_pos c64] at H
                       have c64b0 : decide (0 ≤ x515001_3) = T := decide_eq_true c64
                       clear c64
                       by_cases c65 : x515001_3 < (x7_2.length : Int)
                       ·rw [if_pos c65] at H
                        have c65b0 : decide (x515001_3 < (x7_2.length : Int)) = T := decide_eq_true c65
                        clear c65
                        replace H := Option.bind_eq_some_iff.mp H
                        obtain ⟨t530, A660, H⟩ := H
                        replace H : (if (rd x7_2 x515000_3) < 0 then ((some (x7_2.set (x515001_3 : Int).toNat (wrap64 ((rd x7_2 x515001_3) - (wrap64 ((wrap64 (Int.tdiv (mn t528 t530) 1000)) * 1000)))) : List Int)).bind fun y533 => (if 0 ≤ x72_2 then (if x72_2 < (x6_2.length : Int) then (Qae.l1 kj51 l0 l2 (x6_2.set (x72_2 : Int).toNat (wrap64 (Int.tdiv (mn t528 t530) 1000))) (y533.set (x515000_3 : Int).toNat (wrap64 ((rd y533 x515000_3) + (wrap64 ((wrap64 (Int.tdiv (mn t528 t530) 1000)) * 1000))))) (l2.length : Int) (wrap64 (x72_2 + 1))) else (none)) else (none))) else ((some (x7_2.set (x515000_3 : Int).toNat (wrap64 ((rd x7_2 x515000_3) - (wrap64 ((wrap64 (Int.tdiv (mn t528 t530) 1000)) * 1000)))) : List Int)).bind fun y538 => (if 0 ≤ x72_2 then (if x72_2 < (x6_2.length : Int) then (Qae.l1 kj51 l0 l2 (x6_2.set (x72_2 : Int).toNat (wrap64 (Int.tdiv (mn t528 t530) 1000))) (y538.set (x515001_3 : Int).toNat (wrap64 ((rd y538 x515001_3) + (wrap64 ((wrap64 (Int.tdiv (mn t528 t530) 1000)) * 1000))))) (l2.length : Int) (wrap64 (x72_2 + 1))) else (none)) else (none)))) = some (r1, r2, r3) := H
                        have A66 := Aside0.mk A660
                        clear A660
                        obtain ⟨ji67, hji67⟩ : ∃ j_ : Int, (mn t528 t530) = j_ := ⟨_, rfl⟩
                        replace H : (if (rd x7_2 x515000_3) < 0 then ((some (x7_2.set (x515001_3 : Int).toNat (wrap64 ((rd x7_2 x515001_3) - (wrap64 ((wrap64 (Int.tdiv (ji67) 1000)) * 1000)))) : List Int)).bind fun y533 => (if 0 ≤ x72_2 then (if x72_2 < (x6_2.length : Int) then (Qae.l1 kj51 l0 l2 (x6_2.set (x72_2 : Int).toNat (wrap64 (Int.tdiv (ji67) 1000))) (y533.set (x515000_3 : Int).toNat (wrap64 ((rd y533 x515000_3) + (wrap64 ((wrap64 (Int.tdiv (ji67) 1000)) * 1000))))) (l2.length : Int) (wrap64 (x72_2 + 1))) else (none)) else (none))) else ((some (x7_2.set (x515000_3 : Int).toNat (wrap64 ((rd x7_2 x515000_3) - (wrap64 ((wrap64 (Int.tdiv (ji67) 1000)) * 1000)))) : List Int)).bind fun y538 => (if 0 ≤ x72_2 then (if x72_2 < (x6_2.length : Int) then (Qae.l1 kj51 l0 l2 (x6_2.set (x72_2 : Int).toNat (wrap64 (Int.tdiv (ji67) 1000))) (y538.set (x515001_3 : Int).toNat (wrap64 ((rd y538 x515001_3) + (wrap64 ((wrap64 (Int.tdiv (ji67) 1000)) * 1000))))) (l2.length : Int) (wrap64 (x72_2 + 1))) else (none)) else (none)))) = some (r1, r2, r3) := by first | (rw [hji67] at H; exact H) | (simp only [hji67] at H ⊢; exact H)
                        (try rw [hji67] at A63)
                        (try rw [hji67] at A66)
                        have hji67_ : (if t530 < t528 then t530 else t528) = ji67 := hji67
                        try go_wp2
                        replace HO_6 := Aside0.mk (Kd.R_drew HO_6.out)
                        replace HO_7 := Aside0.mk (Kd.R_drew HO_7.out)
                        replace BK514 := Aside0.mk (QaM BK514.out)
                        replace HB := Aside0.mk (Qab HB.out)
                        have p527 : 0 ≤ (x515000_3 : Int) := Ze
                        have q527 : x515000_3 < (x7_2.length : Int) := Ze
                        obtain ⟨ad527, e527, hx527_0⟩ := Kd.at_int (Kd.R_reads' HO_7.out).2.2 x515000_3 p527 q527
                        obtain rfl : ad521 = ad527 := (by injection e527)
                        replace p527 := eq_true p527
                        replace q527 := eq_true q527
                        have p529 : 0 ≤ (x515001_3 : Int) := Ze
                        have q529 : x515001_3 < (x7_2.length : Int) := Ze
                        obtain ⟨ad529, e529, hx529_0⟩ := Kd.at_int (Kd.R_reads' HO_7.out).2.2 x515001_3 p529 q529
                        obtain rfl : ad521 = ad529 := (by injection e529)
                        replace p529 := eq_true p529
                        replace q529 := eq_true q529
                        refine start_ (n := 11) (S := fun w' => w'.cell? (ad521.add (x515000_3).toNat) = some (.int .i64 (rd x7_2 x515000_3)) ∧ w'.cell? (ad521.add (x515001_3).toNat) = some (.int .i64 (rd x7_2 x515001_3))) (ds := []) #[F, F, F, F, F, F, F, F, F, F, F] (by kernel_rfl) rfl rfl ⟨hx527_0, hx529_0⟩ (fun hHeld => ?_); refine Qa1 Qae.tab27 Qae.bits27 (fun HT_ HW_ => ?_)
                        generalize wc.drew = w68 at HO_6 HO_7 BK514 HB hx527_0 hx529_0 hHeld ⊢
                        refine pure_ (i := 0) (N := some 131) (v := ?_) (a' := ?_) #[T, F, F, F, F, F, F, F, F, F, F] rfl rfl (any_of HT_.out (by kernel_rfl)) (fun _ _ _ h => h) (Or.inl ⟨by rfl, ?_⟩) ?_ ?_
                        rotate_left
                        ·intro w'
                         go_simp
                         with_reducible rfl
                        rotate_left
                        ·simp only [Act.put, Zj, Zk, Zm, i64_w, i32_w]
                         rfl
                        refine pure_ (i := 1) (N := some 132) (v := ?_) (a' := ?_) #[T, T, F, F, F, F, F, F, F, F, F] rfl rfl (any_of HT_.out (by kernel_rfl)) (fun _ _ _ h => h) (Or.inl ⟨by rfl, ?_⟩) ?_ ?_
                        rotate_left
                        ·intro w'
                         go_simp
                         with_reducible rfl
                        rotate_left
                        ·simp only [Act.put, Zj, Zk, Zm, i64_w, i32_w]
                         rfl
                        refine pure_ (i := 4) (N := some 135) (v := ?_) (a' := ?_) #[T, T, F, F, T, F, F, F, F, F, F] rfl rfl (any_of HT_.out (by kernel_rfl)) (fun _ _ _ h => h) (Or.inl ⟨by rfl, ?_⟩) ?_ ?_
                        rotate_left
                        ·intro w'
                         go_simp
                         with_reducible rfl
                        rotate_left
                        ·simp only [Act.put, Zj, Zk, Zm, i64_w, i32_w]
                         rfl
                        refine pure_ (i := 5) (N := some 136) (v := ?_) (a' := ?_) #[T, T, F, F, T, T, F, F, F, F, F] rfl rfl (any_of HT_.out (by kernel_rfl)) (fun _ _ _ h => h) (Or.inl ⟨by rfl, ?_⟩) ?_ ?_
                        rotate_left
                        ·intro w'
                         go_simp
                         with_reducible rfl
                        rotate_left
                        ·simp only [Act.put, Zj, Zk, Zm, i64_w, i32_w]
                         rfl
                        refine take_ (i := 2) (N := some 133) (v := ?_) (a' := ?_) #[T, T, T, F, T, T, F, F, F, F, F] rfl rfl (QaH HT_.out HW_.out (by kernel_rfl)) (fun _ _ _ h => h) (Or.inl ⟨by rfl, ?_⟩) hHeld ?_ ?_
                        rotate_left
                        ·rintro w' ⟨s0, s1⟩
                         go_simp
                         with_reducible rfl
                        rotate_left
                        ·simp only [Act.put, Zj, Zk, Zm, i64_w, i32_w]
                         rfl
                        refine take_ (i := 6) (N := some 137) (v := ?_) (a' := ?_) #[T, T, T, F, T, T, T, F, F, F, F] rfl rfl (QaH HT_.out HW_.out (by kernel_rfl)) (fun _ _ _ h => h) (Or.inl ⟨by rfl, ?_⟩) hHeld ?_ ?_
                        rotate_left
                        ·rintro w' ⟨s0, s1⟩
                         go_simp
                         with_reducible rfl
                        rotate_left
                        ·simp only [Act.put, Zj, Zk, Zm, i64_w, i32_w]
                         rfl
                        refine one_ (i := 3) (N := some 134) #[T, T, T, T, T, T, T, F, F, F, F] rfl rfl (one_of HT_.out (by kernel_rfl)) (by decide) (fun K hK => ?_)
                        refine goes_ Try.func63 (by kernel_rfl) rfl #[.int .i64 (rd x7_2 x515000_3)] (by rfl) rfl rfl (Zl) ?_
                        with_reducible refine (Qa6.calls (rd x7_2 x515000_3) t528 _ A63.out).mono ?_
                        rintro e w69 ⟨rfl, hb⟩
                        have HS0_ := (hb.cell (World.block_lt_of_cell? _ _ (hHeld.1))).trans (hHeld.1)
                        have HS1_ := (hb.cell (World.block_lt_of_cell? _ _ (hHeld.2))).trans (hHeld.2)
                        refine ⟨_, rfl, ?_⟩
                        replace HO_6 := Aside0.mk (Kd.R_below (Zr HO_6.out) hb)
                        replace HO_7 := Aside0.mk (Kd.R_below (Zr HO_7.out) hb)
                        replace BK514 := Aside0.mk (Zi BK514.out hb)
                        replace HB := Aside0.mk (Qax (Zc1 GE514.out) hb)
                        (try clear hb)
                        (try clear hb2)
                        (try clear hk)
                        (try clear hi)
                        refine hK.out _ _ ⟨HS0_, HS1_⟩ (fun hHeld => ?_)
                        clear hK K
                        refine norm_ (a' := ?_) ?_ ?_
                        rotate_left
                        ·show Act.put _ (some 134) _ = _
                         simp only [Act.put, Zj, Zk, Zm, i64_w, i32_w]
                         rfl
                        refine one_ (i := 7) (N := some 138) #[T, T, T, T, T, T, T, T, F, F, F] rfl rfl (one_of HT_.out (by kernel_rfl)) (by decide) (fun K hK => ?_)
                        refine goes_ Try.func63 (by kernel_rfl) rfl #[.int .i64 (rd x7_2 x515001_3)] (by rfl) rfl rfl (Zl) ?_
                        with_reducible refine (Qa6.calls (rd x7_2 x515001_3) t530 _ A66.out).mono ?_
                        rintro e w70 ⟨rfl, hb⟩
                        have HS0_ := (hb.cell (World.block_lt_of_cell? _ _ (hHeld.1))).trans (hHeld.1)
                        have HS1_ := (hb.cell (World.block_lt_of_cell? _ _ (hHeld.2))).trans (hHeld.2)
                        refine ⟨_, rfl, ?_⟩
                        replace HO_6 := Aside0.mk (Kd.R_below (Zr HO_6.out) hb)
                        replace HO_7 := Aside0.mk (Kd.R_below (Zr HO_7.out) hb)
                        replace BK514 := Aside0.mk (Zi BK514.out hb)
                        replace HB := Aside0.mk (Qax (Zc1 GE514.out) hb)
                        (try clear hb)
                        (try clear hb2)
                        (try clear hk)
                        (try clear hi)
                        refine hK.out _ _ ⟨HS0_, HS1_⟩ (fun hHeld => ?_)
                        clear hK K
                        refine norm_ (a' := ?_) ?_ ?_
                        rotate_left
                        ·show Act.put _ (some 138) _ = _
                         simp only [Act.put, Zj, Zk, Zm, i64_w, i32_w]
                         rfl
                        refine pure_ (i := 8) (N := some 139) (v := ?_) (a' := ?_) #[T, T, T, T, T, T, T, T, T, F, F] rfl rfl (any_of HT_.out (by kernel_rfl)) (fun _ _ _ h => h) (Or.inl ⟨by rfl, ?_⟩) ?_ ?_
                        rotate_left
                        ·intro w'
                         go_simp
                         with_reducible rfl
                        rotate_left
                        ·simp only [Act.put, Zj, Zk, Zm, i64_w, i32_w]
                         rfl
                        refine pure_ (i := 9) (N := some 140) (v := ?_) (a' := ?_) #[T, T, T, T, T, T, T, T, T, T, F] rfl rfl (any_of HT_.out (by kernel_rfl)) (fun _ _ _ h => h) (Or.inl ⟨by rfl, ?_⟩) ?_ ?_
                        rotate_left
                        ·intro w'
                         go_simp
                         with_reducible rfl
                        rotate_left
                        ·simp only [Act.put, Zj, Zk, Zm, i64_w, i32_w]
                         rfl
                        refine pure_ (i := 10) (N := some 18) (v := ?_) (a' := ?_) #[T, T, T, T, T, T, T, T, T, T, T] rfl rfl (any_of HT_.out (by kernel_rfl)) (fun _ _ _ h => h) (Or.inl ⟨by rfl, ?_⟩) ?_ ?_
                        rotate_left
                        ·intro w'
                         go_simp
                         with_reducible rfl
                        rotate_left
                        ·simp only [Act.put, Zj, Zk, Zm, i64_w, i32_w]
                         rfl
                        refine done_ (Qa5 HT_.out (by kernel_rfl)) ?_
                        have p531 : 0 ≤ (x515000_3 : Int) := Ze
                        have q531 : x515000_3 < (x7_2.length : Int) := Ze
                        obtain ⟨ad531, e531, hx531_0⟩ := Kd.at_int (Kd.R_reads' HO_7.out).2.2 x515000_3 p531 q531
                        obtain rfl : ad521 = ad531 := (by injection e531)
                        replace p531 := eq_true p531
                        replace q531 := eq_true q531
                        go_upto_if 144 with (fail)
                        by_cases c71 : (rd x7_2 x515000_3) < 0
                        ·rw [if_pos c71] at H
                         have c71b0 : decide ((rd x7_2 x515000_3) < 0) = T := decide_eq_true c71
                         clear c71
                         (try simp only [c71b0])
                         obtain ⟨y533, hy533⟩ : ∃ y_ : List Int, y_ = (x7_2.set (x515001_3 : Int).toNat (wrap64 ((rd x7_2 x515001_3) - (wrap64 ((wrap64 (Int.tdiv (ji67) 1000)) * 1000))))) := ⟨_, rfl⟩
                         replace H : (if 0 ≤ x72_2 then (if x72_2 < (x6_2.length : Int) then (Qae.l1 kj51 l0 l2 (x6_2.set (x72_2 : Int).toNat (wrap64 (Int.tdiv (ji67) 1000))) (y533.set (x515000_3 : Int).toNat (wrap64 ((rd y533 x515000_3) + (wrap64 ((wrap64 (Int.tdiv (ji67) 1000)) * 1000))))) (l2.length : Int) (wrap64 (x72_2 + 1))) else (none)) else (none)) = some (r1, r2, r3) := by first | (rw [hy533]; with_reducible exact H) | (have H2_ := (Option.bind_some _ _).symm.trans H; rw [hy533]; with_reducible exact H2_) | (have H2_ := (Option.bind_some _ _).symm.trans H; with_reducible exact H2_) | with_reducible exact H | (rw [hy533]; exact H) | exact H
                         have Ny533 := Aside0.mk hy533
                         clear hy533
                         obtain ⟨y535, hy535⟩ : ∃ y_ : List Int, y_ = (y533.set (x515000_3 : Int).toNat (wrap64 ((rd y533 x515000_3) + (wrap64 ((wrap64 (Int.tdiv (ji67) 1000)) * 1000))))) := ⟨_, rfl⟩
                         replace H : (if 0 ≤ x72_2 then (if x72_2 < (x6_2.length : Int) then (Qae.l1 kj51 l0 l2 (x6_2.set (x72_2 : Int).toNat (wrap64 (Int.tdiv (ji67) 1000))) y535 (l2.length : Int) (wrap64 (x72_2 + 1))) else (none)) else (none)) = some (r1, r2, r3) := by first | (rw [hy535]; with_reducible exact H) | (have H2_ := (Option.bind_some _ _).symm.trans H; rw [hy535]; with_reducible exact H2_) | (have H2_ := (Option.bind_some _ _).symm.trans H; with_reducible exact H2_) | with_reducible exact H | (rw [hy535]; exact H) | exact H
                         have Ny535 := Aside0.mk hy535
                         clear hy535
                         by_cases c74 : 0 ≤ x72_2
                         ·rw [if_pos c74] at H
                          have c74b0 : decide (0 ≤ x72_2) = T := decide_eq_true c74
                          clear c74
                          by_cases c75 : x72_2 < (x6_2.length : Int)
                          ·rw [if_pos c75] at H
                           have c75b0 : decide (x72_2 < (x6_2.length : Int)) = T := decide_eq_true c75
                           clear c75
                           obtain ⟨y536, hy536⟩ : ∃ y_ : List Int, y_ = (x6_2.set (x72_2 : Int).toNat (wrap64 (Int.tdiv (ji67) 1000))) := ⟨_, rfl⟩
                           replace H : (Qae.l1 kj51 l0 l2 y536 y535 (l2.length : Int) (wrap64 (x72_2 + 1))) = some (r1, r2, r3) := by first | (rw [hy536]; with_reducible exact H) | (have H2_ := (Option.bind_some _ _).symm.trans H; rw [hy536]; with_reducible exact H2_) | (have H2_ := (Option.bind_some _ _).symm.trans H; with_reducible exact H2_) | with_reducible exact H | (rw [hy536]; exact H) | exact H
                           have Ny536 := Aside0.mk hy536
                           clear hy536
                           have H' := Aside0.mk H
                           clear H
                           have p532 : 0 ≤ (x515001_3 : Int) := Ze
                           have q532 : x515001_3 < (x7_2.length : Int) := Ze
                           obtain ⟨ad532, e532, hx532_0⟩ := Kd.at_int (Kd.R_reads' HO_7.out).2.2 x515001_3 p532 q532
                           obtain rfl : ad521 = ad532 := (by injection e532)
                           replace p532 := eq_true p532
                           replace q532 := eq_true q532
                           have p72 : 0 ≤ (x515001_3 : Int) := Ze
                           have q72 : (x515001_3 : Int) < ((x7_2.length : Int) : Int) := Ze
                           obtain ⟨go72, co72, eo72, gb72, gl72, cl72, HG72⟩ := Kd.R_form HO_7.out (by omega)
                           (first | cases eo72 | (injection eo72 with ea_ en_ ec_; (first | subst ea_ | (injection ea_ with ea_; subst ea_)); subst ec_; clear en_))
                           have GB72 := Aside0.mk gb72
                           have GG72 := Aside0.mk HG72
                           clear gb72 gl72 HG72
                           (first | simp only [Qa0] at hx521_0 | skip)
                           (first | simp only [Qa0] at hx522_0 | skip)
                           (first | simp only [Qa0] at hx523_0 | skip)
                           (first | simp only [Qa0] at hx524_0 | skip)
                           (first | simp only [Qa0] at hx525_0 | skip)
                           (first | simp only [Qa0] at hx526_0 | skip)
                           (first | simp only [Qa0] at hx527_0 | skip)
                           (first | simp only [Qa0] at hx529_0 | skip)
                           (first | simp only [Qa0] at hx531_0 | skip)
                           (first | simp only [Qa0] at hx532_0 | skip)
                           obtain ⟨hx72_0, hf72_0⟩ := Kd.R_celln 0 HO_7.out (x515001_3 : Int) p72 q72
                           replace p72 := eq_true p72
                           replace q72 := eq_true q72
                           have HP77 := Kd.R_putg HO_7.out (x515001_3 : Int) (wrap64 ((rd x7_2 x515001_3) - (wrap64 ((wrap64 (Int.tdiv (ji67) 1000)) * 1000))))
                           go_wp2_with (first | ((with_reducible refine Qbl (t := 3) (p := 153) rfl ?_); refine Qbe (t := 3) (p := 153) (v := ?vo_w78) (w1 := (w70.setCell ⟨go72, (x515001_3 : Int).toNat, none⟩ (.int .i64 (wrap64 ((rd x7_2 x515001_3) - (wrap64 ((wrap64 (Int.tdiv (ji67) 1000)) * 1000))))))) ?hg ?ho ?hn ?hr ?_; (case ho => rfl); (case hg => rfl); (case hn => rfl); (case hr => first | (go_simp; done) | (go_simp; rfl)); intro w78 hw; have hg : w70.grownBy w78 (some go72) := (by rw [hw]; exact HP77.2); have hp_ : Kd.R (Kd.int .i64) 3 w78 w.heap.size (fun k_ => some k_ ≠ (v512 : Value).ownBlock) (.slice (some ⟨go72, 0, none⟩) x7_2.length co54) y533 := (by rw [hw, Ny533.out]; exact HP77.1); clear HP77; replace HO_6 := Aside0.mk (Kd.R_after (v := (.slice (some ⟨go72, 0, none⟩) x7_2.length co54)) (v1 := (.slice (some ⟨go72, 0, none⟩) x7_2.length co54)) (ok := (fun _ => True)) (by (with_reducible repeat (first | apply Kd.R_alloc | apply Kd.R_drewN | apply Kd.R_drew)); exact Kd.R_mono HO_6.out (fun _ hk => ⟨trivial, hk⟩)) hg (.inl rfl)); replace BK514 := Aside0.mk (Qbw (g := gb514) (o := .cells #[.int .i64 x515000_3, .int .i64 x515001_3] 94 (0, 0)) (Zu BK514.out) hg (Kd.R_ne HO_7.out BK514.out (by decide))); replace HO_7 := Aside0.mk (hp_); replace HB := Aside0.mk ((by rw [hw]; exact QaQ (HB.out) GB72.out : Below w.heap.size w w78)); clear hg hw hp_; have p534 : 0 ≤ (x515000_3 : Int) := Ze; have q534 : x515000_3 < (y533.length : Int) := (by have h_ : (x515000_3 : Int) < ((x7_2.length : Int) : Int) := Ze; first | (have e_ := (Kd.R_reads' HO_7.out).1; omega) | simpa only [Ny533.out, List.length_set] using h_); have ql534 : ((x515000_3 : Int) < ((x7_2.length : Int) : Int)) = True := eq_true (Ze); obtain ⟨ad534, e534, hx534_0⟩ := Kd.at_int (Kd.R_reads' HO_7.out).2.2 x515000_3 p534 q534; obtain rfl : (⟨go72, 0, none⟩ : Addr) = ad534 := (by injection e534); (first | simp only [Qa0] at hx534_0 | simp only [add_at] at hx534_0 | simp only [Addr.add, Nat.zero_add] at hx534_0 | skip); replace p534 := eq_true p534; replace q534 := eq_true q534; have p73 : 0 ≤ (x515000_3 : Int) := Ze; have q73 : (x515000_3 : Int) < ((x7_2.length : Int) : Int) := Ze; obtain ⟨hx73_0, hf73_0⟩ := Kd.R_celln 0 HO_7.out (x515000_3 : Int) p73 q73; replace p73 := eq_true p73; replace q73 := eq_true q73; obtain ⟨hy79_, hz79_⟩ := Kd.R_celln 0 HO_7.out (x515000_3 : Int) (Ze) (Ze); have HP79 := Kd.R_putg HO_7.out (x515000_3 : Int) (wrap64 ((rd y533 x515000_3) + (wrap64 ((wrap64 (Int.tdiv (ji67) 1000)) * 1000))))) | ((with_reducible refine Qbl (t := 3) (p := 160) rfl ?_); refine Qbe (t := 3) (p := 160) (v := ?vo_w80) (w1 := (w78.setCell ⟨go72, (x515000_3 : Int).toNat, none⟩ (.int .i64 (wrap64 ((rd y533 x515000_3) + (wrap64 ((wrap64 (Int.tdiv (ji67) 1000)) * 1000))))))) ?hg ?ho ?hn ?hr ?_; (case ho => rfl); (case hg => rfl); (case hn => rfl); (case hr => first | (go_simp; done) | (go_simp; rfl)); intro w80 hw; have hg : w78.grownBy w80 (some go72) := (by rw [hw]; exact HP79.2); have hp_ : Kd.R (Kd.int .i64) 3 w80 w.heap.size (fun k_ => some k_ ≠ (v512 : Value).ownBlock) (.slice (some ⟨go72, 0, none⟩) x7_2.length co54) y535 := (by rw [hw, Ny535.out]; exact HP79.1); clear HP79; replace HO_6 := Aside0.mk (Kd.R_after (v := (.slice (some ⟨go72, 0, none⟩) x7_2.length co54)) (v1 := (.slice (some ⟨go72, 0, none⟩) x7_2.length co54)) (ok := (fun _ => True)) (Zr HO_6.out) hg (.inl rfl)); replace BK514 := Aside0.mk (Qbw (g := gb514) (o := .cells #[.int .i64 x515000_3, .int .i64 x515001_3] 94 (0, 0)) (Zu BK514.out) hg (Kd.R_ne HO_7.out BK514.out (by decide))); replace HO_7 := Aside0.mk (hp_); replace HB := Aside0.mk ((by rw [hw]; exact QaQ (HB.out) GB72.out : Below w.heap.size w w80)); clear hg hw hp_; have p76 : 0 ≤ (x72_2 : Int) := Ze; have q76 : (x72_2 : Int) < ((x6_2.length : Int) : Int) := Ze; obtain ⟨go76, co76, eo76, gb76, gl76, cl76, HG76⟩ := Kd.R_form HO_6.out (by omega); (first | cases eo76 | (injection eo76 with ea_ en_ ec_; (first | subst ea_ | (injection ea_ with ea_; subst ea_)); subst ec_; clear en_)); have GB76 := Aside0.mk gb76; have GG76 := Aside0.mk HG76; clear gb76 gl76 HG76; obtain ⟨hx76_0, hf76_0⟩ := Kd.R_celln 0 HO_6.out (x72_2 : Int) p76 q76; replace p76 := eq_true p76; replace q76 := eq_true q76; have n_ := Aside0.mk (Kd.R_mono (ok' := (fun k_ => some k_ ≠ (.slice (some ⟨go72, 0, none⟩) x7_2.length co54 : Value).ownBlock)) HO_6.out (fun k_ hk => hk.2)); clear HO_6; have HO_6 := n_; clear n_; obtain ⟨hy81_, hz81_⟩ := Kd.R_celln 0 HO_6.out (x72_2 : Int) (Ze) (Ze); have HP81 := Kd.R_putg HO_6.out (x72_2 : Int) (wrap64 (Int.tdiv (ji67) 1000))) | ((with_reducible refine Qbl (t := 3) (p := 164) rfl ?_); refine Qbe (t := 3) (p := 164) (v := ?vo_w82) (w1 := (w80.setCell ⟨go76, (x72_2 : Int).toNat, none⟩ (.int .i64 (wrap64 (Int.tdiv (ji67) 1000))))) ?hg ?ho ?hn ?hr ?_; (case ho => rfl); (case hg => rfl); (case hn => rfl); (case hr => first | (go_simp; done) | (go_simp; rfl)); intro w82 hw; have hg : w80.grownBy w82 (some go76) := (by rw [hw]; exact HP81.2); have hp_ : Kd.R (Kd.int .i64) 3 w82 w.heap.size (fun k_ => some k_ ≠ (.slice (some ⟨go72, 0, none⟩) x7_2.length co54 : Value).ownBlock) (.slice (some ⟨go76, 0, none⟩) x6_2.length co76) y536 := (by rw [hw, Ny536.out]; exact HP81.1); clear HP81; replace HO_7 := Aside0.mk (Kd.R_after (v := (.slice (some ⟨go76, 0, none⟩) x6_2.length co76)) (v1 := (.slice (some ⟨go76, 0, none⟩) x6_2.length co76)) (ok := (fun _ => True)) (by (with_reducible repeat (first | apply Kd.R_alloc | apply Kd.R_drewN | apply Kd.R_drew)); exact Kd.R_mono HO_7.out (fun _ hk => ⟨trivial, hk⟩)) hg (.inl rfl)); replace BK514 := Aside0.mk (Qbw (g := gb514) (o := .cells #[.int .i64 x515000_3, .int .i64 x515001_3] 94 (0, 0)) (Zu BK514.out) hg (Kd.R_ne HO_6.out BK514.out (by decide))); replace HO_6 := Aside0.mk (hp_); replace HB := Aside0.mk ((by rw [hw]; exact QaQ (HB.out) GB76.out : Below w.heap.size w w82)); clear hg hw hp_))
                           go_roundg kj51
                           case measure => have := HK1.out; have := HK2.out; have := HK3.out; have := HJ51.out; omega
                           case rel => exact ⟨(y536), (y535), (wrap64 (x72_2 + 1)), (Zs2), H', ⟨by have := HK1.out; have := HK2.out; have := HK3.out; have := HJ51.out; omega⟩, ⟨Zr HO_6.out⟩, ⟨by (with_reducible repeat (first | apply Kd.R_alloc | apply Kd.R_drewN | apply Kd.R_drew)); exact Kd.R_mono HO_7.out (fun _ hk => hk.2)⟩, ⟨Zc1 GE514.out⟩⟩
                          rw [if_neg c75] at H
                          exact absurd H (by simp)
                         rw [if_neg c74] at H
                         exact absurd H (by simp)
                        rw [if_neg c71] at H
                        have c71b0 : decide ((rd x7_2 x515000_3) < 0) = F := decide_eq_false c71
                        clear c71
                        (try simp only [c71b0])
                        obtain ⟨y538, hy538⟩ : ∃ y_ : List Int, y_ = (x7_2.set (x515000_3 : Int).toNat (wrap64 ((rd x7_2 x515000_3) - (wrap64 ((wrap64 (Int.tdiv (ji67) 1000)) * 1000))))) := ⟨_, rfl⟩
                        replace H : (if 0 ≤ x72_2 then (if x72_2 < (x6_2.length : Int) then (Qae.l1 kj51 l0 l2 (x6_2.set (x72_2 : Int).toNat (wrap64 (Int.tdiv (ji67) 1000))) (y538.set (x515001_3 : Int).toNat (wrap64 ((rd y538 x515001_3) + (wrap64 ((wrap64 (Int.tdiv (ji67) 1000)) * 1000))))) (l2.length : Int) (wrap64 (x72_2 + 1))) else (none)) else (none)) = some (r1, r2, r3) := by first | (rw [hy538]; with_reducible exact H) | (have H2_ := (Option.bind_some _ _).symm.trans H; rw [hy538]; with_reducible exact H2_) | (have H2_ := (Option.bind_some _ _).symm.trans H; with_reducible exact H2_) | with_reducible exact H | (rw [hy538]; exact H) | exact H
                        have Ny538 := Aside0.mk hy538
                        clear hy538
                        obtain ⟨y540, hy540⟩ : ∃ y_ : List Int, y_ = (y538.set (x515001_3 : Int).toNat (wrap64 ((rd y538 x515001_3) + (wrap64 ((wrap64 (Int.tdiv (ji67) 1000)) * 1000))))) := ⟨_, rfl⟩
                        replace H : (if 0 ≤ x72_2 then (if x72_2 < (x6_2.length : Int) then (Qae.l1 kj51 l0 l2 (x6_2.set (x72_2 : Int).toNat (wrap64 (Int.tdiv (ji67) 1000))) y540 (l2.length : Int) (wrap64 (x72_2 + 1))) else (none)) else (none)) = some (r1, r2, r3) := by first | (rw [hy540]; with_reducible exact H) | (have H2_ := (Option.bind_some _ _).symm.trans H; rw [hy540]; with_reducible exact H2_) | (have H2_ := (Option.bind_some _ _).symm.trans H; with_reducible exact H2_) | with_reducible exact H | (rw [hy540]; exact H) | exact H
                        have Ny540 := Aside0.mk hy540
                        clear hy540
                        by_cases c85 : 0 ≤ x72_2
                        ·rw [if_pos c85] at H
                         have c85b0 : decide (0 ≤ x72_2) = T := decide_eq_true c85
                         clear c85
                         by_cases c86 : x72_2 < (x6_2.length : Int)
                         ·rw [if_pos c86] at H
                          have c86b0 : decide (x72_2 < (x6_2.length : Int)) = T := decide_eq_true c86
                          clear c86
                          obtain ⟨y541, hy541⟩ : ∃ y_ : List Int, y_ = (x6_2.set (x72_2 : Int).toNat (wrap64 (Int.tdiv (ji67) 1000))) := ⟨_, rfl⟩
                          replace H : (Qae.l1 kj51 l0 l2 y541 y540 (l2.length : Int) (wrap64 (x72_2 + 1))) = some (r1, r2, r3) := by first | (rw [hy541]; with_reducible exact H) | (have H2_ := (Option.bind_some _ _).symm.trans H; rw [hy541]; with_reducible exact H2_) | (have H2_ := (Option.bind_some _ _).symm.trans H; with_reducible exact H2_) | with_reducible exact H | (rw [hy541]; exact H) | exact H
                          have Ny541 := Aside0.mk hy541
                          clear hy541
                          have H' := Aside0.mk H
                          clear H
                          have p537 : 0 ≤ (x515000_3 : Int) := Ze
                          have q537 : x515000_3 < (x7_2.length : Int) := Ze
                          obtain ⟨ad537, e537, hx537_0⟩ := Kd.at_int (Kd.R_reads' HO_7.out).2.2 x515000_3 p537 q537
                          obtain rfl : ad521 = ad537 := (by injection e537)
                          replace p537 := eq_true p537
                          replace q537 := eq_true q537
                          have p83 : 0 ≤ (x515000_3 : Int) := Ze
                          have q83 : (x515000_3 : Int) < ((x7_2.length : Int) : Int) := Ze
                          obtain ⟨go83, co83, eo83, gb83, gl83, cl83, HG83⟩ := Kd.R_form HO_7.out (by omega)
                          (first | cases eo83 | (injection eo83 with ea_ en_ ec_; (first | subst ea_ | (injection ea_ with ea_; subst ea_)); subst ec_; clear en_))
                          have GB83 := Aside0.mk gb83
                          have GG83 := Aside0.mk HG83
                          clear gb83 gl83 HG83
                          (first | simp only [Qa0] at hx537_0 | skip)
                          obtain ⟨hx83_0, hf83_0⟩ := Kd.R_celln 0 HO_7.out (x515000_3 : Int) p83 q83
                          replace p83 := eq_true p83
                          replace q83 := eq_true q83
                          have HP88 := Kd.R_putg HO_7.out (x515000_3 : Int) (wrap64 ((rd x7_2 x515000_3) - (wrap64 ((wrap64 (Int.tdiv (ji67) 1000)) * 1000))))
                          go_wp2_with (first | ((with_reducible refine Qbl (t := 3) (p := 153) rfl ?_); refine Qbe (t := 3) (p := 153) (v := ?vo_w89) (w1 := (w70.setCell ⟨go83, (x515000_3 : Int).toNat, none⟩ (.int .i64 (wrap64 ((rd x7_2 x515000_3) - (wrap64 ((wrap64 (Int.tdiv (ji67) 1000)) * 1000))))))) ?hg ?ho ?hn ?hr ?_; (case ho => rfl); (case hg => rfl); (case hn => rfl); (case hr => first | (go_simp; done) | (go_simp; rfl)); intro w89 hw; have hg : w70.grownBy w89 (some go83) := (by rw [hw]; exact HP88.2); have hp_ : Kd.R (Kd.int .i64) 3 w89 w.heap.size (fun k_ => some k_ ≠ (v512 : Value).ownBlock) (.slice (some ⟨go83, 0, none⟩) x7_2.length co54) y538 := (by rw [hw, Ny538.out]; exact HP88.1); clear HP88; replace HO_6 := Aside0.mk (Kd.R_after (v := (.slice (some ⟨go83, 0, none⟩) x7_2.length co54)) (v1 := (.slice (some ⟨go83, 0, none⟩) x7_2.length co54)) (ok := (fun _ => True)) (by (with_reducible repeat (first | apply Kd.R_alloc | apply Kd.R_drewN | apply Kd.R_drew)); exact Kd.R_mono HO_6.out (fun _ hk => ⟨trivial, hk⟩)) hg (.inl rfl)); replace BK514 := Aside0.mk (Qbw (g := gb514) (o := .cells #[.int .i64 x515000_3, .int .i64 x515001_3] 94 (0, 0)) (Zu BK514.out) hg (Kd.R_ne HO_7.out BK514.out (by decide))); replace HO_7 := Aside0.mk (hp_); replace HB := Aside0.mk ((by rw [hw]; exact QaQ (HB.out) GB83.out : Below w.heap.size w w89)); clear hg hw hp_; have p539 : 0 ≤ (x515001_3 : Int) := Ze; have q539 : x515001_3 < (y538.length : Int) := (by have h_ : (x515001_3 : Int) < ((x7_2.length : Int) : Int) := Ze; first | (have e_ := (Kd.R_reads' HO_7.out).1; omega) | simpa only [Ny538.out, List.length_set] using h_); have ql539 : ((x515001_3 : Int) < ((x7_2.length : Int) : Int)) = True := eq_true (Ze); obtain ⟨ad539, e539, hx539_0⟩ := Kd.at_int (Kd.R_reads' HO_7.out).2.2 x515001_3 p539 q539; obtain rfl : (⟨go83, 0, none⟩ : Addr) = ad539 := (by injection e539); (first | simp only [Qa0] at hx539_0 | simp only [add_at] at hx539_0 | simp only [Addr.add, Nat.zero_add] at hx539_0 | skip); replace p539 := eq_true p539; replace q539 := eq_true q539; have p84 : 0 ≤ (x515001_3 : Int) := Ze; have q84 : (x515001_3 : Int) < ((x7_2.length : Int) : Int) := Ze; obtain ⟨hx84_0, hf84_0⟩ := Kd.R_celln 0 HO_7.out (x515001_3 : Int) p84 q84; replace p84 := eq_true p84; replace q84 := eq_true q84; obtain ⟨hy90_, hz90_⟩ := Kd.R_celln 0 HO_7.out (x515001_3 : Int) (Ze) (Ze); have HP90 := Kd.R_putg HO_7.out (x515001_3 : Int) (wrap64 ((rd y538 x515001_3) + (wrap64 ((wrap64 (Int.tdiv (ji67) 1000)) * 1000))))) | ((with_reducible refine Qbl (t := 3) (p := 160) rfl ?_); refine Qbe (t := 3) (p := 160) (v := ?vo_w91) (w1 := (w89.setCell ⟨go83, (x515001_3 : Int).toNat, none⟩ (.int .i64 (wrap64 ((rd y538 x515001_3) + (wrap64 ((wrap64 (Int.tdiv (ji67) 1000)) * 1000))))))) ?hg ?ho ?hn ?hr ?_; (case ho => rfl); (case hg => rfl); (case hn => rfl); (case hr => first | (go_simp; done) | (go_simp; rfl)); intro w91 hw; have hg : w89.grownBy w91 (some go83) := (by rw [hw]; exact HP90.2); have hp_ : Kd.R (Kd.int .i64) 3 w91 w.heap.size (fun k_ => some k_ ≠ (v512 : Value).ownBlock) (.slice (some ⟨go83, 0, none⟩) x7_2.length co54) y540 := (by rw [hw, Ny540.out]; exact HP90.1); clear HP90; replace HO_6 := Aside0.mk (Kd.R_after (v := (.slice (some ⟨go83, 0, none⟩) x7_2.length co54)) (v1 := (.slice (some ⟨go83, 0, none⟩) x7_2.length co54)) (ok := (fun _ => True)) (Zr HO_6.out) hg (.inl rfl)); replace BK514 := Aside0.mk (Qbw (g := gb514) (o := .cells #[.int .i64 x515000_3, .int .i64 x515001_3] 94 (0, 0)) (Zu BK514.out) hg (Kd.R_ne HO_7.out BK514.out (by decide))); replace HO_7 := Aside0.mk (hp_); replace HB := Aside0.mk ((by rw [hw]; exact QaQ (HB.out) GB83.out : Below w.heap.size w w91)); clear hg hw hp_; have p87 : 0 ≤ (x72_2 : Int) := Ze; have q87 : (x72_2 : Int) < ((x6_2.length : Int) : Int) := Ze; obtain ⟨go87, co87, eo87, gb87, gl87, cl87, HG87⟩ := Kd.R_form HO_6.out (by omega); (first | cases eo87 | (injection eo87 with ea_ en_ ec_; (first | subst ea_ | (injection ea_ with ea_; subst ea_)); subst ec_; clear en_)); have GB87 := Aside0.mk gb87; have GG87 := Aside0.mk HG87; clear gb87 gl87 HG87; obtain ⟨hx87_0, hf87_0⟩ := Kd.R_celln 0 HO_6.out (x72_2 : Int) p87 q87; replace p87 := eq_true p87; replace q87 := eq_true q87; have n_ := Aside0.mk (Kd.R_mono (ok' := (fun k_ => some k_ ≠ (.slice (some ⟨go83, 0, none⟩) x7_2.length co54 : Value).ownBlock)) HO_6.out (fun k_ hk => hk.2)); clear HO_6; have HO_6 := n_; clear n_; obtain ⟨hy92_, hz92_⟩ := Kd.R_celln 0 HO_6.out (x72_2 : Int) (Ze) (Ze); have HP92 := Kd.R_putg HO_6.out (x72_2 : Int) (wrap64 (Int.tdiv (ji67) 1000))) | ((with_reducible refine Qbl (t := 3) (p := 164) rfl ?_); refine Qbe (t := 3) (p := 164) (v := ?vo_w93) (w1 := (w91.setCell ⟨go87, (x72_2 : Int).toNat, none⟩ (.int .i64 (wrap64 (Int.tdiv (ji67) 1000))))) ?hg ?ho ?hn ?hr ?_; (case ho => rfl); (case hg => rfl); (case hn => rfl); (case hr => first | (go_simp; done) | (go_simp; rfl)); intro w93 hw; have hg : w91.grownBy w93 (some go87) := (by rw [hw]; exact HP92.2); have hp_ : Kd.R (Kd.int .i64) 3 w93 w.heap.size (fun k_ => some k_ ≠ (.slice (some ⟨go83, 0, none⟩) x7_2.length co54 : Value).ownBlock) (.slice (some ⟨go87, 0, none⟩) x6_2.length co87) y541 := (by rw [hw, Ny541.out]; exact HP92.1); clear HP92; replace HO_7 := Aside0.mk (Kd.R_after (v := (.slice (some ⟨go87, 0, none⟩) x6_2.length co87)) (v1 := (.slice (some ⟨go87, 0, none⟩) x6_2.length co87)) (ok := (fun _ => True)) (by (with_reducible repeat (first | apply Kd.R_alloc | apply Kd.R_drewN | apply Kd.R_drew)); exact Kd.R_mono HO_7.out (fun _ hk => ⟨trivial, hk⟩)) hg (.inl rfl)); replace BK514 := Aside0.mk (Qbw (g := gb514) (o := .cells #[.int .i64 x515000_3, .int .i64 x515001_3] 94 (0, 0)) (Zu BK514.out) hg (Kd.R_ne HO_6.out BK514.out (by decide))); replace HO_6 := Aside0.mk (hp_); replace HB := Aside0.mk ((by rw [hw]; exact QaQ (HB.out) GB87.out : Below w.heap.size w w93)); clear hg hw hp_))
                          go_roundg kj51
                          case measure => have := HK1.out; have := HK2.out; have := HK3.out; have := HJ51.out; omega
                          case rel => exact ⟨(y541), (y540), (wrap64 (x72_2 + 1)), (Zs2), H', ⟨by have := HK1.out; have := HK2.out; have := HK3.out; have := HJ51.out; omega⟩, ⟨Zr HO_6.out⟩, ⟨by (with_reducible repeat (first | apply Kd.R_alloc | apply Kd.R_drewN | apply Kd.R_drew)); exact Kd.R_mono HO_7.out (fun _ hk => hk.2)⟩, ⟨Zc1 GE514.out⟩⟩
                         rw [if_neg c86] at H
                         exact absurd H (by simp)
                        rw [if_neg c85] at H
                        exact absurd H (by simp)
                       rw [if_neg c65] at H
                       exact absurd H (by simp)
                      rw [if_neg c64] at H
                      exact absurd H (by simp)
                     rw [if_neg c62] at H
                     exact absurd H (by simp)
                    rw [if_neg c61] at H
                    exact absurd H (by simp)
                 rw [if_neg c51] at H
                 exact absurd H (by simp)
                rw [if_neg c50] at H
                exact absurd H (by simp)
               rw [if_neg c49] at H
               exact absurd H (by simp)
              rw [if_neg c48] at H
              exact absurd H (by simp)
           rw [if_neg c36] at H
           exact absurd H (by simp)
          rw [if_neg c35] at H
          exact absurd H (by simp)
         rw [if_neg c34] at H
         have c34b0 : decide (x72_2 < (l2.length : Int)) = F := decide_eq_false c34
         clear c34
         (try simp only [c34b0])
         simp only [Option.some.injEq, Prod.mk.injEq] at H
         obtain ⟨rfl, rfl, rfl⟩ := H
         go_wp2
         go_ret3
         exact ⟨_, _, Zq, Zr HO_6.out, Zr HO_7.out, Zb⟩
      rw [if_neg c30] at H
      exact absurd H (by simp)
     rw [if_neg c29] at H
     exact absurd H (by simp)
  rw [if_neg c7] at H
  have c7b0 : ((l1.length : Int) == (l0.length : Int)) = F := beq_eq_false_iff_ne.mpr c7
  have c7b1 : ((l1.length : Int) != (l0.length : Int)) = T := bne_iff_ne.mpr c7
  have c7b2 : (l1.length == l0.length) = F := by first | simpa using c7 | (simp at c7 ⊢; omega)
  (try simp only [c7b0, c7b1, c7b2])
  simp only [Option.some.injEq, Prod.mk.injEq] at H
  obtain ⟨rfl, rfl, rfl⟩ := H
  go_wp2
  go_ret3
  exact ⟨_, _, Zq, by first | exact Kd.R_nil _ _ _ _ _ | exact Kd.N_nil _ _ _ _ _ | exact Kd.V_nil _ _ _ _ _ | exact Kd.Q_nil _ _ _ _ _ | exact Kd.S_nil _ _ _ _ _, by first | exact Kd.R_nil _ _ _ _ _ | exact Kd.N_nil _ _ _ _ _ | exact Kd.V_nil _ _ _ _ _ | exact Kd.Q_nil _ _ _ _ _ | exact Kd.S_nil _ _ _ _ _, Zb⟩
 rw [if_neg c6] at H
 have c6b0 : (t499 == 0) = F := beq_eq_false_iff_ne.mpr c6
 have c6b1 : (t499 != 0) = T := bne_iff_ne.mpr c6
 (try simp only [c6b0, c6b1])
 simp only [Option.some.injEq, Prod.mk.injEq] at H
 obtain ⟨rfl, rfl, rfl⟩ := H
 go_wp2
 go_ret3
 exact ⟨_, _, Zq, by first | exact Kd.R_nil _ _ _ _ _ | exact Kd.N_nil _ _ _ _ _ | exact Kd.V_nil _ _ _ _ _ | exact Kd.Q_nil _ _ _ _ _ | exact Kd.S_nil _ _ _ _ _, by first | exact Kd.R_nil _ _ _ _ _ | exact Kd.N_nil _ _ _ _ _ | exact Kd.V_nil _ _ _ _ _ | exact Kd.Q_nil _ _ _ _ _ | exact Kd.S_nil _ _ _ _ _, Zb⟩
end Go.Proofs.Ytggbflplbblgbaa.Pr
