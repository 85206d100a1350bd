/- Functions' values and contracts, as the print wrote them. -/
import Derived.Test.YtggbflplbblgbaaQ482P0
import Derived.Test.YtggbflplbblgbaaQ482P1
import Derived.Test.YtggbflplbblgbaaQ482P2
namespace Go.Proofs.Ytggbflplbblgbaa.Pr
open Bool renaming true → T
open Bool renaming false → F
open Go.RowKit Go.Proofs.YtggbflplbblgbaaW.PrintWords Go.Proofs.YtggbflplbblgbaaW.PrintLast Go.Proofs.YtggbflplbblgbaaW.PrintMore
attribute [local go_sem] QaJ QaL QaR QaS QaE QaF QaK QaM   -- for this text's walks alone
set_option linter.unusedVariables false
set_option linter.unusedSimpArgs false
mutual
def Qaa.j0 : Nat → List ByteArray → List Int → List Int → List (S75) → Bool → Option (List Int × List Int × Int)
 | 0, _, _, _, _, _ => none
 | k + 1, x0, x1, x2, x3, x44 => if x44 = T then (some (([] : List Int), ([] : List Int), 2)) else (Qaa.l0 k x0 x1 x2 x3 0)
def Qaa.l0 : Nat → List ByteArray → List Int → List Int → List (S75) → Int → Option (List Int × List Int × Int)
 | 0, _, _, _, _, _ => none
 | k + 1, x0, x1, x2, x3, x12 => if x12 < (x0.length : Int) then (if x12 > 0 then (if 0 ≤ x12 then (if 0 ≤ (wrap64 (x12 - 1)) then (if (wrap64 (x12 - 1)) < (x0.length : Int) then (if (Op.bytesLess ((rdOf ByteArray.empty x0 x12).toList) ((rdOf ByteArray.empty x0 (wrap64 (x12 - 1))).toList)) = T then (some (([] : List Int), ([] : List Int), 2)) else (if ((rdOf ByteArray.empty x0 x12).toList) = ((rdOf ByteArray.empty x0 (wrap64 (x12 - 1))).toList) then (some (([] : List Int), ([] : List Int), 2)) else (if x12 < (x1.length : Int) then ((Qam.f (rd x1 x12) (-1099511627776) 1099511627776).bind fun t804 => (if t804 = T then (if x12 < (x2.length : Int) then ((Qam.f (rd x2 x12) 0 1152921504606846976).bind fun t806 => (if t806 = T then (Qaa.l0 k x0 x1 x2 x3 (wrap64 (x12 + 1))) else (some (([] : List Int), ([] : List Int), 2)))) else (none)) else (some (([] : List Int), ([] : List Int), 2)))) else (none)))) else (none)) else (none)) else (none)) else (if 0 ≤ x12 then (if x12 < (x1.length : Int) then ((Qam.f (rd x1 x12) (-1099511627776) 1099511627776).bind fun t808 => (if t808 = T then (if x12 < (x2.length : Int) then ((Qam.f (rd x2 x12) 0 1152921504606846976).bind fun t810 => (if t810 = T then (Qaa.l0 k x0 x1 x2 x3 (wrap64 (x12 + 1))) else (some (([] : List Int), ([] : List Int), 2)))) else (none)) else (some (([] : List Int), ([] : List Int), 2)))) else (none)) else (none))) else (if 0 ≤ (x0.length : Int) then (if ((x0.length : Int) : Int).toNat ≤ 35184372088832 then (if ([] : List Int).length + x1.length < 17592186044416 then (Qaa.l1 k x0 x1 x2 x3 (List.replicate ((x0.length : Int) : Int).toNat 0) (([] : List Int) ++ x1) 0) else (none)) else (none)) else (none))
def Qaa.l1 : Nat → List ByteArray → List Int → List Int → List (S75) → List Int → List Int → Int → Option (List Int × List Int × Int)
 | 0, _, _, _, _, _, _, _ => none
 | k + 1, x0, x1, x2, x3, x13, x14, x15 => if x15 < (x3.length : Int) then (if 0 ≤ x15 then ((Qal.f k x0 ((rd_T75 x3 x15).f0)).bind fun t818 => ((Qal.f k x0 ((rd_T75 x3 x15).f1)).bind fun t820 => (if t818 < 0 then (Qaa.j3 k x0 x1 x2 x3 x13 x14 x15 t818 t820 T) else (if t820 < 0 then (Qaa.j3 k x0 x1 x2 x3 x13 x14 x15 t818 t820 T) else (if 0 ≤ t818 then (if t818 < (x14.length : Int) then (if (rd x14 t818) = 0 then (Qaa.j3 k x0 x1 x2 x3 x13 x14 x15 t818 t820 T) else (if 0 ≤ t820 then (if t820 < (x14.length : Int) then (if (rd x14 t820) = 0 then (Qaa.j3 k x0 x1 x2 x3 x13 x14 x15 t818 t820 T) else (Qaa.j3 k x0 x1 x2 x3 x13 x14 x15 t818 t820 ((decide ((rd x14 t818) > 0)) == (decide ((rd x14 t820) > 0))))) else (none)) else (none))) else (none)) else (none)))))) else (none)) else (some (x13, x14, 0))
def Qaa.j3 : Nat → List ByteArray → List Int → List Int → List (S75) → List Int → List Int → Int → Int → Int → Bool → Option (List Int × List Int × Int)
 | 0, _, _, _, _, _, _, _, _, _, _ => none
 | k + 1, x0, x1, x2, x3, x13, x14, x15, x16, x17, x139 => if x139 = T then (Qaa.l1 k x0 x1 x2 x3 x13 x14 (wrap64 (x15 + 1))) else (if 0 ≤ x16 then (if x16 < (x14.length : Int) then ((QaG.f (rd x14 x16)).bind fun t826 => (if 0 ≤ x15 then (if x15 < (x3.length : Int) then (if (wrap64 (1000 * ((rd_T75 x3 x15).f2))) = 0 then (none) else (if 0 ≤ x17 then (if x17 < (x14.length : Int) then ((QaG.f (rd x14 x17)).bind fun t829 => (if (wrap64 (1000 * ((rd_T75 x3 x15).f3))) = 0 then (none) else (Qaa.l2 k x0 x1 x2 x3 x13 x14 x15 (mn (wrap64 (Int.tdiv t826 (wrap64 (1000 * ((rd_T75 x3 x15).f2))))) (wrap64 (Int.tdiv t829 (wrap64 (1000 * ((rd_T75 x3 x15).f3)))))) (([x16, x17] : List Int)) (([(rd_T75 x3 x15).f2, (rd_T75 x3 x15).f3] : List Int)) 0))) else (none)) else (none))) else (none)) else (none))) else (none)) else (none))
def Qaa.l2 : Nat → List ByteArray → List Int → List Int → List (S75) → List Int → List Int → Int → Int → List Int → List Int → Int → Option (List Int × List Int × Int)
 | 0, _, _, _, _, _, _, _, _, _, _, _ => none
 | k + 1, x0, x1, x2, x3, x13, x14, x15, x18, x19, x20, x21 => if x21 < 2 then (if 0 ≤ x21 then (if x21 < (x19.length : Int) then (if x21 < (x20.length : Int) then (if 0 ≤ (rd x19 x21) then (if (rd x19 x21) < (x2.length : Int) then (if (rd x19 x21) < (x1.length : Int) then ((QaG.f (rd x1 (rd x19 x21))).bind fun t843 => ((Qaz.f (rd x2 (rd x19 x21)) (wrap64 ((wrap64 (x18 * 1000)) * (rd x20 x21))) t843 1).bind fun bt844 => (if 0 ≤ x15 then (if x15 < (x3.length : Int) then ((Qaz.f bt844.1 ((rd_T75 x3 x15).f4) 1000 1).bind fun bt847 => (if (rd x19 x21) < (x13.length : Int) then ((some (x13.set ((rd x19 x21) : Int).toNat (mn (wrap64 ((rd x13 (rd x19 x21)) + bt847.1)) (rd x2 (rd x19 x21))) : List Int)).bind fun y851 => (if (rd x19 x21) < (x14.length : Int) then (if (rd x14 (rd x19 x21)) > 0 then (Qaa.l2 k x0 x1 x2 x3 y851 (x14.set ((rd x19 x21) : Int).toNat (wrap64 ((rd x14 (rd x19 x21)) - (wrap64 ((wrap64 (x18 * 1000)) * (rd x20 x21)))))) x15 x18 x19 x20 (wrap64 (x21 + 1))) else (Qaa.l2 k x0 x1 x2 x3 y851 (x14.set ((rd x19 x21) : Int).toNat (wrap64 ((rd x14 (rd x19 x21)) + (wrap64 ((wrap64 (x18 * 1000)) * (rd x20 x21)))))) x15 x18 x19 x20 (wrap64 (x21 + 1)))) else (none))) else (none))) else (none)) else (none)))) else (none)) else (none)) else (none)) else (none)) else (none)) else (none)) else (Qaa.l1 k x0 x1 x2 x3 x13 x14 (wrap64 (x15 + 1)))
end
def Qaa.f (k : Nat) (l0 : List ByteArray) (l1 : List Int) (l2 : List Int) (l3 : List (S75)) : Option (List Int × List Int × Int) := (Qaf.f k l3).bind fun t800 => (if t800 = 0 then (if (l1.length : Int) = (l0.length : Int) then (Qaa.j0 k l0 l1 l2 l3 ((l2.length : Int) != (l0.length : Int))) else (Qaa.j0 k l0 l1 l2 l3 T)) else (some (([] : List Int), ([] : List Int), t800)))
theorem Qaa.mono_l : ∀ k, (∀ y0 y1 y2 y3 y4, LeO (Qaa.j0 k y0 y1 y2 y3 y4) (Qaa.j0 (k + 1) y0 y1 y2 y3 y4)) ∧ (∀ y0 y1 y2 y3 y4, LeO (Qaa.l0 k y0 y1 y2 y3 y4) (Qaa.l0 (k + 1) y0 y1 y2 y3 y4)) ∧ (∀ y0 y1 y2 y3 y4 y5 y6, LeO (Qaa.l1 k y0 y1 y2 y3 y4 y5 y6) (Qaa.l1 (k + 1) y0 y1 y2 y3 y4 y5 y6)) ∧ (∀ y0 y1 y2 y3 y4 y5 y6 y7 y8 y9, LeO (Qaa.j3 k y0 y1 y2 y3 y4 y5 y6 y7 y8 y9) (Qaa.j3 (k + 1) y0 y1 y2 y3 y4 y5 y6 y7 y8 y9)) ∧ (∀ y0 y1 y2 y3 y4 y5 y6 y7 y8 y9 y10, LeO (Qaa.l2 k y0 y1 y2 y3 y4 y5 y6 y7 y8 y9 y10) (Qaa.l2 (k + 1) y0 y1 y2 y3 y4 y5 y6 y7 y8 y9 y10))
 | 0 => ⟨fun _ _ _ _ _ r h => by simp [Qaa.j0] at h, fun _ _ _ _ _ r h => by simp [Qaa.l0] at h, fun _ _ _ _ _ _ _ r h => by simp [Qaa.l1] at h, fun _ _ _ _ _ _ _ _ _ _ r h => by simp [Qaa.j3] at h, fun _ _ _ _ _ _ _ _ _ _ _ r h => by simp [Qaa.l2] at h⟩
 | k + 1 => by
  obtain ⟨ih0, ih1, ih2, ih3, ih4⟩ := Qaa.mono_l k
  refine ⟨?_, ?_, ?_, ?_, ?_⟩
  ·intro y0 y1 y2 y3 y4
   unfold Qaa.j0
   exact ZM7 ih0 ih1 ih2 ih3 ih4 Qaf.mono Qal.mono
  ·intro y0 y1 y2 y3 y4
   unfold Qaa.l0
   exact ZM7 ih0 ih1 ih2 ih3 ih4 Qaf.mono Qal.mono
  ·intro y0 y1 y2 y3 y4 y5 y6
   unfold Qaa.l1
   exact ZM7 ih0 ih1 ih2 ih3 ih4 Qaf.mono Qal.mono
  ·intro y0 y1 y2 y3 y4 y5 y6 y7 y8 y9
   unfold Qaa.j3
   exact ZM7 ih0 ih1 ih2 ih3 ih4 Qaf.mono Qal.mono
  intro y0 y1 y2 y3 y4 y5 y6 y7 y8 y9 y10
  unfold Qaa.l2
  exact ZM7 ih0 ih1 ih2 ih3 ih4 Qaf.mono Qal.mono
theorem Qaa.mono : ∀ a0 a1 a2 a3 k, LeO (Qaa.f k a0 a1 a2 a3) (Qaa.f (k + 1) a0 a1 a2 a3) := by
 intro a0 a1 a2 a3 k
 obtain ⟨ih0, ih1, ih2, ih3, ih4⟩ := Qaa.mono_l k
 unfold Qaa.f
 exact ZM7 ih0 ih1 ih2 ih3 ih4 Qaf.mono Qal.mono
def Qaa.T9 : Bool × List (List Nat × List Nat) := (T, [([], []), ([0], [0]), ([1], [1]), ([2], [2]), ([2], [2]), ([3, 4, 2], [2, 3, 4]), ([5, 2], [2, 5]), ([2], [2]), ([2], [2]), ([8, 2], [2, 8]), ([7, 9, 2], [2, 7, 9]), ([10, 2], [2, 10]), ([6, 11, 2], [2, 6, 11]), ([2, 12], [2, 12]), ([13, 2], [13]), ([14], [14]), ([14], [14]), ([15, 16, 14], [14, 15, 16]), ([17, 14], [14, 17]), ([18, 14, 14], [14, 18]), ([19, 14], [14, 19]), ([14, 20], [14, 20]), ([21, 19], [21]), ([22], [22]), ([22], [22]), ([23, 24, 22], [22, 23, 24]), ([25, 22], [22, 25]), ([26, 22, 22], [22, 26]), ([27, 22], [22, 27]), ([22, 28], [22, 28])])
def Qaa.B9 : List Nat := [0, 1, 3, 7, 7, 31, 63, 7, 7, 263, 903, 1927, 4095, 8191, 16383, 32767, 32767, 131071, 262143, 524287, 1048575, 2097151, 4194303, 8388607, 8388607, 33554431, 67108863, 134217727, 268435455, 536870911]
theorem Qaa.tab9 : rtab .any (opsOf Try.f43 9) = Qaa.T9 := by kernel_rfl
theorem Qaa.bits9 : Qa5 Qaa.T9.2 Qaa.B9 = T := by kernel_rfl
def Qaa.T17 : Bool × List (List Nat × List Nat) := (T, [([], []), ([], []), ([], []), ([1, 2], [1, 2]), ([3], [3]), ([4], [4]), ([0, 5], [0, 5]), ([], []), ([], []), ([], []), ([8, 9], [8, 9]), ([10], [10]), ([11], [11]), ([7, 12, 6], [7, 12]), ([6, 13, 0, 1, 2, 3, 4, 5, 6], [6]), ([13, 14, 0, 1, 2, 3, 4, 5, 6, 7, 8, 9, 10, 11, 12, 13, 14], [13])])
def Qaa.B17 : List Nat := [0, 0, 0, 6, 14, 30, 63, 0, 0, 0, 768, 1792, 3840, 8191, 16383, 32767]
theorem Qaa.tab17 : rtab .any (opsOf Try.f43 17) = Qaa.T17 := by kernel_rfl
theorem Qaa.bits17 : Qa5 Qaa.T17.2 Qaa.B17 = T := by kernel_rfl
def Qaa.T18 : Bool × List (List Nat × List Nat) := (T, [([], []), ([0], [0]), ([1], [1]), ([2], [2]), ([3, 2], [2, 3]), ([2, 4], [2, 4]), ([5, 2], [5]), ([6], [6]), ([6], [6]), ([7, 8, 6], [6, 7, 8]), ([9, 6], [6, 9]), ([10, 6], [6, 10]), ([6, 11], [6, 11]), ([12, 6], [12]), ([13], [13]), ([13], [13]), ([14, 15, 13], [13, 14, 15]), ([16, 13], [13, 16]), ([17, 13], [13, 17]), ([13, 18], [13, 18]), ([19, 13], [19]), ([20], [20]), ([20], [20]), ([21, 22, 20], [20, 21, 22]), ([23, 20], [20, 23]), ([24, 20], [20, 24]), ([20], [20]), ([20], [20]), ([26, 27, 20], [20, 26, 27]), ([28, 20], [20, 28]), ([29, 20], [20, 29]), ([25, 30, 20], [20, 25, 30]), ([20, 31], [20, 31])])
def Qaa.B18 : List Nat := [0, 1, 3, 7, 15, 31, 63, 127, 127, 511, 1023, 2047, 4095, 8191, 16383, 16383, 65535, 131071, 262143, 524287, 1048575, 2097151, 2097151, 8388607, 16777215, 33554431, 2097151, 2097151, 203423743, 471859199, 1008730111, 2147483647, 4294967295]
theorem Qaa.tab18 : rtab .any (opsOf Try.f43 18) = Qaa.T18 := by kernel_rfl
theorem Qaa.bits18 : Qa5 Qaa.T18.2 Qaa.B18 = T := by kernel_rfl
def Qaa.T19 : Bool × List (List Nat × List Nat) := (T, [([], []), ([], []), ([0, 1], [0, 1]), ([2], [2]), ([3], [3]), ([], []), ([], []), ([5, 6], [5, 6]), ([7], [7]), ([8], [8]), ([9], [9]), ([4, 10], [4, 10]), ([], []), ([], []), ([12, 13], [12, 13]), ([14], [14]), ([15, 4], [15]), ([], []), ([], []), ([17, 18], [17, 18]), ([19], [19]), ([20], [20]), ([21], [21]), ([16, 22], [16, 22]), ([11, 23], [11, 23]), ([24, 16, 0, 1, 2, 3, 4, 5, 6, 7, 8, 9, 10, 11, 12, 13, 14, 15, 16, 17, 18, 19, 20, 21, 22, 23, 24], [24])])
def Qaa.B19 : List Nat := [0, 0, 3, 7, 15, 0, 0, 96, 224, 480, 992, 2047, 0, 0, 12288, 28672, 61471, 0, 0, 393216, 917504, 1966080, 4063232, 8384543, 16777215, 33554431]
theorem Qaa.tab19 : rtab .any (opsOf Try.f43 19) = Qaa.T19 := by kernel_rfl
theorem Qaa.bits19 : Qa5 Qaa.T19.2 Qaa.B19 = T := by kernel_rfl
def Qaa.T21 : Bool × List (List Nat × List Nat) := (T, [([], []), ([], []), ([0, 1], [0, 1]), ([2], [2]), ([3], [3]), ([], []), ([], []), ([5, 6], [5, 6]), ([7], [7]), ([8], [8]), ([4, 9], [4, 9]), ([10, 0, 1, 2, 3, 4, 5, 6, 7, 8, 9, 10], [10])])
def Qaa.B21 : List Nat := [0, 0, 3, 7, 15, 0, 0, 96, 224, 480, 1023, 2047]
theorem Qaa.tab21 : rtab .any (opsOf Try.f43 21) = Qaa.T21 := by kernel_rfl
theorem Qaa.bits21 : Qa5 Qaa.T21.2 Qaa.B21 = T := by kernel_rfl
def Qaa.T27 : Bool × List (List Nat × List Nat) := (T, [([], []), ([], []), ([0, 1], [0, 1]), ([2], [2]), ([], []), ([], []), ([], []), ([5, 6], [5, 6]), ([7], [7]), ([8], [8]), ([3, 4, 9, 9], [3, 4, 9]), ([10], [10]), ([11], [11]), ([11], [11]), ([12, 10, 0, 1, 2, 3, 4, 5, 6, 7, 8, 9, 10, 11, 12], [12]), ([13, 14, 0, 1, 2, 3, 4, 5, 6, 7, 8, 9, 10, 11, 12, 13, 14], [13])])
def Qaa.B27 : List Nat := [0, 0, 3, 7, 0, 0, 0, 96, 224, 480, 1023, 2047, 4095, 4095, 8191, 32767]
theorem Qaa.tab27 : rtab .any (opsOf Try.f43 27) = Qaa.T27 := by kernel_rfl
theorem Qaa.bits27 : Qa5 Qaa.T27.2 Qaa.B27 = T := by kernel_rfl
def Qaa.T29 : Bool × List (List Nat × List Nat) := (T, [([], []), ([], []), ([], []), ([], []), ([2, 3], [2, 3]), ([4], [4]), ([], []), ([5, 6], [5, 6]), ([], []), ([], []), ([8, 9], [8, 9]), ([10], [10]), ([7, 11], [7, 11]), ([0, 1, 0, 1, 2, 3, 4, 5, 6, 7, 8, 9, 10, 11, 12], [0, 1]), ([13, 12, 0, 1, 2, 3, 4, 5, 6, 7, 8, 9, 10, 11, 12], [12, 13])])
def Qaa.B29 : List Nat := [0, 0, 0, 0, 12, 28, 0, 124, 0, 0, 768, 1792, 4092, 8191, 16383]
theorem Qaa.tab29 : rtab .any (opsOf Try.f43 29) = Qaa.T29 := by kernel_rfl
theorem Qaa.bits29 : Qa5 Qaa.T29.2 Qaa.B29 = T := by kernel_rfl
set_option maxHeartbeats 8000000 in
set_option maxRecDepth 100000 in
theorem Qaa.calls (k : Nat) (A0 : Option Addr) (c0 : Nat) (l0 : List ByteArray) (A1 : Option Addr) (c1 : Nat) (l1 : List Int) (A2 : Option Addr) (c2 : Nat) (l2 : List Int) (A3 : Option Addr) (c3 : Nat) (l3 : List (S75)) (r1 : List Int) (r2 : List Int) (r3 : Int) (w : World) (hr0 : Kd.C Kd.string w A0 l0.length l0) (hc0 : l0.length ≤ c0) (hr1 : Kd.C (Kd.int .i64) w A1 l1.length l1) (hc1 : l1.length ≤ c1) (hr2 : Kd.C (Kd.int .i64) w A2 l2.length l2) (hc2 : l2.length ≤ c2) (hr3 : Kd.C k75 w A3 l3.length l3) (hc3 : l3.length ≤ c3) (h : Qaa.f k l0 l1 l2 l3 = some (r1, r2, r3)) :
  Calls Try.prog 43 #[.slice A0 l0.length c0, .slice A1 l1.length c1, .slice A2 l2.length c2, .slice A3 l3.length c3] w fun e w' => ∃ v0_ v1_ : Value, e = .returned (.tuple #[v0_, v1_, .int .i64 r3]) ∧ Kd.R (Kd.int .i64) 3 w' w.heap.size (fun k_ => some k_ ≠ (v1_ : Value).ownBlock) v0_ r1 ∧ Kd.R (Kd.int .i64) 3 w' w.heap.size (fun k_ => some k_ ≠ (v0_ : Value).ownBlock) v1_ r2 ∧ Below w.heap.size w w' := by
 have HR0 := Aside0.mk hr0
 have HC0 := Aside0.mk hc0
 clear hr0 hc0
 have HR1 := Aside0.mk hr1
 have HC1 := Aside0.mk hc1
 clear hr1 hc1
 have HR2 := Aside0.mk hr2
 have HC2 := Aside0.mk hc2
 clear hr2 hc2
 have HR3 := Aside0.mk hr3
 have HC3 := Aside0.mk hc3
 clear hr3 hc3
 have HB := Aside0.mk (Below.refl w.heap.size w)
 have H : ((Qaf.f k l3).bind fun t800 => (if t800 = 0 then (if (l1.length : Int) = (l0.length : Int) then (Qaa.j0 k l0 l1 l2 l3 ((l2.length : Int) != (l0.length : Int))) else (Qaa.j0 k l0 l1 l2 l3 T)) else (some (([] : List Int), ([] : List Int), t800)))) = some (r1, r2, r3) := h
 clear h
 replace H := Option.bind_eq_some_iff.mp H
 obtain ⟨t800, A50, H⟩ := H
 replace H : (if t800 = 0 then (if (l1.length : Int) = (l0.length : Int) then (Qaa.j0 k l0 l1 l2 l3 ((l2.length : Int) != (l0.length : Int))) else (Qaa.j0 k l0 l1 l2 l3 T)) else (some (([] : List Int), ([] : List Int), t800))) = some (r1, r2, r3) := H
 have A5 := Aside0.mk A50
 clear A50
 go_enter Try.func43, Try.ntmps43
 go_upto_if 31 with (first | ((with_reducible refine QaD (f := 45) rfl ?_); refine goesL_ (some 29) rfl rfl Try.func45 (by kernel_rfl) rfl #[.slice A3 l3.length c3] rfl (Zl) ?_; (with_reducible refine (Qaf.calls k _ _ l3 t800 _ ?side1 ?side2 A5.out).mono ?_); (case side1 => exact Zv HR3.out); (case side2 => exact HC3.out); rintro e w6 ⟨rfl, hb⟩; refine ⟨_, rfl, ?_⟩; replace HB := Aside0.mk (Qao (Zb) hb); (try clear hb); (try clear hb2); (try clear hk); (try clear hi)))
 (try simp only [Act.put, Zj, Zk, Zm])
 by_cases c7 : t800 = 0
 ·rw [if_pos c7] at H
  have c7b0 : (t800 == 0) = T := beq_iff_eq.mpr c7
  have c7b1 : (t800 != 0) = F := bne_eq_false_iff_eq.mpr c7
  clear c7
  (try simp only [c7b0, c7b1])
  have HC8 := Aside0.mk H
  clear H
  go_upto_region 4 with (fail)
  go_cut [44] (fun v44 wc => ∃ (kq : Nat) (x44_7 : Bool), v44 = .bool x44_7 ∧ Aside0 (Qaa.j0 kq l0 l1 l2 l3 x44_7 = some (r1, r2, r3)) ∧ Aside0 (kq ≤ k) ∧ Aside0 (Below w.heap.size w wc))
  case first => as_aux_lemma =>
   have H := HC8.out
   clear HC8
   by_cases c9 : (l1.length : Int) = (l0.length : Int)
   ·rw [if_pos c9] at H
    have c9b0 : ((l1.length : Int) == (l0.length : Int)) = T := beq_iff_eq.mpr c9
    have c9b1 : ((l1.length : Int) != (l0.length : Int)) = F := bne_eq_false_iff_eq.mpr c9
    have c9b2 : (l1.length == l0.length) = T := by first | simpa using c9 | (simp at c9 ⊢; omega)
    clear c9
    have H' := Aside0.mk H
    clear H
    go_wp2
    go_meet
    case rel => exact ⟨_, (((l2.length : Int) != (l0.length : Int))), (Zs), H', ⟨by first | omega | exact Nat.le_refl _⟩, ⟨Zb⟩⟩
   rw [if_neg c9] at H
   have c9b0 : ((l1.length : Int) == (l0.length : Int)) = F := beq_eq_false_iff_ne.mpr c9
   have c9b1 : ((l1.length : Int) != (l0.length : Int)) = T := bne_iff_ne.mpr c9
   have c9b2 : (l1.length == l0.length) = F := by first | simpa using c9 | (simp at c9 ⊢; omega)
   have H' := Aside0.mk H
   clear H
   go_wp2
   go_meet
   case rel => exact ⟨_, (T), (Zs), H', ⟨by first | omega | exact Nat.le_refl _⟩, ⟨Zb⟩⟩
  case rest => as_aux_lemma =>
   clear HC8
   try clear c1
   try clear c2
   try clear p2
   try clear c3
   try clear c4
   try clear c7
   try clear c7b0
   try clear c7b1
   try clear c9
   try clear c9b0
   try clear c9b1
   try clear c9b2
   obtain ⟨kq, x44_7, rfl, HA, HJ7, HB⟩ := hcut
   cases kq with
   | zero => exact absurd HA.out (by simp [Qaa.j0])
   | succ kj7 =>
    have H := HA.out
    clear HA
    simp only [Qaa.j0] at H
    by_cases c10 : x44_7 = T
    ·subst c10
     have H1 : (some (([] : List Int), ([] : List Int), 2)) = some (r1, r2, r3) := by rw [if_pos rfl] at H; exact H
     clear H
     have H := H1
     clear H1
     simp only [Option.some.injEq, Prod.mk.injEq] at H
     obtain ⟨rfl, rfl, rfl⟩ := H
     go_wp2
     go_ret3
     exact ⟨_, _, Zq, by first | exact Kd.R_nil _ _ _ _ _ | exact Kd.N_nil _ _ _ _ _ | exact Kd.V_nil _ _ _ _ _ | exact Kd.Q_nil _ _ _ _ _ | exact Kd.S_nil _ _ _ _ _, by first | exact Kd.R_nil _ _ _ _ _ | exact Kd.N_nil _ _ _ _ _ | exact Kd.V_nil _ _ _ _ _ | exact Kd.Q_nil _ _ _ _ _ | exact Kd.S_nil _ _ _ _ _, Zb⟩
    replace c10 := Bool.eq_false_iff.mpr c10
    subst c10
    have H1 : (Qaa.l0 kj7 l0 l1 l2 l3 0) = some (r1, r2, r3) := by rw [if_neg (show ¬ (F = T) by decide)] at H; exact H
    clear H
    have H := H1
    clear H1
    have H' := Aside0.mk H
    clear H
    go_wp2
    go_loopg [12] kj7 (fun kq v12 w' => ∃ (x12_2 : Int), v12 = .int .i64 x12_2 ∧ Aside0 (Qaa.l0 kq l0 l1 l2 l3 x12_2 = some (r1, r2, r3)) ∧ Aside0 (kq ≤ kj7) ∧ Aside0 (Below w.heap.size w w'))
    case atStart => exact ⟨(0), (Zs), H', ⟨Nat.le_refl _⟩, ⟨Zb⟩⟩
    case round => as_aux_lemma =>
     clear H'
     try clear c1
     try clear c2
     try clear p2
     try clear c3
     try clear c4
     try clear c7
     try clear c7b0
     try clear c7b1
     try clear c9
     try clear c9b0
     try clear c9b1
     try clear c9b2
     try clear c10
     try clear p2
     obtain ⟨x12_2, rfl, HA, HK2, HB⟩ := hrel
     cases gk with
     | zero => exact absurd HA.out (by simp [Qaa.l0])
     | succ k2 =>
      have H := HA.out
      clear HA
      simp only [Qaa.l0] at H
      by_cases c11 : x12_2 < (l0.length : Int)
      ·rw [if_pos c11] at H
       have c11b0 : decide (x12_2 < (l0.length : Int)) = T := decide_eq_true c11
       clear c11
       (try simp only [c11b0])
       by_cases c12 : x12_2 > 0
       ·rw [if_pos c12] at H
        have c12b0 : decide (0 < x12_2) = T := decide_eq_true c12
        clear c12
        by_cases c13 : 0 ≤ x12_2
        ·rw [if_pos c13] at H
         have c13b0 : decide (0 ≤ x12_2) = T := decide_eq_true c13
         clear c13
         obtain ⟨ji14, hji14⟩ : ∃ j_ : Int, (wrap64 (x12_2 - 1)) = j_ := ⟨_, rfl⟩
         replace H : (if 0 ≤ (ji14) then (if (ji14) < (l0.length : Int) then (if (Op.bytesLess ((rdOf ByteArray.empty l0 x12_2).toList) ((rdOf ByteArray.empty l0 (ji14)).toList)) = T then (some (([] : List Int), ([] : List Int), 2)) else (if ((rdOf ByteArray.empty l0 x12_2).toList) = ((rdOf ByteArray.empty l0 (ji14)).toList) then (some (([] : List Int), ([] : List Int), 2)) else (if x12_2 < (l1.length : Int) then ((Qam.f (rd l1 x12_2) (-1099511627776) 1099511627776).bind fun t804 => (if t804 = T then (if x12_2 < (l2.length : Int) then ((Qam.f (rd l2 x12_2) 0 1152921504606846976).bind fun t806 => (if t806 = T then (Qaa.l0 k2 l0 l1 l2 l3 (wrap64 (x12_2 + 1))) else (some (([] : List Int), ([] : List Int), 2)))) else (none)) else (some (([] : List Int), ([] : List Int), 2)))) else (none)))) else (none)) else (none)) = some (r1, r2, r3) := by first | (rw [hji14] at H; exact H) | (simp only [hji14] at H ⊢; exact H)
         have hji14w : (IntKind.i64.wrap (x12_2 - 1)) = ji14 := (i64_w _).trans hji14
         by_cases c15 : 0 ≤ (ji14)
         ·rw [if_pos c15] at H
          have c15b0 : decide (0 ≤ (ji14)) = T := decide_eq_true c15
          clear c15
          by_cases c16 : (ji14) < (l0.length : Int)
          ·rw [if_pos c16] at H
           have c16b0 : decide ((ji14) < (l0.length : Int)) = T := decide_eq_true c16
           clear c16
           by_cases c17 : (Op.bytesLess ((rdOf ByteArray.empty l0 x12_2).toList) ((rdOf ByteArray.empty l0 (ji14)).toList)) = T
           ·rw [if_pos c17] at H
            have c17b0 : (Op.bytesLess ((rdOf ByteArray.empty l0 x12_2).toList) ((rdOf ByteArray.empty l0 (ji14)).toList)) = T := c17
            clear c17
            simp only [Option.some.injEq, Prod.mk.injEq] at H
            obtain ⟨rfl, rfl, rfl⟩ := H
            try go_wp2
            (try (rw [QaW wr]; generalize hq_ : World.drewN wr _ = wr; have n0_ : Aside0 (Below w.heap.size w wr) := ⟨by rw [← hq_]; exact (Zb)⟩; clear HB hq_; have HB := n0_; clear n0_))
            replace HB := Aside0.mk (Qac HB.out)
            have p801 : 0 ≤ (x12_2 : Int) := Ze
            have q801 : x12_2 < (l0.length : Int) := Ze
            obtain ⟨ad801, e801, hx801_0⟩ := Kd.at_string HR0.out x12_2 p801 q801
            have hw801_0 := hx801_0
            cases e801
            replace hx801_0 := Zx HB.out hx801_0
            replace p801 := eq_true p801
            replace q801 := eq_true q801
            have p802 : 0 ≤ ((ji14) : Int) := Ze
            have q802 : (ji14) < (l0.length : Int) := Ze
            obtain ⟨ad802, e802, hx802_0⟩ := Kd.at_string HR0.out (ji14) p802 q802
            have hw802_0 := hx802_0
            obtain rfl : ad801 = ad802 := (by injection e802)
            replace hx802_0 := Zx HB.out hx802_0
            replace p802 := eq_true p802
            replace q802 := eq_true q802
            refine start_ (n := 30) (S := fun w' => w'.cell? (ad801.add (x12_2).toNat) = some (.string (rdOf ByteArray.empty l0 x12_2)) ∧ w'.cell? (ad801.add ((ji14)).toNat) = some (.string (rdOf ByteArray.empty l0 (ji14)))) (ds := []) #[F, F, F, F, F, F, F, F, F, F, F, F, F, F, F, F, F, F, F, F, F, F, F, F, F, F, F, F, F, F] (by kernel_rfl) rfl rfl ⟨((HB.out.cell (World.block_lt_of_cell? w _ hw801_0)).trans hw801_0), ((HB.out.cell (World.block_lt_of_cell? w _ hw802_0)).trans hw802_0)⟩ (fun hHeld => ?_); refine QaC Qaa.tab9 Qaa.bits9 (fun HT_ HW_ => ?_)
            generalize wr.drew = w18 at HB hx801_0 hx802_0 hHeld ⊢
            refine Zsp (i := 0) (N := some 51) (pm 30 1) HT_ ?_
            refine Zsp (i := 1) (N := some 52) (pm 30 2) HT_ ?_
            refine Zsp (i := 2) (N := some 53) (pm 30 3) HT_ ?_
            refine Zsp (i := 3) (N := some 54) (pm 30 4) HT_ ?_
            refine Zsp (i := 4) (N := some 55) (pm 30 5) HT_ ?_
            refine Zsp (i := 5) (N := some 56) (pm 30 6) HT_ ?_
            refine Zsp (i := 7) (N := some 58) #[T, T, T, T, T, T, F, T, F, F, F, F, F, F, F, F, F, F, F, F, F, F, F, F, F, F, F, F, F, F] HT_ ?_
            refine Zsp (i := 8) (N := some 59) #[T, T, T, T, T, T, F, T, T, F, F, F, F, F, F, F, F, F, F, F, F, F, F, F, F, F, F, F, F, F] HT_ ?_
            refine Zsp (i := 9) (N := some 60) #[T, T, T, T, T, T, F, T, T, T, F, F, F, F, F, F, F, F, F, F, F, F, F, F, F, F, F, F, F, F] HT_ ?_
            refine Zsp (i := 10) (N := some 61) #[T, T, T, T, T, T, F, T, T, T, T, F, F, F, F, F, F, F, F, F, F, F, F, F, F, F, F, F, F, F] HT_ ?_
            refine Zst (i := 6) (N := some 57) (pm 30 11) HT_ HW_ hHeld ?_ (hy := by (refine Or.inl ⟨by rfl, ?_⟩; rintro w' ⟨s0, s1⟩; go_simp; with_reducible rfl))
            refine Zst (i := 11) (N := some 62) (pm 30 12) HT_ HW_ hHeld ?_ (hy := by (refine Or.inl ⟨by rfl, ?_⟩; rintro w' ⟨s0, s1⟩; go_simp; with_reducible rfl))
            refine Zsp (i := 12) (N := some 63) (pm 30 13) HT_ ?_
            refine Zsp (i := 13) (N := some 64) (pm 30 14) HT_ ?_
            refine Zsp (i := 14) (N := some 65) (pm 30 15) HT_ ?_
            refine Zso (i := 15) (N := some 66) (pm 30 16) HT_ ?_
            refine Zso (i := 16) (N := some 67) (pm 30 17) HT_ ?_
            refine Zso (i := 17) (N := some 68) (pm 30 18) HT_ ?_
            refine Zso (i := 18) (N := some 69) (pm 30 19) HT_ ?_
            refine Zso (i := 19) (N := some 70) (pm 30 20) HT_ ?_
            refine Zso (i := 20) (N := some 71) (pm 30 21) HT_ ?_
            refine Zsp (i := 21) (N := some 72) (pm 30 22) HT_ ?_
            refine Zsp (i := 22) (N := some 73) (pm 30 23) HT_ ?_
            refine Zso (i := 23) (N := some 74) (pm 30 24) HT_ ?_
            refine Zso (i := 24) (N := some 75) (pm 30 25) HT_ ?_
            refine Zso (i := 25) (N := some 76) (pm 30 26) HT_ ?_
            refine Zso (i := 26) (N := some 77) (pm 30 27) HT_ ?_
            refine Zso (i := 27) (N := some 78) (pm 30 28) HT_ ?_
            refine Zso (i := 28) (N := some 79) (pm 30 29) HT_ ?_
            refine Zsp (i := 29) (N := some 80) (pm 30 30) HT_ ?_
            refine done_ (QaH HT_.out (by kernel_rfl)) ?_
            try go_wp2
            go_ret3
            exact ⟨_, _, by first | rfl | (simp [Qar, Qas] <;> rfl) | (simp only [← hji14]; first | rfl | (simp [Qar, Qas] <;> rfl)) | (simp [*, Qar, Qas] <;> rfl), by first | exact Kd.R_nil _ _ _ _ _ | exact Kd.N_nil _ _ _ _ _ | exact Kd.V_nil _ _ _ _ _ | exact Kd.Q_nil _ _ _ _ _ | exact Kd.S_nil _ _ _ _ _, by first | exact Kd.R_nil _ _ _ _ _ | exact Kd.N_nil _ _ _ _ _ | exact Kd.V_nil _ _ _ _ _ | exact Kd.Q_nil _ _ _ _ _ | exact Kd.S_nil _ _ _ _ _, Zb⟩
           rw [if_neg c17] at H
           have c17b0 : (Op.bytesLess ((rdOf ByteArray.empty l0 x12_2).toList) ((rdOf ByteArray.empty l0 (ji14)).toList)) = F := by simpa using c17
           clear c17
           by_cases c19 : ((rdOf ByteArray.empty l0 x12_2).toList) = ((rdOf ByteArray.empty l0 (ji14)).toList)
           ·rw [if_pos c19] at H
            have c19b0 : (((rdOf ByteArray.empty l0 x12_2).toList) == ((rdOf ByteArray.empty l0 (ji14)).toList)) = T := beq_iff_eq.mpr c19
            have c19b1 : (((rdOf ByteArray.empty l0 x12_2).toList) != ((rdOf ByteArray.empty l0 (ji14)).toList)) = F := bne_eq_false_iff_eq.mpr c19
            clear c19
            simp only [Option.some.injEq, Prod.mk.injEq] at H
            obtain ⟨rfl, rfl, rfl⟩ := H
            try go_wp2
            (try (rw [QaW wr]; generalize hq_ : World.drewN wr _ = wr; have n0_ : Aside0 (Below w.heap.size w wr) := ⟨by rw [← hq_]; exact (Zb)⟩; clear HB hq_; have HB := n0_; clear n0_))
            replace HB := Aside0.mk (Qac HB.out)
            have p801 : 0 ≤ (x12_2 : Int) := Ze
            have q801 : x12_2 < (l0.length : Int) := Ze
            obtain ⟨ad801, e801, hx801_0⟩ := Kd.at_string HR0.out x12_2 p801 q801
            have hw801_0 := hx801_0
            cases e801
            replace hx801_0 := Zx HB.out hx801_0
            replace p801 := eq_true p801
            replace q801 := eq_true q801
            have p802 : 0 ≤ ((ji14) : Int) := Ze
            have q802 : (ji14) < (l0.length : Int) := Ze
            obtain ⟨ad802, e802, hx802_0⟩ := Kd.at_string HR0.out (ji14) p802 q802
            have hw802_0 := hx802_0
            obtain rfl : ad801 = ad802 := (by injection e802)
            replace hx802_0 := Zx HB.out hx802_0
            replace p802 := eq_true p802
            replace q802 := eq_true q802
            refine start_ (n := 30) (S := fun w' => w'.cell? (ad801.add (x12_2).toNat) = some (.string (rdOf ByteArray.empty l0 x12_2)) ∧ w'.cell? (ad801.add ((ji14)).toNat) = some (.string (rdOf ByteArray.empty l0 (ji14)))) (ds := []) #[F, F, F, F, F, F, F, F, F, F, F, F, F, F, F, F, F, F, F, F, F, F, F, F, F, F, F, F, F, F] (by kernel_rfl) rfl rfl ⟨((HB.out.cell (World.block_lt_of_cell? w _ hw801_0)).trans hw801_0), ((HB.out.cell (World.block_lt_of_cell? w _ hw802_0)).trans hw802_0)⟩ (fun hHeld => ?_); refine QaC Qaa.tab9 Qaa.bits9 (fun HT_ HW_ => ?_)
            generalize wr.drew = w20 at HB hx801_0 hx802_0 hHeld ⊢
            refine Zsp (i := 0) (N := some 51) (pm 30 1) HT_ ?_
            refine Zsp (i := 1) (N := some 52) (pm 30 2) HT_ ?_
            refine Zsp (i := 2) (N := some 53) (pm 30 3) HT_ ?_
            refine Zsp (i := 3) (N := some 54) (pm 30 4) HT_ ?_
            refine Zsp (i := 4) (N := some 55) (pm 30 5) HT_ ?_
            refine Zsp (i := 5) (N := some 56) (pm 30 6) HT_ ?_
            refine Zsp (i := 7) (N := some 58) #[T, T, T, T, T, T, F, T, F, F, F, F, F, F, F, F, F, F, F, F, F, F, F, F, F, F, F, F, F, F] HT_ ?_
            refine Zsp (i := 8) (N := some 59) #[T, T, T, T, T, T, F, T, T, F, F, F, F, F, F, F, F, F, F, F, F, F, F, F, F, F, F, F, F, F] HT_ ?_
            refine Zsp (i := 9) (N := some 60) #[T, T, T, T, T, T, F, T, T, T, F, F, F, F, F, F, F, F, F, F, F, F, F, F, F, F, F, F, F, F] HT_ ?_
            refine Zsp (i := 10) (N := some 61) #[T, T, T, T, T, T, F, T, T, T, T, F, F, F, F, F, F, F, F, F, F, F, F, F, F, F, F, F, F, F] HT_ ?_
            refine Zst (i := 6) (N := some 57) (pm 30 11) HT_ HW_ hHeld ?_ (hy := by (refine Or.inl ⟨by rfl, ?_⟩; rintro w' ⟨s0, s1⟩; go_simp; with_reducible rfl))
            refine Zst (i := 11) (N := some 62) (pm 30 12) HT_ HW_ hHeld ?_ (hy := by (refine Or.inl ⟨by rfl, ?_⟩; rintro w' ⟨s0, s1⟩; go_simp; with_reducible rfl))
            refine Zsp (i := 12) (N := some 63) (pm 30 13) HT_ ?_
            refine Zsp (i := 13) (N := some 64) (pm 30 14) HT_ ?_
            refine Zsp (i := 14) (N := some 65) (pm 30 15) HT_ ?_
            refine Zso (i := 15) (N := some 66) (pm 30 16) HT_ ?_
            refine Zso (i := 16) (N := some 67) (pm 30 17) HT_ ?_
            refine Zso (i := 17) (N := some 68) (pm 30 18) HT_ ?_
            refine Zso (i := 18) (N := some 69) (pm 30 19) HT_ ?_
            refine Zso (i := 19) (N := some 70) (pm 30 20) HT_ ?_
            refine Zso (i := 20) (N := some 71) (pm 30 21) HT_ ?_
            refine Zsp (i := 21) (N := some 72) (pm 30 22) HT_ ?_
            refine Zsp (i := 22) (N := some 73) (pm 30 23) HT_ ?_
            refine Zso (i := 23) (N := some 74) (pm 30 24) HT_ ?_
            refine Zso (i := 24) (N := some 75) (pm 30 25) HT_ ?_
            refine Zso (i := 25) (N := some 76) (pm 30 26) HT_ ?_
            refine Zso (i := 26) (N := some 77) (pm 30 27) HT_ ?_
            refine Zso (i := 27) (N := some 78) (pm 30 28) HT_ ?_
            refine Zso (i := 28) (N := some 79) (pm 30 29) HT_ ?_
            refine Zsp (i := 29) (N := some 80) (pm 30 30) HT_ ?_
            refine done_ (QaH HT_.out (by kernel_rfl)) ?_
            try go_wp2
            go_ret3
            exact ⟨_, _, by first | rfl | (simp [Qar, Qas] <;> rfl) | (simp only [← hji14]; first | rfl | (simp [Qar, Qas] <;> rfl)) | (simp [*, Qar, Qas] <;> rfl), by first | exact Kd.R_nil _ _ _ _ _ | exact Kd.N_nil _ _ _ _ _ | exact Kd.V_nil _ _ _ _ _ | exact Kd.Q_nil _ _ _ _ _ | exact Kd.S_nil _ _ _ _ _, by first | exact Kd.R_nil _ _ _ _ _ | exact Kd.N_nil _ _ _ _ _ | exact Kd.V_nil _ _ _ _ _ | exact Kd.Q_nil _ _ _ _ _ | exact Kd.S_nil _ _ _ _ _, Zb⟩
           rw [if_neg c19] at H
           have c19b0 : (((rdOf ByteArray.empty l0 x12_2).toList) == ((rdOf ByteArray.empty l0 (ji14)).toList)) = F := beq_eq_false_iff_ne.mpr c19
           have c19b1 : (((rdOf ByteArray.empty l0 x12_2).toList) != ((rdOf ByteArray.empty l0 (ji14)).toList)) = T := bne_iff_ne.mpr c19
           by_cases c21 : x12_2 < (l1.length : Int)
           ·rw [if_pos c21] at H
            have c21b0 : decide (x12_2 < (l1.length : Int)) = T := decide_eq_true c21
            clear c21
            replace H := Option.bind_eq_some_iff.mp H
            obtain ⟨t804, A220, H⟩ := H
            replace H : (if t804 = T then (if x12_2 < (l2.length : Int) then ((Qam.f (rd l2 x12_2) 0 1152921504606846976).bind fun t806 => (if t806 = T then (Qaa.l0 k2 l0 l1 l2 l3 (wrap64 (x12_2 + 1))) else (some (([] : List Int), ([] : List Int), 2)))) else (none)) else (some (([] : List Int), ([] : List Int), 2))) = some (r1, r2, r3) := H
            have A22 := Aside0.mk A220
            clear A220
            by_cases c23 : t804 = T
            ·subst c23
             have H1 : (if x12_2 < (l2.length : Int) then ((Qam.f (rd l2 x12_2) 0 1152921504606846976).bind fun t806 => (if t806 = T then (Qaa.l0 k2 l0 l1 l2 l3 (wrap64 (x12_2 + 1))) else (some (([] : List Int), ([] : List Int), 2)))) else (none)) = some (r1, r2, r3) := by rw [if_pos rfl] at H; exact H
             clear H
             have H := H1
             clear H1
             by_cases c24 : x12_2 < (l2.length : Int)
             ·rw [if_pos c24] at H
              have c24b0 : decide (x12_2 < (l2.length : Int)) = T := decide_eq_true c24
              clear c24
              replace H := Option.bind_eq_some_iff.mp H
              obtain ⟨t806, A250, H⟩ := H
              replace H : (if t806 = T then (Qaa.l0 k2 l0 l1 l2 l3 (wrap64 (x12_2 + 1))) else (some (([] : List Int), ([] : List Int), 2))) = some (r1, r2, r3) := H
              have A25 := Aside0.mk A250
              clear A250
              try go_wp2
              (try (rw [QaW wr]; generalize hq_ : World.drewN wr _ = wr; have n0_ : Aside0 (Below w.heap.size w wr) := ⟨by rw [← hq_]; exact (Zb)⟩; clear HB hq_; have HB := n0_; clear n0_))
              replace HB := Aside0.mk (Qac HB.out)
              have p801 : 0 ≤ (x12_2 : Int) := Ze
              have q801 : x12_2 < (l0.length : Int) := Ze
              obtain ⟨ad801, e801, hx801_0⟩ := Kd.at_string HR0.out x12_2 p801 q801
              have hw801_0 := hx801_0
              cases e801
              replace hx801_0 := Zx HB.out hx801_0
              replace p801 := eq_true p801
              replace q801 := eq_true q801
              have p802 : 0 ≤ ((ji14) : Int) := Ze
              have q802 : (ji14) < (l0.length : Int) := Ze
              obtain ⟨ad802, e802, hx802_0⟩ := Kd.at_string HR0.out (ji14) p802 q802
              have hw802_0 := hx802_0
              obtain rfl : ad801 = ad802 := (by injection e802)
              replace hx802_0 := Zx HB.out hx802_0
              replace p802 := eq_true p802
              replace q802 := eq_true q802
              have p803 : 0 ≤ (x12_2 : Int) := Ze
              have q803 : x12_2 < (l1.length : Int) := Ze
              obtain ⟨ad803, e803, hx803_0⟩ := Kd.at_int HR1.out x12_2 p803 q803
              have hw803_0 := hx803_0
              cases e803
              replace hx803_0 := Zx HB.out hx803_0
              replace p803 := eq_true p803
              replace q803 := eq_true q803
              have p805 : 0 ≤ (x12_2 : Int) := Ze
              have q805 : x12_2 < (l2.length : Int) := Ze
              obtain ⟨ad805, e805, hx805_0⟩ := Kd.at_int HR2.out x12_2 p805 q805
              have hw805_0 := hx805_0
              cases e805
              replace hx805_0 := Zx HB.out hx805_0
              replace p805 := eq_true p805
              replace q805 := eq_true q805
              refine start_ (n := 30) (S := fun w' => w'.cell? (ad801.add (x12_2).toNat) = some (.string (rdOf ByteArray.empty l0 x12_2)) ∧ w'.cell? (ad801.add ((ji14)).toNat) = some (.string (rdOf ByteArray.empty l0 (ji14))) ∧ w'.cell? (ad803.add (x12_2).toNat) = some (.int .i64 (rd l1 x12_2)) ∧ w'.cell? (ad805.add (x12_2).toNat) = some (.int .i64 (rd l2 x12_2))) (ds := []) #[F, F, F, F, F, F, F, F, F, F, F, F, F, F, F, F, F, F, F, F, F, F, F, F, F, F, F, F, F, F] (by kernel_rfl) rfl rfl ⟨((HB.out.cell (World.block_lt_of_cell? w _ hw801_0)).trans hw801_0), ((HB.out.cell (World.block_lt_of_cell? w _ hw802_0)).trans hw802_0), ((HB.out.cell (World.block_lt_of_cell? w _ hw803_0)).trans hw803_0), ((HB.out.cell (World.block_lt_of_cell? w _ hw805_0)).trans hw805_0)⟩ (fun hHeld => ?_); refine QaC Qaa.tab9 Qaa.bits9 (fun HT_ HW_ => ?_)
              generalize wr.drew = w26 at HB hx801_0 hx802_0 hx803_0 hx805_0 hHeld ⊢
              refine Zsp (i := 0) (N := some 51) (pm 30 1) HT_ ?_
              refine Zsp (i := 1) (N := some 52) (pm 30 2) HT_ ?_
              refine Zsp (i := 2) (N := some 53) (pm 30 3) HT_ ?_
              refine Zsp (i := 3) (N := some 54) (pm 30 4) HT_ ?_
              refine Zsp (i := 4) (N := some 55) (pm 30 5) HT_ ?_
              refine Zsp (i := 5) (N := some 56) (pm 30 6) HT_ ?_
              refine Zsp (i := 7) (N := some 58) #[T, T, T, T, T, T, F, T, F, F, F, F, F, F, F, F, F, F, F, F, F, F, F, F, F, F, F, F, F, F] HT_ ?_
              refine Zsp (i := 8) (N := some 59) #[T, T, T, T, T, T, F, T, T, F, F, F, F, F, F, F, F, F, F, F, F, F, F, F, F, F, F, F, F, F] HT_ ?_
              refine Zsp (i := 9) (N := some 60) #[T, T, T, T, T, T, F, T, T, T, F, F, F, F, F, F, F, F, F, F, F, F, F, F, F, F, F, F, F, F] HT_ ?_
              refine Zsp (i := 10) (N := some 61) #[T, T, T, T, T, T, F, T, T, T, T, F, F, F, F, F, F, F, F, F, F, F, F, F, F, F, F, F, F, F] HT_ ?_
              refine Zst (i := 6) (N := some 57) (pm 30 11) HT_ HW_ hHeld ?_ (hy := by (refine Or.inl ⟨by rfl, ?_⟩; rintro w' ⟨s0, s1, s2, s3⟩; go_simp; with_reducible rfl))
              refine Zst (i := 11) (N := some 62) (pm 30 12) HT_ HW_ hHeld ?_ (hy := by (refine Or.inl ⟨by rfl, ?_⟩; rintro w' ⟨s0, s1, s2, s3⟩; go_simp; with_reducible rfl))
              refine Zsp (i := 12) (N := some 63) (pm 30 13) HT_ ?_
              refine Zsp (i := 13) (N := some 64) (pm 30 14) HT_ ?_
              refine Zsp (i := 14) (N := some 65) (pm 30 15) HT_ ?_
              refine Zsp (i := 15) (N := some 66) (pm 30 16) HT_ ?_
              refine Zsp (i := 16) (N := some 67) (pm 30 17) HT_ ?_
              refine Zsp (i := 17) (N := some 68) (pm 30 18) HT_ ?_
              refine Zst (i := 18) (N := some 69) (pm 30 19) HT_ HW_ hHeld ?_ (hy := by (refine Or.inl ⟨by rfl, ?_⟩; rintro w' ⟨s0, s1, s2, s3⟩; go_simp; with_reducible rfl))
              refine one_ (i := 19) (N := some 70) #[T, T, T, T, T, T, T, T, T, T, T, T, T, T, T, T, T, T, T, T, F, F, F, F, F, F, F, F, F, F] rfl rfl (one_of HT_.out (by kernel_rfl)) (by decide) (fun K hK => ?_)
              refine goes_ Try.func78 (by kernel_rfl) rfl #[.int .i64 (rd l1 x12_2), .int .i64 (-1099511627776), .int .i64 1099511627776] (by rfl) rfl rfl (Zl) ?_
              with_reducible refine (Qam.calls (rd l1 x12_2) (-1099511627776) 1099511627776 T _ A22.out).mono ?_
              rintro e w' ⟨rfl, ⟨nd, rfl⟩⟩
              refine ⟨_, rfl, ?_⟩
              refine hK.out _ _ ⟨((HB.out.cell (World.block_lt_of_cell? w _ hw801_0)).trans hw801_0), ((HB.out.cell (World.block_lt_of_cell? w _ hw802_0)).trans hw802_0), ((HB.out.cell (World.block_lt_of_cell? w _ hw803_0)).trans hw803_0), ((HB.out.cell (World.block_lt_of_cell? w _ hw805_0)).trans hw805_0)⟩ (fun hHeld => ?_)
              clear hK K
              refine norm_ (a' := ?_) ?_ ?_
              rotate_left
              ·show Act.put _ (some 70) _ = _
               simp only [Act.put, Zj, Zk, Zm, i64_w, i32_w]
               rfl
              refine Zsp (i := 20) (N := some 71) (pm 30 21) HT_ ?_
              refine Zsp (i := 21) (N := some 72) (pm 30 22) HT_ ?_
              refine Zsp (i := 22) (N := some 73) (pm 30 23) HT_ ?_
              refine Zsp (i := 23) (N := some 74) (pm 30 24) HT_ ?_
              refine Zsp (i := 24) (N := some 75) (pm 30 25) HT_ ?_
              refine Zsp (i := 25) (N := some 76) (pm 30 26) HT_ ?_
              refine Zst (i := 26) (N := some 77) (pm 30 27) HT_ HW_ hHeld ?_ (hy := by (refine Or.inl ⟨by rfl, ?_⟩; rintro w' ⟨s0, s1, s2, s3⟩; go_simp; with_reducible rfl))
              refine one_ (i := 27) (N := some 78) #[T, T, T, T, T, T, T, T, T, T, T, T, T, T, T, T, T, T, T, T, T, T, T, T, T, T, T, T, F, F] rfl rfl (one_of HT_.out (by kernel_rfl)) (by decide) (fun K hK => ?_)
              refine goes_ Try.func78 (by kernel_rfl) rfl #[.int .i64 (rd l2 x12_2), .int .i64 0, .int .i64 1152921504606846976] (by rfl) rfl rfl (Zl) ?_
              with_reducible refine (Qam.calls (rd l2 x12_2) 0 1152921504606846976 t806 _ A25.out).mono ?_
              rintro e w' ⟨rfl, ⟨nd, rfl⟩⟩
              refine ⟨_, rfl, ?_⟩
              refine hK.out _ _ ⟨((HB.out.cell (World.block_lt_of_cell? w _ hw801_0)).trans hw801_0), ((HB.out.cell (World.block_lt_of_cell? w _ hw802_0)).trans hw802_0), ((HB.out.cell (World.block_lt_of_cell? w _ hw803_0)).trans hw803_0), ((HB.out.cell (World.block_lt_of_cell? w _ hw805_0)).trans hw805_0)⟩ (fun hHeld => ?_)
              clear hK K
              refine norm_ (a' := ?_) ?_ ?_
              rotate_left
              ·show Act.put _ (some 78) _ = _
               simp only [Act.put, Zj, Zk, Zm, i64_w, i32_w]
               rfl
              refine Zsp (i := 28) (N := some 79) (pm 30 29) HT_ ?_
              refine Zsp (i := 29) (N := some 80) (pm 30 30) HT_ ?_
              refine done_ (QaH HT_.out (by kernel_rfl)) ?_
              go_upto_if 80 with (fail)
              by_cases c27 : t806 = T
              ·subst c27
               have H1 : (Qaa.l0 k2 l0 l1 l2 l3 (wrap64 (x12_2 + 1))) = some (r1, r2, r3) := by rw [if_pos rfl] at H; exact H
               clear H
               have H := H1
               clear H1
               have H' := Aside0.mk H
               clear H
               go_wp2
               go_roundg k2
               case measure => have := HJ7.out; have := HK2.out; omega
               case rel => exact ⟨(wrap64 (x12_2 + 1)), (Zs), H', ⟨by have := HJ7.out; have := HK2.out; omega⟩, ⟨Zb⟩⟩
              replace c27 := Bool.eq_false_iff.mpr c27
              subst c27
              have H1 : (some (([] : List Int), ([] : List Int), 2)) = some (r1, r2, r3) := by rw [if_neg (show ¬ (F = T) by decide)] at H; exact H
              clear H
              have H := H1
              clear H1
              simp only [Option.some.injEq, Prod.mk.injEq] at H
              obtain ⟨rfl, rfl, rfl⟩ := H
              go_wp2
              go_ret3
              exact ⟨_, _, by first | rfl | (simp [Qar, Qas] <;> rfl) | (simp only [← hji14]; first | rfl | (simp [Qar, Qas] <;> rfl)) | (simp [*, Qar, Qas] <;> rfl), by first | exact Kd.R_nil _ _ _ _ _ | exact Kd.N_nil _ _ _ _ _ | exact Kd.V_nil _ _ _ _ _ | exact Kd.Q_nil _ _ _ _ _ | exact Kd.S_nil _ _ _ _ _, by first | exact Kd.R_nil _ _ _ _ _ | exact Kd.N_nil _ _ _ _ _ | exact Kd.V_nil _ _ _ _ _ | exact Kd.Q_nil _ _ _ _ _ | exact Kd.S_nil _ _ _ _ _, Zb⟩
             rw [if_neg c24] at H
             exact absurd H (by simp)
            replace c23 := Bool.eq_false_iff.mpr c23
            subst c23
            have H1 : (some (([] : List Int), ([] : List Int), 2)) = some (r1, r2, r3) := by rw [if_neg (show ¬ (F = T) by decide)] at H; exact H
            clear H
            have H := H1
            clear H1
            simp only [Option.some.injEq, Prod.mk.injEq] at H
            obtain ⟨rfl, rfl, rfl⟩ := H
            try go_wp2
            (try (rw [QaW wr]; generalize hq_ : World.drewN wr _ = wr; have n0_ : Aside0 (Below w.heap.size w wr) := ⟨by rw [← hq_]; exact (Zb)⟩; clear HB hq_; have HB := n0_; clear n0_))
            replace HB := Aside0.mk (Qac HB.out)
            have p801 : 0 ≤ (x12_2 : Int) := Ze
            have q801 : x12_2 < (l0.length : Int) := Ze
            obtain ⟨ad801, e801, hx801_0⟩ := Kd.at_string HR0.out x12_2 p801 q801
            have hw801_0 := hx801_0
            cases e801
            replace hx801_0 := Zx HB.out hx801_0
            replace p801 := eq_true p801
            replace q801 := eq_true q801
            have p802 : 0 ≤ ((ji14) : Int) := Ze
            have q802 : (ji14) < (l0.length : Int) := Ze
            obtain ⟨ad802, e802, hx802_0⟩ := Kd.at_string HR0.out (ji14) p802 q802
            have hw802_0 := hx802_0
            obtain rfl : ad801 = ad802 := (by injection e802)
            replace hx802_0 := Zx HB.out hx802_0
            replace p802 := eq_true p802
            replace q802 := eq_true q802
            have p803 : 0 ≤ (x12_2 : Int) := Ze
            have q803 : x12_2 < (l1.length : Int) := Ze
            obtain ⟨ad803, e803, hx803_0⟩ := Kd.at_int HR1.out x12_2 p803 q803
            have hw803_0 := hx803_0
            cases e803
            replace hx803_0 := Zx HB.out hx803_0
            replace p803 := eq_true p803
            replace q803 := eq_true q803
            refine start_ (n := 30) (S := fun w' => w'.cell? (ad801.add (x12_2).toNat) = some (.string (rdOf ByteArray.empty l0 x12_2)) ∧ w'.cell? (ad801.add ((ji14)).toNat) = some (.string (rdOf ByteArray.empty l0 (ji14))) ∧ w'.cell? (ad803.add (x12_2).toNat) = some (.int .i64 (rd l1 x12_2))) (ds := []) #[F, F, F, F, F, F, F, F, F, F, F, F, F, F, F, F, F, F, F, F, F, F, F, F, F, F, F, F, F, F] (by kernel_rfl) rfl rfl ⟨((HB.out.cell (World.block_lt_of_cell? w _ hw801_0)).trans hw801_0), ((HB.out.cell (World.block_lt_of_cell? w _ hw802_0)).trans hw802_0), ((HB.out.cell (World.block_lt_of_cell? w _ hw803_0)).trans hw803_0)⟩ (fun hHeld => ?_); refine QaC Qaa.tab9 Qaa.bits9 (fun HT_ HW_ => ?_)
            generalize wr.drew = w28 at HB hx801_0 hx802_0 hx803_0 hHeld ⊢
            refine Zsp (i := 0) (N := some 51) (pm 30 1) HT_ ?_
            refine Zsp (i := 1) (N := some 52) (pm 30 2) HT_ ?_
            refine Zsp (i := 2) (N := some 53) (pm 30 3) HT_ ?_
            refine Zsp (i := 3) (N := some 54) (pm 30 4) HT_ ?_
            refine Zsp (i := 4) (N := some 55) (pm 30 5) HT_ ?_
            refine Zsp (i := 5) (N := some 56) (pm 30 6) HT_ ?_
            refine Zsp (i := 7) (N := some 58) #[T, T, T, T, T, T, F, T, F, F, F, F, F, F, F, F, F, F, F, F, F, F, F, F, F, F, F, F, F, F] HT_ ?_
            refine Zsp (i := 8) (N := some 59) #[T, T, T, T, T, T, F, T, T, F, F, F, F, F, F, F, F, F, F, F, F, F, F, F, F, F, F, F, F, F] HT_ ?_
            refine Zsp (i := 9) (N := some 60) #[T, T, T, T, T, T, F, T, T, T, F, F, F, F, F, F, F, F, F, F, F, F, F, F, F, F, F, F, F, F] HT_ ?_
            refine Zsp (i := 10) (N := some 61) #[T, T, T, T, T, T, F, T, T, T, T, F, F, F, F, F, F, F, F, F, F, F, F, F, F, F, F, F, F, F] HT_ ?_
            refine Zst (i := 6) (N := some 57) (pm 30 11) HT_ HW_ hHeld ?_ (hy := by (refine Or.inl ⟨by rfl, ?_⟩; rintro w' ⟨s0, s1, s2⟩; go_simp; with_reducible rfl))
            refine Zst (i := 11) (N := some 62) (pm 30 12) HT_ HW_ hHeld ?_ (hy := by (refine Or.inl ⟨by rfl, ?_⟩; rintro w' ⟨s0, s1, s2⟩; go_simp; with_reducible rfl))
            refine Zsp (i := 12) (N := some 63) (pm 30 13) HT_ ?_
            refine Zsp (i := 13) (N := some 64) (pm 30 14) HT_ ?_
            refine Zsp (i := 14) (N := some 65) (pm 30 15) HT_ ?_
            refine Zsp (i := 15) (N := some 66) (pm 30 16) HT_ ?_
            refine Zsp (i := 16) (N := some 67) (pm 30 17) HT_ ?_
            refine Zsp (i := 17) (N := some 68) (pm 30 18) HT_ ?_
            refine Zst (i := 18) (N := some 69) (pm 30 19) HT_ HW_ hHeld ?_ (hy := by (refine Or.inl ⟨by rfl, ?_⟩; rintro w' ⟨s0, s1, s2⟩; go_simp; with_reducible rfl))
            refine one_ (i := 19) (N := some 70) #[T, T, T, T, T, T, T, T, T, T, T, T, T, T, T, T, T, T, T, T, F, F, F, F, F, F, F, F, F, F] rfl rfl (one_of HT_.out (by kernel_rfl)) (by decide) (fun K hK => ?_)
            refine goes_ Try.func78 (by kernel_rfl) rfl #[.int .i64 (rd l1 x12_2), .int .i64 (-1099511627776), .int .i64 1099511627776] (by rfl) rfl rfl (Zl) ?_
            with_reducible refine (Qam.calls (rd l1 x12_2) (-1099511627776) 1099511627776 F _ A22.out).mono ?_
            rintro e w' ⟨rfl, ⟨nd, rfl⟩⟩
            refine ⟨_, rfl, ?_⟩
            refine hK.out _ _ ⟨((HB.out.cell (World.block_lt_of_cell? w _ hw801_0)).trans hw801_0), ((HB.out.cell (World.block_lt_of_cell? w _ hw802_0)).trans hw802_0), ((HB.out.cell (World.block_lt_of_cell? w _ hw803_0)).trans hw803_0)⟩ (fun hHeld => ?_)
            clear hK K
            refine norm_ (a' := ?_) ?_ ?_
            rotate_left
            ·show Act.put _ (some 70) _ = _
             simp only [Act.put, Zj, Zk, Zm, i64_w, i32_w]
             rfl
            refine Zsp (i := 20) (N := some 71) (pm 30 21) HT_ ?_
            refine Zsp (i := 21) (N := some 72) (pm 30 22) HT_ ?_
            refine Zsp (i := 22) (N := some 73) (pm 30 23) HT_ ?_
            refine Zso (i := 23) (N := some 74) (pm 30 24) HT_ ?_
            refine Zso (i := 24) (N := some 75) (pm 30 25) HT_ ?_
            refine Zso (i := 25) (N := some 76) (pm 30 26) HT_ ?_
            refine Zso (i := 26) (N := some 77) (pm 30 27) HT_ ?_
            refine Zso (i := 27) (N := some 78) (pm 30 28) HT_ ?_
            refine Zso (i := 28) (N := some 79) (pm 30 29) HT_ ?_
            refine Zsp (i := 29) (N := some 80) (pm 30 30) HT_ ?_
            refine done_ (QaH HT_.out (by kernel_rfl)) ?_
            try go_wp2
            go_ret3
            exact ⟨_, _, by first | rfl | (simp [Qar, Qas] <;> rfl) | (simp only [← hji14]; first | rfl | (simp [Qar, Qas] <;> rfl)) | (simp [*, Qar, Qas] <;> rfl), by first | exact Kd.R_nil _ _ _ _ _ | exact Kd.N_nil _ _ _ _ _ | exact Kd.V_nil _ _ _ _ _ | exact Kd.Q_nil _ _ _ _ _ | exact Kd.S_nil _ _ _ _ _, by first | exact Kd.R_nil _ _ _ _ _ | exact Kd.N_nil _ _ _ _ _ | exact Kd.V_nil _ _ _ _ _ | exact Kd.Q_nil _ _ _ _ _ | exact Kd.S_nil _ _ _ _ _, Zb⟩
           rw [if_neg c21] at H
           exact absurd H (by simp)
          rw [if_neg c16] at H
          exact absurd H (by simp)
         rw [if_neg c15] at H
         exact absurd H (by simp)
        rw [if_neg c13] at H
        exact absurd H (by simp)
       rw [if_neg c12] at H
       have c12b0 : decide (0 < x12_2) = F := decide_eq_false c12
       clear c12
       by_cases c29 : 0 ≤ x12_2
       ·rw [if_pos c29] at H
        have c29b0 : decide (0 ≤ x12_2) = T := decide_eq_true c29
        clear c29
        by_cases c30 : x12_2 < (l1.length : Int)
        ·rw [if_pos c30] at H
         have c30b0 : decide (x12_2 < (l1.length : Int)) = T := decide_eq_true c30
         clear c30
         replace H := Option.bind_eq_some_iff.mp H
         obtain ⟨t808, A310, H⟩ := H
         replace H : (if t808 = T then (if x12_2 < (l2.length : Int) then ((Qam.f (rd l2 x12_2) 0 1152921504606846976).bind fun t810 => (if t810 = T then (Qaa.l0 k2 l0 l1 l2 l3 (wrap64 (x12_2 + 1))) else (some (([] : List Int), ([] : List Int), 2)))) else (none)) else (some (([] : List Int), ([] : List Int), 2))) = some (r1, r2, r3) := H
         have A31 := Aside0.mk A310
         clear A310
         by_cases c32 : t808 = T
         ·subst c32
          have H1 : (if x12_2 < (l2.length : Int) then ((Qam.f (rd l2 x12_2) 0 1152921504606846976).bind fun t810 => (if t810 = T then (Qaa.l0 k2 l0 l1 l2 l3 (wrap64 (x12_2 + 1))) else (some (([] : List Int), ([] : List Int), 2)))) else (none)) = some (r1, r2, r3) := by rw [if_pos rfl] at H; exact H
          clear H
          have H := H1
          clear H1
          by_cases c33 : x12_2 < (l2.length : Int)
          ·rw [if_pos c33] at H
           have c33b0 : decide (x12_2 < (l2.length : Int)) = T := decide_eq_true c33
           clear c33
           replace H := Option.bind_eq_some_iff.mp H
           obtain ⟨t810, A340, H⟩ := H
           replace H : (if t810 = T then (Qaa.l0 k2 l0 l1 l2 l3 (wrap64 (x12_2 + 1))) else (some (([] : List Int), ([] : List Int), 2))) = some (r1, r2, r3) := H
           have A34 := Aside0.mk A340
           clear A340
           try go_wp2
           (try (rw [QaW wr]; generalize hq_ : World.drewN wr _ = wr; have n0_ : Aside0 (Below w.heap.size w wr) := ⟨by rw [← hq_]; exact (Zb)⟩; clear HB hq_; have HB := n0_; clear n0_))
           replace HB := Aside0.mk (Qac HB.out)
           have p807 : 0 ≤ (x12_2 : Int) := Ze
           have q807 : x12_2 < (l1.length : Int) := Ze
           obtain ⟨ad807, e807, hx807_0⟩ := Kd.at_int HR1.out x12_2 p807 q807
           have hw807_0 := hx807_0
           cases e807
           replace hx807_0 := Zx HB.out hx807_0
           replace p807 := eq_true p807
           replace q807 := eq_true q807
           have p809 : 0 ≤ (x12_2 : Int) := Ze
           have q809 : x12_2 < (l2.length : Int) := Ze
           obtain ⟨ad809, e809, hx809_0⟩ := Kd.at_int HR2.out x12_2 p809 q809
           have hw809_0 := hx809_0
           cases e809
           replace hx809_0 := Zx HB.out hx809_0
           replace p809 := eq_true p809
           replace q809 := eq_true q809
           refine start_ (n := 30) (S := fun w' => w'.cell? (ad807.add (x12_2).toNat) = some (.int .i64 (rd l1 x12_2)) ∧ w'.cell? (ad809.add (x12_2).toNat) = some (.int .i64 (rd l2 x12_2))) (ds := []) #[F, F, F, F, F, F, F, F, F, F, F, F, F, F, F, F, F, F, F, F, F, F, F, F, F, F, F, F, F, F] (by kernel_rfl) rfl rfl ⟨((HB.out.cell (World.block_lt_of_cell? w _ hw807_0)).trans hw807_0), ((HB.out.cell (World.block_lt_of_cell? w _ hw809_0)).trans hw809_0)⟩ (fun hHeld => ?_); refine QaC Qaa.tab9 Qaa.bits9 (fun HT_ HW_ => ?_)
           generalize wr.drew = w35 at HB hx807_0 hx809_0 hHeld ⊢
           refine Zsp (i := 0) (N := some 51) (pm 30 1) HT_ ?_
           refine Zsp (i := 1) (N := some 52) (pm 30 2) HT_ ?_
           refine Zsp (i := 2) (N := some 53) (pm 30 3) HT_ ?_
           refine Zso (i := 3) (N := some 54) (pm 30 4) HT_ ?_
           refine Zso (i := 4) (N := some 55) (pm 30 5) HT_ ?_
           refine Zso (i := 5) (N := some 56) (pm 30 6) HT_ ?_
           refine Zso (i := 6) (N := some 57) (pm 30 7) HT_ ?_
           refine Zso (i := 7) (N := some 58) (pm 30 8) HT_ ?_
           refine Zso (i := 8) (N := some 59) (pm 30 9) HT_ ?_
           refine Zso (i := 9) (N := some 60) (pm 30 10) HT_ ?_
           refine Zso (i := 10) (N := some 61) (pm 30 11) HT_ ?_
           refine Zso (i := 11) (N := some 62) (pm 30 12) HT_ ?_
           refine Zso (i := 12) (N := some 63) (pm 30 13) HT_ ?_
           refine Zsp (i := 13) (N := some 64) (pm 30 14) HT_ ?_
           refine Zsp (i := 14) (N := some 65) (pm 30 15) HT_ ?_
           refine Zsp (i := 15) (N := some 66) (pm 30 16) HT_ ?_
           refine Zsp (i := 16) (N := some 67) (pm 30 17) HT_ ?_
           refine Zsp (i := 17) (N := some 68) (pm 30 18) HT_ ?_
           refine Zst (i := 18) (N := some 69) (pm 30 19) HT_ HW_ hHeld ?_ (hy := by (refine Or.inl ⟨by rfl, ?_⟩; rintro w' ⟨s0, s1⟩; go_simp; with_reducible rfl))
           refine one_ (i := 19) (N := some 70) #[T, T, T, T, T, T, T, T, T, T, T, T, T, T, T, T, T, T, T, T, F, F, F, F, F, F, F, F, F, F] rfl rfl (one_of HT_.out (by kernel_rfl)) (by decide) (fun K hK => ?_)
           refine goes_ Try.func78 (by kernel_rfl) rfl #[.int .i64 (rd l1 x12_2), .int .i64 (-1099511627776), .int .i64 1099511627776] (by rfl) rfl rfl (Zl) ?_
           with_reducible refine (Qam.calls (rd l1 x12_2) (-1099511627776) 1099511627776 T _ A31.out).mono ?_
           rintro e w' ⟨rfl, ⟨nd, rfl⟩⟩
           refine ⟨_, rfl, ?_⟩
           refine hK.out _ _ ⟨((HB.out.cell (World.block_lt_of_cell? w _ hw807_0)).trans hw807_0), ((HB.out.cell (World.block_lt_of_cell? w _ hw809_0)).trans hw809_0)⟩ (fun hHeld => ?_)
           clear hK K
           refine norm_ (a' := ?_) ?_ ?_
           rotate_left
           ·show Act.put _ (some 70) _ = _
            simp only [Act.put, Zj, Zk, Zm, i64_w, i32_w]
            rfl
           refine Zsp (i := 20) (N := some 71) (pm 30 21) HT_ ?_
           refine Zsp (i := 21) (N := some 72) (pm 30 22) HT_ ?_
           refine Zsp (i := 22) (N := some 73) (pm 30 23) HT_ ?_
           refine Zsp (i := 23) (N := some 74) (pm 30 24) HT_ ?_
           refine Zsp (i := 24) (N := some 75) (pm 30 25) HT_ ?_
           refine Zsp (i := 25) (N := some 76) (pm 30 26) HT_ ?_
           refine Zst (i := 26) (N := some 77) (pm 30 27) HT_ HW_ hHeld ?_ (hy := by (refine Or.inl ⟨by rfl, ?_⟩; rintro w' ⟨s0, s1⟩; go_simp; with_reducible rfl))
           refine one_ (i := 27) (N := some 78) #[T, T, T, T, T, T, T, T, T, T, T, T, T, T, T, T, T, T, T, T, T, T, T, T, T, T, T, T, F, F] rfl rfl (one_of HT_.out (by kernel_rfl)) (by decide) (fun K hK => ?_)
           refine goes_ Try.func78 (by kernel_rfl) rfl #[.int .i64 (rd l2 x12_2), .int .i64 0, .int .i64 1152921504606846976] (by rfl) rfl rfl (Zl) ?_
           with_reducible refine (Qam.calls (rd l2 x12_2) 0 1152921504606846976 t810 _ A34.out).mono ?_
           rintro e w' ⟨rfl, ⟨nd, rfl⟩⟩
           refine ⟨_, rfl, ?_⟩
           refine hK.out _ _ ⟨((HB.out.cell (World.block_lt_of_cell? w _ hw807_0)).trans hw807_0), ((HB.out.cell (World.block_lt_of_cell? w _ hw809_0)).trans hw809_0)⟩ (fun hHeld => ?_)
           clear hK K
           refine norm_ (a' := ?_) ?_ ?_
           rotate_left
           ·show Act.put _ (some 78) _ = _
            simp only [Act.put, Zj, Zk, Zm, i64_w, i32_w]
            rfl
           refine Zsp (i := 28) (N := some 79) (pm 30 29) HT_ ?_
           refine Zsp (i := 29) (N := some 80) (pm 30 30) HT_ ?_
           refine done_ (QaH HT_.out (by kernel_rfl)) ?_
           go_upto_if 80 with (fail)
           by_cases c36 : t810 = T
           ·subst c36
            have H1 : (Qaa.l0 k2 l0 l1 l2 l3 (wrap64 (x12_2 + 1))) = some (r1, r2, r3) := by rw [if_pos rfl] at H; exact H
            clear H
            have H := H1
            clear H1
            have H' := Aside0.mk H
            clear H
            go_wp2
            go_roundg k2
            case measure => have := HJ7.out; have := HK2.out; omega
            case rel => exact ⟨(wrap64 (x12_2 + 1)), (Zs), H', ⟨by have := HJ7.out; have := HK2.out; omega⟩, ⟨Zb⟩⟩
           replace c36 := Bool.eq_false_iff.mpr c36
           subst c36
           have H1 : (some (([] : List Int), ([] : List Int), 2)) = some (r1, r2, r3) := by rw [if_neg (show ¬ (F = T) by decide)] at H; exact H
           clear H
           have H := H1
           clear H1
           simp only [Option.some.injEq, Prod.mk.injEq] at H
           obtain ⟨rfl, rfl, rfl⟩ := H
           go_wp2
           go_ret3
           exact ⟨_, _, Zq, by first | exact Kd.R_nil _ _ _ _ _ | exact Kd.N_nil _ _ _ _ _ | exact Kd.V_nil _ _ _ _ _ | exact Kd.Q_nil _ _ _ _ _ | exact Kd.S_nil _ _ _ _ _, by first | exact Kd.R_nil _ _ _ _ _ | exact Kd.N_nil _ _ _ _ _ | exact Kd.V_nil _ _ _ _ _ | exact Kd.Q_nil _ _ _ _ _ | exact Kd.S_nil _ _ _ _ _, Zb⟩
          rw [if_neg c33] at H
          exact absurd H (by simp)
         replace c32 := Bool.eq_false_iff.mpr c32
         subst c32
         have H1 : (some (([] : List Int), ([] : List Int), 2)) = some (r1, r2, r3) := by rw [if_neg (show ¬ (F = T) by decide)] at H; exact H
         clear H
         have H := H1
         clear H1
         simp only [Option.some.injEq, Prod.mk.injEq] at H
         obtain ⟨rfl, rfl, rfl⟩ := H
         try go_wp2
         (try (rw [QaW wr]; generalize hq_ : World.drewN wr _ = wr; have n0_ : Aside0 (Below w.heap.size w wr) := ⟨by rw [← hq_]; exact (Zb)⟩; clear HB hq_; have HB := n0_; clear n0_))
         replace HB := Aside0.mk (Qac HB.out)
         have p807 : 0 ≤ (x12_2 : Int) := Ze
         have q807 : x12_2 < (l1.length : Int) := Ze
         obtain ⟨ad807, e807, hx807_0⟩ := Kd.at_int HR1.out x12_2 p807 q807
         have hw807_0 := hx807_0
         cases e807
         replace hx807_0 := Zx HB.out hx807_0
         replace p807 := eq_true p807
         replace q807 := eq_true q807
         refine start_ (n := 30) (S := fun w' => w'.cell? (ad807.add (x12_2).toNat) = some (.int .i64 (rd l1 x12_2))) (ds := []) #[F, F, F, F, F, F, F, F, F, F, F, F, F, F, F, F, F, F, F, F, F, F, F, F, F, F, F, F, F, F] (by kernel_rfl) rfl rfl (((HB.out.cell (World.block_lt_of_cell? w _ hw807_0)).trans hw807_0)) (fun hHeld => ?_); refine QaC Qaa.tab9 Qaa.bits9 (fun HT_ HW_ => ?_)
         generalize wr.drew = w37 at HB hx807_0 hHeld ⊢
         refine Zsp (i := 0) (N := some 51) (pm 30 1) HT_ ?_
         refine Zsp (i := 1) (N := some 52) (pm 30 2) HT_ ?_
         refine Zsp (i := 2) (N := some 53) (pm 30 3) HT_ ?_
         refine Zso (i := 3) (N := some 54) (pm 30 4) HT_ ?_
         refine Zso (i := 4) (N := some 55) (pm 30 5) HT_ ?_
         refine Zso (i := 5) (N := some 56) (pm 30 6) HT_ ?_
         refine Zso (i := 6) (N := some 57) (pm 30 7) HT_ ?_
         refine Zso (i := 7) (N := some 58) (pm 30 8) HT_ ?_
         refine Zso (i := 8) (N := some 59) (pm 30 9) HT_ ?_
         refine Zso (i := 9) (N := some 60) (pm 30 10) HT_ ?_
         refine Zso (i := 10) (N := some 61) (pm 30 11) HT_ ?_
         refine Zso (i := 11) (N := some 62) (pm 30 12) HT_ ?_
         refine Zso (i := 12) (N := some 63) (pm 30 13) HT_ ?_
         refine Zsp (i := 13) (N := some 64) (pm 30 14) HT_ ?_
         refine Zsp (i := 14) (N := some 65) (pm 30 15) HT_ ?_
         refine Zsp (i := 15) (N := some 66) (pm 30 16) HT_ ?_
         refine Zsp (i := 16) (N := some 67) (pm 30 17) HT_ ?_
         refine Zsp (i := 17) (N := some 68) (pm 30 18) HT_ ?_
         refine take_ (i := 18) (N := some 69) (v := ?_) (a' := ?_) #[T, T, T, T, T, T, T, T, T, T, T, T, T, T, T, T, T, T, T, F, F, F, F, F, F, F, F, F, F, F] rfl rfl (Qcq HT_.out HW_.out (by kernel_rfl)) (fun _ _ _ h => h) (Or.inl ⟨by rfl, ?_⟩) hHeld ?_ ?_
         rotate_left
         ·intro w' s0
          go_simp
          with_reducible rfl
         rotate_left
         ·simp only [Act.put, Zj, Zk, Zm, i64_w, i32_w]
          rfl
         refine one_ (i := 19) (N := some 70) #[T, T, T, T, T, T, T, T, T, T, T, T, T, T, T, T, T, T, T, T, F, F, F, F, F, F, F, F, F, F] rfl rfl (one_of HT_.out (by kernel_rfl)) (by decide) (fun K hK => ?_)
         refine goes_ Try.func78 (by kernel_rfl) rfl #[.int .i64 (rd l1 x12_2), .int .i64 (-1099511627776), .int .i64 1099511627776] (by rfl) rfl rfl (Zl) ?_
         with_reducible refine (Qam.calls (rd l1 x12_2) (-1099511627776) 1099511627776 F _ A31.out).mono ?_
         rintro e w' ⟨rfl, ⟨nd, rfl⟩⟩
         refine ⟨_, rfl, ?_⟩
         refine hK.out _ _ (((HB.out.cell (World.block_lt_of_cell? w _ hw807_0)).trans hw807_0)) (fun hHeld => ?_)
         clear hK K
         refine norm_ (a' := ?_) ?_ ?_
         rotate_left
         ·show Act.put _ (some 70) _ = _
          simp only [Act.put, Zj, Zk, Zm, i64_w, i32_w]
          rfl
         refine Zsp (i := 20) (N := some 71) (pm 30 21) HT_ ?_
         refine Zsp (i := 21) (N := some 72) (pm 30 22) HT_ ?_
         refine Zsp (i := 22) (N := some 73) (pm 30 23) HT_ ?_
         refine Zso (i := 23) (N := some 74) (pm 30 24) HT_ ?_
         refine Zso (i := 24) (N := some 75) (pm 30 25) HT_ ?_
         refine Zso (i := 25) (N := some 76) (pm 30 26) HT_ ?_
         refine Zso (i := 26) (N := some 77) (pm 30 27) HT_ ?_
         refine Zso (i := 27) (N := some 78) (pm 30 28) HT_ ?_
         refine Zso (i := 28) (N := some 79) (pm 30 29) HT_ ?_
         refine Zsp (i := 29) (N := some 80) (pm 30 30) HT_ ?_
         refine done_ (QaH HT_.out (by kernel_rfl)) ?_
         try go_wp2
         go_ret3
         exact ⟨_, _, Zq, by first | exact Kd.R_nil _ _ _ _ _ | exact Kd.N_nil _ _ _ _ _ | exact Kd.V_nil _ _ _ _ _ | exact Kd.Q_nil _ _ _ _ _ | exact Kd.S_nil _ _ _ _ _, by first | exact Kd.R_nil _ _ _ _ _ | exact Kd.N_nil _ _ _ _ _ | exact Kd.V_nil _ _ _ _ _ | exact Kd.Q_nil _ _ _ _ _ | exact Kd.S_nil _ _ _ _ _, Zb⟩
        rw [if_neg c30] at H
        exact absurd H (by simp)
       rw [if_neg c29] at H
       exact absurd H (by simp)
      rw [if_neg c11] at H
      have c11b0 : decide (x12_2 < (l0.length : Int)) = F := decide_eq_false c11
      clear c11
      (try simp only [c11b0])
      by_cases c38 : 0 ≤ (l0.length : Int)
      ·rw [if_pos c38] at H
       have c38b0 := eq_true c38
       have c38b1 : decide (0 ≤ (l0.length : Int)) = T := decide_eq_true c38
       clear c38
       by_cases c39 : ((l0.length : Int) : Int).toNat ≤ 35184372088832
       ·rw [if_pos c39] at H
        have c39b0 := eq_true c39
        have c39b1 : decide (((l0.length : Int) : Int).toNat ≤ 35184372088832) = T := decide_eq_true c39
        clear c39
        obtain ⟨y811, hy811⟩ : ∃ y_ : List Int, y_ = (List.replicate ((l0.length : Int) : Int).toNat 0) := ⟨_, rfl⟩
        replace H : (if ([] : List Int).length + l1.length < 17592186044416 then (Qaa.l1 k2 l0 l1 l2 l3 y811 (([] : List Int) ++ l1) 0) else (none)) = some (r1, r2, r3) := by first | (rw [hy811]; with_reducible exact H) | (have H2_ := (Option.bind_some _ _).symm.trans H; rw [hy811]; with_reducible exact H2_) | (have H2_ := (Option.bind_some _ _).symm.trans H; with_reducible exact H2_) | with_reducible exact H | (rw [hy811]; exact H) | exact H
        have Ny811 := Aside0.mk hy811
        clear hy811
        by_cases c40 : ([] : List Int).length + l1.length < 17592186044416
        ·rw [if_pos c40] at H
         have LMc40 := Aside0.mk c40
         clear c40
         obtain ⟨y814, hy814⟩ : ∃ y_ : List Int, y_ = (([] : List Int) ++ l1) := ⟨_, rfl⟩
         replace H : (Qaa.l1 k2 l0 l1 l2 l3 y811 y814 0) = some (r1, r2, r3) := by first | (rw [hy814]; with_reducible exact H) | (have H2_ := (Option.bind_some _ _).symm.trans H; rw [hy814]; with_reducible exact H2_) | (have H2_ := (Option.bind_some _ _).symm.trans H; with_reducible exact H2_) | with_reducible exact H | (rw [hy814]; exact H) | exact H
         have Ny814 := Aside0.mk hy814
         clear hy814
         have H' := Aside0.mk H
         clear H
         go_wp2_with (first | ((with_reducible refine QaI (N := 83) rfl ?_); (try (refine QaQ (by rfl) ?_; dsimp only)); refine Kd.R_make (Kd.int .i64) _ 3 rfl (N := 83) rfl 46 _ _ rfl (l0.length : Int) rfl rfl Try.underlying46 (.int .i64 0) 8 info3 rfl (by decide) (by omega) 0 (ok := fun _ => True) (okp := fun _ => True) rfl (fun _ hk => hk) trivial (Ze) (Nat.le_trans (Nat.mul_le_mul_right _ (Ze : (l0.length : Int).toNat ≤ 35184372088832)) (by omega)) (Below.refl _ _) (Nat.le_refl _) ?_; intro v812 w41 ho42 hb hg_ hnew_; clear hg_ hnew_; (first | rw [← Ny811.out] at ho42 | (simp only [Int.reduceToNat] at ho42; rw [← Ny811.out] at ho42)); have HO813 := Aside0.mk (Kd.R_lower ho42 (Qau (Zb))); replace HB := Aside0.mk (Qao (Zb) hb); clear hb ho42) | ((with_reducible refine Qb5 (b := .append) (xs := #[.tmp 84, .tmp 85]) rfl ?_); (try (refine QaQ (by rfl) ?_; dsimp only)); at_builtin; refine Kd.R_append_rows (Kd.int .i64) (w0 := w) w.heap.size rfl (.tmp 84) (.tmp 85) 46 3 (.int .i64 0) 8 rfl Try.underlying46 info3 rfl (by decide) (by omega) (.slice none 0 0) ([] : List Int) l1 _ _ _ (fun k_ => some k_ ≠ (v812 : Value).ownBlock) (fun _ => False) rfl rfl ?aO ?aR (fun _ _ h => h) (fun _ h => h.elim) ?aF ?aB ?aS ?aL ?_; (case aR => exact Zv (Kd.C_below HR1.out HB.out)); (case aB => exact (Zb)); (case aF => exact (fun k_ hk => Kd.fresh' (Kd.R_lt (Zr HO813.out)) k_ hk)); (case aO => exact ((Kd.R_nil _ _ _ _ (fun k_ => some k_ ≠ (v812 : Value).ownBlock)))); (case aS => exact (Qau (Zb))); (case aL => have := LMc40.out; omega); intro v815 w43 ho hb hg hat; rw [← Ny814.out] at ho; have HO816 := Aside0.mk (ho); replace HO813 := Aside0.mk (Kd.R_after (Kd.R_apart_nil (Zr HO813.out)) hg hat); replace HB := Aside0.mk (hb); clear ho hb hg hat))
         go_loopg [15] k2 (fun kq v15 w' => ∃ (x13_3 : List Int) (x14_3 : List Int) (x15_3 : Int), v15 = .int .i64 x15_3 ∧ Aside0 (Qaa.l1 kq l0 l1 l2 l3 x13_3 x14_3 x15_3 = some (r1, r2, r3)) ∧ Aside0 (kq ≤ k2) ∧ Aside0 (Kd.R (Kd.int .i64) 3 w' w.heap.size (fun k_ => some k_ ≠ (v815 : Value).ownBlock) v812 x13_3) ∧ Aside0 (Kd.R (Kd.int .i64) 3 w' w.heap.size (fun k_ => some k_ ≠ (v812 : Value).ownBlock) v815 x14_3) ∧ Aside0 (Below w.heap.size w w'))
         case atStart => exact ⟨(y811), (y814), (0), (Zs), H', ⟨Nat.le_refl _⟩, ⟨by (with_reducible repeat (first | apply Kd.R_alloc | apply Kd.R_drewN | apply Kd.R_drew)); exact Kd.R_mono HO813.out (fun _ hk => hk.2)⟩, ⟨Zr HO816.out⟩, ⟨Zb⟩⟩
         case round => as_aux_lemma =>
          clear H'
          try clear c1
          try clear c2
          try clear p2
          try clear c3
          try clear c4
          try clear p6
          try clear c7
          try clear p8
          try clear q8
          try clear hx8
          try clear c11
          try clear c11b0
          try clear c12
          try clear c12b0
          try clear c13
          try clear c15
          try clear c16
          try clear c21
          try clear c29
          try clear c29b0
          try clear c30
          try clear c30b0
          try clear c32
          try clear c33
          try clear c33b0
          try clear c36
          try clear c38
          try clear c38b0
          try clear c38b1
          try clear c39
          try clear c39b0
          try clear c39b1
          try clear c40
          try clear hx807_0
          try clear hx809_0
          try clear p807
          try clear p809
          try clear q807
          try clear q809
          obtain ⟨x13_3, x14_3, x15_3, rfl, HA, HK3, HO_13, HO_14, HB⟩ := hrel
          cases gk with
          | zero => exact absurd HA.out (by simp [Qaa.l1])
          | succ k3 =>
           have H := HA.out
           clear HA
           simp only [Qaa.l1] at H
           by_cases c44 : x15_3 < (l3.length : Int)
           ·rw [if_pos c44] at H
            have c44b0 : decide (x15_3 < (l3.length : Int)) = T := decide_eq_true c44
            clear c44
            (try simp only [c44b0])
            by_cases c45 : 0 ≤ x15_3
            ·rw [if_pos c45] at H
             have c45b0 : decide (0 ≤ x15_3) = T := decide_eq_true c45
             clear c45
             replace H := Option.bind_eq_some_iff.mp H
             obtain ⟨t818, A460, H⟩ := H
             replace H : ((Qal.f k3 l0 ((rd_T75 l3 x15_3).f1)).bind fun t820 => (if t818 < 0 then (Qaa.j3 k3 l0 l1 l2 l3 x13_3 x14_3 x15_3 t818 t820 T) else (if t820 < 0 then (Qaa.j3 k3 l0 l1 l2 l3 x13_3 x14_3 x15_3 t818 t820 T) else (if 0 ≤ t818 then (if t818 < (x14_3.length : Int) then (if (rd x14_3 t818) = 0 then (Qaa.j3 k3 l0 l1 l2 l3 x13_3 x14_3 x15_3 t818 t820 T) else (if 0 ≤ t820 then (if t820 < (x14_3.length : Int) then (if (rd x14_3 t820) = 0 then (Qaa.j3 k3 l0 l1 l2 l3 x13_3 x14_3 x15_3 t818 t820 T) else (Qaa.j3 k3 l0 l1 l2 l3 x13_3 x14_3 x15_3 t818 t820 ((decide ((rd x14_3 t818) > 0)) == (decide ((rd x14_3 t820) > 0))))) else (none)) else (none))) else (none)) else (none))))) = some (r1, r2, r3) := H
             have A46 := Aside0.mk A460
             clear A460
             replace H := Option.bind_eq_some_iff.mp H
             obtain ⟨t820, A470, H⟩ := H
             replace H : (if t818 < 0 then (Qaa.j3 k3 l0 l1 l2 l3 x13_3 x14_3 x15_3 t818 t820 T) else (if t820 < 0 then (Qaa.j3 k3 l0 l1 l2 l3 x13_3 x14_3 x15_3 t818 t820 T) else (if 0 ≤ t818 then (if t818 < (x14_3.length : Int) then (if (rd x14_3 t818) = 0 then (Qaa.j3 k3 l0 l1 l2 l3 x13_3 x14_3 x15_3 t818 t820 T) else (if 0 ≤ t820 then (if t820 < (x14_3.length : Int) then (if (rd x14_3 t820) = 0 then (Qaa.j3 k3 l0 l1 l2 l3 x13_3 x14_3 x15_3 t818 t820 T) else (Qaa.j3 k3 l0 l1 l2 l3 x13_3 x14_3 x15_3 t818 t820 ((decide ((rd x14_3 t818) > 0)) == (decide ((rd x14_3 t820) > 0))))) else (none)) else (none))) else (none)) else (none)))) = some (r1, r2, r3) := H
             have A47 := Aside0.mk A470
             clear A470
             have HC48 := Aside0.mk H
             clear H
             try go_wp2
             (try (rw [QaW wr]; generalize hq_ : World.drewN wr _ = wr; have n0_ : Aside0 (Kd.R (Kd.int .i64) 3 wr w.heap.size (fun k_ => some k_ ≠ (v815 : Value).ownBlock) v812 x13_3) := ⟨by rw [← hq_]; exact (Zr HO_13.out)⟩; have n1_ : Aside0 (Kd.R (Kd.int .i64) 3 wr w.heap.size (fun k_ => some k_ ≠ (v812 : Value).ownBlock) v815 x14_3) := ⟨by rw [← hq_]; exact (Zr HO_14.out)⟩; have n2_ : Aside0 (Below w.heap.size w wr) := ⟨by rw [← hq_]; exact (Zb)⟩; clear HO_13 HO_14 HB hq_; have HO_13 := n0_; have HO_14 := n1_; have HB := n2_; clear n0_ n1_ n2_))
             replace HO_13 := Aside0.mk (Kd.R_drew HO_13.out)
             replace HO_14 := Aside0.mk (Kd.R_drew HO_14.out)
             replace HB := Aside0.mk (Qac HB.out)
             have p817 : 0 ≤ (x15_3 : Int) := Ze
             have q817 : x15_3 < (l3.length : Int) := Ze
             obtain ⟨ad817, e817, hx817_0, hx817_1, hx817_2, hx817_3, hx817_4⟩ := at_T75 HR3.out x15_3 p817 q817
             have hw817_4 := hx817_4
             have hw817_3 := hx817_3
             have hw817_2 := hx817_2
             have hw817_1 := hx817_1
             have hw817_0 := hx817_0
             cases e817
             replace hx817_0 := Zx HB.out hx817_0
             replace hx817_1 := Zx HB.out hx817_1
             replace hx817_2 := Zx HB.out hx817_2
             replace hx817_3 := Zx HB.out hx817_3
             replace hx817_4 := Zx HB.out hx817_4
             replace p817 := eq_true p817
             replace q817 := eq_true q817
             have p819 : 0 ≤ (x15_3 : Int) := Ze
             have q819 : x15_3 < (l3.length : Int) := Ze
             obtain ⟨ad819, e819, hx819_0, hx819_1, hx819_2, hx819_3, hx819_4⟩ := at_T75 HR3.out x15_3 p819 q819
             have hw819_4 := hx819_4
             have hw819_3 := hx819_3
             have hw819_2 := hx819_2
             have hw819_1 := hx819_1
             have hw819_0 := hx819_0
             obtain rfl : ad817 = ad819 := (by injection e819)
             replace hx819_0 := Zx HB.out hx819_0
             replace hx819_1 := Zx HB.out hx819_1
             replace hx819_2 := Zx HB.out hx819_2
             replace hx819_3 := Zx HB.out hx819_3
             replace hx819_4 := Zx HB.out hx819_4
             replace p819 := eq_true p819
             replace q819 := eq_true q819
             refine start_ (n := 16) (S := fun w' => w'.cell? (ad817.add ((x15_3).toNat * 5)) = some (.string ((rd_T75 l3 x15_3).f0)) ∧ w'.cell? ⟨(ad817.add ((x15_3).toNat * 5)).block, (ad817.add ((x15_3).toNat * 5)).off + 1, none⟩ = some (.string ((rd_T75 l3 x15_3).f1)) ∧ w'.cell? ⟨(ad817.add ((x15_3).toNat * 5)).block, (ad817.add ((x15_3).toNat * 5)).off + 2, none⟩ = some (.int .i64 ((rd_T75 l3 x15_3).f2)) ∧ w'.cell? ⟨(ad817.add ((x15_3).toNat * 5)).block, (ad817.add ((x15_3).toNat * 5)).off + 3, none⟩ = some (.int .i64 ((rd_T75 l3 x15_3).f3)) ∧ w'.cell? ⟨(ad817.add ((x15_3).toNat * 5)).block, (ad817.add ((x15_3).toNat * 5)).off + 4, none⟩ = some (.int .i64 ((rd_T75 l3 x15_3).f4)) ∧ w'.cell? (ad817.add ((x15_3).toNat * 5)) = some (.string ((rd_T75 l3 x15_3).f0)) ∧ w'.cell? ⟨(ad817.add ((x15_3).toNat * 5)).block, (ad817.add ((x15_3).toNat * 5)).off + 1, none⟩ = some (.string ((rd_T75 l3 x15_3).f1)) ∧ w'.cell? ⟨(ad817.add ((x15_3).toNat * 5)).block, (ad817.add ((x15_3).toNat * 5)).off + 2, none⟩ = some (.int .i64 ((rd_T75 l3 x15_3).f2)) ∧ w'.cell? ⟨(ad817.add ((x15_3).toNat * 5)).block, (ad817.add ((x15_3).toNat * 5)).off + 3, none⟩ = some (.int .i64 ((rd_T75 l3 x15_3).f3)) ∧ w'.cell? ⟨(ad817.add ((x15_3).toNat * 5)).block, (ad817.add ((x15_3).toNat * 5)).off + 4, none⟩ = some (.int .i64 ((rd_T75 l3 x15_3).f4))) (ds := []) #[F, F, F, F, F, F, F, F, F, F, F, F, F, F, F, F] (by kernel_rfl) rfl rfl ⟨((HB.out.cell (World.block_lt_of_cell? w _ hw817_0)).trans hw817_0), ((HB.out.cell (World.block_lt_of_cell? w _ hw817_1)).trans hw817_1), ((HB.out.cell (World.block_lt_of_cell? w _ hw817_2)).trans hw817_2), ((HB.out.cell (World.block_lt_of_cell? w _ hw817_3)).trans hw817_3), ((HB.out.cell (World.block_lt_of_cell? w _ hw817_4)).trans hw817_4), ((HB.out.cell (World.block_lt_of_cell? w _ hw819_0)).trans hw819_0), ((HB.out.cell (World.block_lt_of_cell? w _ hw819_1)).trans hw819_1), ((HB.out.cell (World.block_lt_of_cell? w _ hw819_2)).trans hw819_2), ((HB.out.cell (World.block_lt_of_cell? w _ hw819_3)).trans hw819_3), ((HB.out.cell (World.block_lt_of_cell? w _ hw819_4)).trans hw819_4)⟩ (fun hHeld => ?_); refine QaC Qaa.tab17 Qaa.bits17 (fun HT_ HW_ => ?_)
             generalize wr.drew = w49 at HO_13 HO_14 HB hx817_0 hx817_1 hx817_2 hx817_3 hx817_4 hx819_0 hx819_1 hx819_2 hx819_3 hx819_4 hHeld ⊢
             refine Zsp (i := 0) (N := some 93) (pm 16 1) HT_ ?_
             refine Zsp (i := 1) (N := some 94) (pm 16 2) HT_ ?_
             refine Zsp (i := 2) (N := some 95) (pm 16 3) HT_ ?_
             refine Zsp (i := 3) (N := some 96) (pm 16 4) HT_ ?_
             refine Zsp (i := 4) (N := some 97) (pm 16 5) HT_ ?_
             refine Zsp (i := 7) (N := some 100) #[T, T, T, T, T, F, F, T, F, F, F, F, F, F, F, F] HT_ ?_
             refine Zsp (i := 8) (N := some 101) #[T, T, T, T, T, F, F, T, T, F, F, F, F, F, F, F] HT_ ?_
             refine Zsp (i := 9) (N := some 102) #[T, T, T, T, T, F, F, T, T, T, F, F, F, F, F, F] HT_ ?_
             refine Zsp (i := 10) (N := some 103) #[T, T, T, T, T, F, F, T, T, T, T, F, F, F, F, F] HT_ ?_
             refine Zsp (i := 11) (N := some 104) #[T, T, T, T, T, F, F, T, T, T, T, T, F, F, F, F] HT_ ?_
             refine Zst (i := 5) (N := some 98) #[T, T, T, T, T, T, F, T, T, T, T, T, F, F, F, F] HT_ HW_ hHeld ?_ (hy := by (refine Or.inl ⟨by rfl, ?_⟩; rintro w' ⟨s0, s1, s2, s3, s4, s5, s6, s7, s8, s9⟩; go_simp; with_reducible rfl))
             refine Zst (i := 12) (N := some 105) #[T, T, T, T, T, T, F, T, T, T, T, T, T, F, F, F] HT_ HW_ hHeld ?_ (hy := by (refine Or.inl ⟨by rfl, ?_⟩; rintro w' ⟨s0, s1, s2, s3, s4, s5, s6, s7, s8, s9⟩; go_simp; with_reducible rfl))
             refine one_ (i := 6) (N := some 99) #[T, T, T, T, T, T, T, T, T, T, T, T, T, F, F, F] rfl rfl (one_of HT_.out (by kernel_rfl)) (by decide) (fun K hK => ?_)
             refine goes_ Try.func79 (by kernel_rfl) rfl #[.slice A0 l0.length c0, .string ((rd_T75 l3 x15_3).f0)] (by rfl) rfl rfl (Zl) ?_
             with_reducible refine (Qal.calls k3 _ _ l0 ((rd_T75 l3 x15_3).f0) t818 _ ?side1 ?side2 A46.out).mono ?_
             (case side1 => exact Zv (Kd.C_below HR0.out HB.out))
             (case side2 => exact HC0.out)
             rintro e w' ⟨rfl, ⟨nd, rfl⟩⟩
             refine ⟨_, rfl, ?_⟩
             refine hK.out _ _ ⟨((HB.out.cell (World.block_lt_of_cell? w _ hw817_0)).trans hw817_0), ((HB.out.cell (World.block_lt_of_cell? w _ hw817_1)).trans hw817_1), ((HB.out.cell (World.block_lt_of_cell? w _ hw817_2)).trans hw817_2), ((HB.out.cell (World.block_lt_of_cell? w _ hw817_3)).trans hw817_3), ((HB.out.cell (World.block_lt_of_cell? w _ hw817_4)).trans hw817_4), ((HB.out.cell (World.block_lt_of_cell? w _ hw819_0)).trans hw819_0), ((HB.out.cell (World.block_lt_of_cell? w _ hw819_1)).trans hw819_1), ((HB.out.cell (World.block_lt_of_cell? w _ hw819_2)).trans hw819_2), ((HB.out.cell (World.block_lt_of_cell? w _ hw819_3)).trans hw819_3), ((HB.out.cell (World.block_lt_of_cell? w _ hw819_4)).trans hw819_4)⟩ (fun hHeld => ?_)
             clear hK K
             refine norm_ (a' := ?_) ?_ ?_
             rotate_left
             ·show Act.put _ (some 99) _ = _
              simp only [Act.put, Zj, Zk, Zm, i64_w, i32_w]
              rfl
             refine one_ (i := 13) (N := some 106) #[T, T, T, T, T, T, T, T, T, T, T, T, T, T, F, F] rfl rfl (one_of HT_.out (by kernel_rfl)) (by decide) (fun K hK => ?_)
             refine goes_ Try.func79 (by kernel_rfl) rfl #[.slice A0 l0.length c0, .string ((rd_T75 l3 x15_3).f1)] (by rfl) rfl rfl (Zl) ?_
             with_reducible refine (Qal.calls k3 _ _ l0 ((rd_T75 l3 x15_3).f1) t820 _ ?side1 ?side2 A47.out).mono ?_
             (case side1 => exact Zv (Kd.C_below HR0.out (Zb)))
             (case side2 => exact HC0.out)
             rintro e w' ⟨rfl, ⟨nd, rfl⟩⟩
             refine ⟨_, rfl, ?_⟩
             refine hK.out _ _ ⟨((HB.out.cell (World.block_lt_of_cell? w _ hw817_0)).trans hw817_0), ((HB.out.cell (World.block_lt_of_cell? w _ hw817_1)).trans hw817_1), ((HB.out.cell (World.block_lt_of_cell? w _ hw817_2)).trans hw817_2), ((HB.out.cell (World.block_lt_of_cell? w _ hw817_3)).trans hw817_3), ((HB.out.cell (World.block_lt_of_cell? w _ hw817_4)).trans hw817_4), ((HB.out.cell (World.block_lt_of_cell? w _ hw819_0)).trans hw819_0), ((HB.out.cell (World.block_lt_of_cell? w _ hw819_1)).trans hw819_1), ((HB.out.cell (World.block_lt_of_cell? w _ hw819_2)).trans hw819_2), ((HB.out.cell (World.block_lt_of_cell? w _ hw819_3)).trans hw819_3), ((HB.out.cell (World.block_lt_of_cell? w _ hw819_4)).trans hw819_4)⟩ (fun hHeld => ?_)
             clear hK K
             refine norm_ (a' := ?_) ?_ ?_
             rotate_left
             ·show Act.put _ (some 106) _ = _
              simp only [Act.put, Zj, Zk, Zm, i64_w, i32_w]
              rfl
             refine Zsp (i := 14) (N := some 16) (pm 16 15) HT_ ?_
             refine Zsp (i := 15) (N := some 17) (pm 16 16) HT_ ?_
             refine done_ (QaH HT_.out (by kernel_rfl)) ?_
             go_upto_region 18 with (fail)
             go_cut [139] (fun v139 wc => ∃ (kq : Nat) (x139_47 : Bool), v139 = .bool x139_47 ∧ Aside0 (Qaa.j3 kq l0 l1 l2 l3 x13_3 x14_3 x15_3 t818 t820 x139_47 = some (r1, r2, r3)) ∧ Aside0 (kq ≤ k3) ∧ Aside0 (Kd.R (Kd.int .i64) 3 wc w.heap.size (fun k_ => some k_ ≠ (v815 : Value).ownBlock) v812 x13_3) ∧ Aside0 (Kd.R (Kd.int .i64) 3 wc w.heap.size (fun k_ => some k_ ≠ (v812 : Value).ownBlock) v815 x14_3) ∧ Aside0 (Below w.heap.size w wc))
             case first => as_aux_lemma =>
              have H := HC48.out
              clear HC48
              by_cases c50 : t818 < 0
              ·rw [if_pos c50] at H
               have c50b0 : decide (t818 < 0) = T := decide_eq_true c50
               clear c50
               (first | rw [c50b0] | (simp only [i64_w, i32_w]; rw [c50b0]) | skip)
               have H' := Aside0.mk H
               clear H
               try go_wp2
               (try (rw [QaW w49]; generalize hq_ : World.drewN w49 _ = w49; have n0_ : Aside0 (Kd.R (Kd.int .i64) 3 w49 w.heap.size (fun k_ => some k_ ≠ (v815 : Value).ownBlock) v812 x13_3) := ⟨by rw [← hq_]; exact (Zr HO_13.out)⟩; have n1_ : Aside0 (Kd.R (Kd.int .i64) 3 w49 w.heap.size (fun k_ => some k_ ≠ (v812 : Value).ownBlock) v815 x14_3) := ⟨by rw [← hq_]; exact (Zr HO_14.out)⟩; have n2_ : Aside0 (Below w.heap.size w w49) := ⟨by rw [← hq_]; exact (Zb)⟩; clear HO_13 HO_14 HB hq_; have HO_13 := n0_; have HO_14 := n1_; have HB := n2_; clear n0_ n1_ n2_))
               replace HO_13 := Aside0.mk (Kd.R_drew HO_13.out)
               replace HO_14 := Aside0.mk (Kd.R_drew HO_14.out)
               replace HB := Aside0.mk (Qac HB.out)
               refine start_ (n := 33) (S := fun w' => True) (ds := []) #[F, F, F, F, F, F, F, F, F, F, F, F, F, F, F, F, F, F, F, F, F, F, F, F, F, F, F, F, F, F, F, F, F] (by kernel_rfl) rfl rfl trivial (fun hHeld => ?_); refine QaC Qaa.tab18 Qaa.bits18 (fun HT_ HW_ => ?_)
               generalize w49.drew = w51 at HO_13 HO_14 HB hHeld ⊢
               refine Zsp (i := 0) (N := some 107) (pm 33 1) HT_ ?_
               refine Zsp (i := 1) (N := some 108) (pm 33 2) HT_ ?_
               refine Zsp (i := 2) (N := some 109) (pm 33 3) HT_ ?_
               refine Zso (i := 3) (N := some 110) (pm 33 4) HT_ ?_
               refine Zso (i := 4) (N := some 111) (pm 33 5) HT_ ?_
               refine Zsp (i := 5) (N := some 112) (pm 33 6) HT_ ?_
               refine Zsp (i := 6) (N := some 113) (pm 33 7) HT_ ?_
               refine Zso (i := 7) (N := some 114) (pm 33 8) HT_ ?_
               refine Zso (i := 8) (N := some 115) (pm 33 9) HT_ ?_
               refine Zso (i := 9) (N := some 116) (pm 33 10) HT_ ?_
               refine Zso (i := 10) (N := some 117) (pm 33 11) HT_ ?_
               refine Zso (i := 11) (N := some 118) (pm 33 12) HT_ ?_
               refine Zsp (i := 12) (N := some 119) (pm 33 13) HT_ ?_
               refine Zsp (i := 13) (N := some 120) (pm 33 14) HT_ ?_
               refine Zso (i := 14) (N := some 121) (pm 33 15) HT_ ?_
               refine Zso (i := 15) (N := some 122) (pm 33 16) HT_ ?_
               refine Zso (i := 16) (N := some 123) (pm 33 17) HT_ ?_
               refine Zso (i := 17) (N := some 124) (pm 33 18) HT_ ?_
               refine Zso (i := 18) (N := some 125) (pm 33 19) HT_ ?_
               refine Zsp (i := 19) (N := some 126) (pm 33 20) HT_ ?_
               refine Zsp (i := 20) (N := some 127) (pm 33 21) HT_ ?_
               refine Zso (i := 21) (N := some 128) (pm 33 22) HT_ ?_
               refine Zso (i := 22) (N := some 129) (pm 33 23) HT_ ?_
               refine Zso (i := 23) (N := some 130) (pm 33 24) HT_ ?_
               refine Zso (i := 24) (N := some 131) (pm 33 25) HT_ ?_
               refine Zso (i := 25) (N := some 132) (pm 33 26) HT_ ?_
               refine Zso (i := 26) (N := some 133) (pm 33 27) HT_ ?_
               refine Zso (i := 27) (N := some 134) (pm 33 28) HT_ ?_
               refine Zso (i := 28) (N := some 135) (pm 33 29) HT_ ?_
               refine Zso (i := 29) (N := some 136) (pm 33 30) HT_ ?_
               refine Zso (i := 30) (N := some 137) (pm 33 31) HT_ ?_
               refine Zso (i := 31) (N := some 138) (pm 33 32) HT_ ?_
               refine Zsp (i := 32) (N := some 139) (pm 33 33) HT_ ?_
               refine done_ (QaH HT_.out (by kernel_rfl)) ?_
               try go_wp2
               go_meet
               case rel => exact ⟨_, (T), (Zs), H', ⟨by have := HJ7.out; have := HK2.out; have := HK3.out; first | omega | exact Nat.le_refl _⟩, ⟨Zr HO_13.out⟩, ⟨Zr HO_14.out⟩, ⟨Zb⟩⟩
              rw [if_neg c50] at H
              have c50b0 : decide (t818 < 0) = F := decide_eq_false c50
              clear c50
              (first | rw [c50b0] | (simp only [i64_w, i32_w]; rw [c50b0]) | skip)
              by_cases c52 : t820 < 0
              ·rw [if_pos c52] at H
               have c52b0 : decide (t820 < 0) = T := decide_eq_true c52
               clear c52
               have H' := Aside0.mk H
               clear H
               try go_wp2
               (try (rw [QaW w49]; generalize hq_ : World.drewN w49 _ = w49; have n0_ : Aside0 (Kd.R (Kd.int .i64) 3 w49 w.heap.size (fun k_ => some k_ ≠ (v815 : Value).ownBlock) v812 x13_3) := ⟨by rw [← hq_]; exact (Zr HO_13.out)⟩; have n1_ : Aside0 (Kd.R (Kd.int .i64) 3 w49 w.heap.size (fun k_ => some k_ ≠ (v812 : Value).ownBlock) v815 x14_3) := ⟨by rw [← hq_]; exact (Zr HO_14.out)⟩; have n2_ : Aside0 (Below w.heap.size w w49) := ⟨by rw [← hq_]; exact (Zb)⟩; clear HO_13 HO_14 HB hq_; have HO_13 := n0_; have HO_14 := n1_; have HB := n2_; clear n0_ n1_ n2_))
               replace HO_13 := Aside0.mk (Kd.R_drew HO_13.out)
               replace HO_14 := Aside0.mk (Kd.R_drew HO_14.out)
               replace HB := Aside0.mk (Qac HB.out)
               refine start_ (n := 33) (S := fun w' => True) (ds := []) #[F, F, F, F, F, F, F, F, F, F, F, F, F, F, F, F, F, F, F, F, F, F, F, F, F, F, F, F, F, F, F, F, F] (by kernel_rfl) rfl rfl trivial (fun hHeld => ?_); refine QaC Qaa.tab18 Qaa.bits18 (fun HT_ HW_ => ?_)
               generalize w49.drew = w53 at HO_13 HO_14 HB hHeld ⊢
               refine Zsp (i := 0) (N := some 107) (pm 33 1) HT_ ?_
               refine Zsp (i := 1) (N := some 108) (pm 33 2) HT_ ?_
               refine Zsp (i := 2) (N := some 109) (pm 33 3) HT_ ?_
               refine Zsp (i := 3) (N := some 110) (pm 33 4) HT_ ?_
               refine Zsp (i := 4) (N := some 111) (pm 33 5) HT_ ?_
               refine Zsp (i := 5) (N := some 112) (pm 33 6) HT_ ?_
               refine Zsp (i := 6) (N := some 113) (pm 33 7) HT_ ?_
               refine Zso (i := 7) (N := some 114) (pm 33 8) HT_ ?_
               refine Zso (i := 8) (N := some 115) (pm 33 9) HT_ ?_
               refine Zso (i := 9) (N := some 116) (pm 33 10) HT_ ?_
               refine Zso (i := 10) (N := some 117) (pm 33 11) HT_ ?_
               refine Zso (i := 11) (N := some 118) (pm 33 12) HT_ ?_
               refine Zsp (i := 12) (N := some 119) (pm 33 13) HT_ ?_
               refine Zsp (i := 13) (N := some 120) (pm 33 14) HT_ ?_
               refine Zso (i := 14) (N := some 121) (pm 33 15) HT_ ?_
               refine Zso (i := 15) (N := some 122) (pm 33 16) HT_ ?_
               refine Zso (i := 16) (N := some 123) (pm 33 17) HT_ ?_
               refine Zso (i := 17) (N := some 124) (pm 33 18) HT_ ?_
               refine Zso (i := 18) (N := some 125) (pm 33 19) HT_ ?_
               refine Zsp (i := 19) (N := some 126) (pm 33 20) HT_ ?_
               refine Zsp (i := 20) (N := some 127) (pm 33 21) HT_ ?_
               refine Zso (i := 21) (N := some 128) (pm 33 22) HT_ ?_
               refine Zso (i := 22) (N := some 129) (pm 33 23) HT_ ?_
               refine Zso (i := 23) (N := some 130) (pm 33 24) HT_ ?_
               refine Zso (i := 24) (N := some 131) (pm 33 25) HT_ ?_
               refine Zso (i := 25) (N := some 132) (pm 33 26) HT_ ?_
               refine Zso (i := 26) (N := some 133) (pm 33 27) HT_ ?_
               refine Zso (i := 27) (N := some 134) (pm 33 28) HT_ ?_
               refine Zso (i := 28) (N := some 135) (pm 33 29) HT_ ?_
               refine Zso (i := 29) (N := some 136) (pm 33 30) HT_ ?_
               refine Zso (i := 30) (N := some 137) (pm 33 31) HT_ ?_
               refine Zso (i := 31) (N := some 138) (pm 33 32) HT_ ?_
               refine Zsp (i := 32) (N := some 139) (pm 33 33) HT_ ?_
               refine done_ (QaH HT_.out (by kernel_rfl)) ?_
               try go_wp2
               go_meet
               case rel => exact ⟨_, (T), (Zs), H', ⟨by have := HJ7.out; have := HK2.out; have := HK3.out; first | omega | exact Nat.le_refl _⟩, ⟨Zr HO_13.out⟩, ⟨Zr HO_14.out⟩, ⟨Zb⟩⟩
              rw [if_neg c52] at H
              have c52b0 : decide (t820 < 0) = F := decide_eq_false c52
              clear c52
              by_cases c54 : 0 ≤ t818
              ·rw [if_pos c54] at H
               have c54b0 : decide (0 ≤ t818) = T := decide_eq_true c54
               clear c54
               by_cases c55 : t818 < (x14_3.length : Int)
               ·rw [if_pos c55] at H
                have c55b0 : decide (t818 < (x14_3.length : Int)) = T := decide_eq_true c55
                clear c55
                by_cases c56 : (rd x14_3 t818) = 0
                ·rw [if_pos c56] at H
                 have c56b0 : ((rd x14_3 t818) == 0) = T := beq_iff_eq.mpr c56
                 have c56b1 : ((rd x14_3 t818) != 0) = F := bne_eq_false_iff_eq.mpr c56
                 clear c56
                 have H' := Aside0.mk H
                 clear H
                 try go_wp2
                 (try (rw [QaW w49]; generalize hq_ : World.drewN w49 _ = w49; have n0_ : Aside0 (Kd.R (Kd.int .i64) 3 w49 w.heap.size (fun k_ => some k_ ≠ (v815 : Value).ownBlock) v812 x13_3) := ⟨by rw [← hq_]; exact (Zr HO_13.out)⟩; have n1_ : Aside0 (Kd.R (Kd.int .i64) 3 w49 w.heap.size (fun k_ => some k_ ≠ (v812 : Value).ownBlock) v815 x14_3) := ⟨by rw [← hq_]; exact (Zr HO_14.out)⟩; have n2_ : Aside0 (Below w.heap.size w w49) := ⟨by rw [← hq_]; exact (Zb)⟩; clear HO_13 HO_14 HB hq_; have HO_13 := n0_; have HO_14 := n1_; have HB := n2_; clear n0_ n1_ n2_))
                 replace HO_13 := Aside0.mk (Kd.R_drew HO_13.out)
                 replace HO_14 := Aside0.mk (Kd.R_drew HO_14.out)
                 replace HB := Aside0.mk (Qac HB.out)
                 obtain ⟨Ao58, co58, eo58⟩ := Kd.R_slice HO_14.out
                 (first | subst eo58 | (injection eo58 with f1_ f2_ f3_; have f4_ := f1_.symm; have f5_ := f3_.symm; clear f1_ f2_ f3_; subst f4_; subst f5_))
                 have p821 : 0 ≤ (t818 : Int) := Ze
                 have q821 : t818 < (x14_3.length : Int) := Ze
                 obtain ⟨ad821, e821, hx821_0⟩ := Kd.at_int (Kd.R_reads' HO_14.out).2.2 t818 p821 q821
                 cases e821
                 replace p821 := eq_true p821
                 replace q821 := eq_true q821
                 refine start_ (n := 33) (S := fun w' => w'.cell? (ad821.add (t818).toNat) = some (.int .i64 (rd x14_3 t818))) (ds := []) #[F, F, F, F, F, F, F, F, F, F, F, F, F, F, F, F, F, F, F, F, F, F, F, F, F, F, F, F, F, F, F, F, F] (by kernel_rfl) rfl rfl (hx821_0) (fun hHeld => ?_); refine QaC Qaa.tab18 Qaa.bits18 (fun HT_ HW_ => ?_)
                 generalize w49.drew = w57 at HO_13 HO_14 HB hx821_0 hHeld ⊢
                 refine Zsp (i := 0) (N := some 107) (pm 33 1) HT_ ?_
                 refine Zsp (i := 1) (N := some 108) (pm 33 2) HT_ ?_
                 refine Zsp (i := 2) (N := some 109) (pm 33 3) HT_ ?_
                 refine Zsp (i := 3) (N := some 110) (pm 33 4) HT_ ?_
                 refine Zsp (i := 4) (N := some 111) (pm 33 5) HT_ ?_
                 refine Zsp (i := 5) (N := some 112) (pm 33 6) HT_ ?_
                 refine Zsp (i := 6) (N := some 113) (pm 33 7) HT_ ?_
                 refine Zsp (i := 7) (N := some 114) (pm 33 8) HT_ ?_
                 refine Zsp (i := 8) (N := some 115) (pm 33 9) HT_ ?_
                 refine Zsp (i := 9) (N := some 116) (pm 33 10) HT_ ?_
                 refine take_ (i := 10) (N := some 117) (v := ?_) (a' := ?_) #[T, T, T, T, T, T, T, T, T, T, T, F, F, F, F, F, F, F, F, F, F, F, F, F, F, F, F, F, F, F, F, F, F] rfl rfl (Qcq HT_.out HW_.out (by kernel_rfl)) (fun _ _ _ h => h) (Or.inl ⟨by rfl, ?_⟩) hHeld ?_ ?_
                 rotate_left
                 ·intro w' s0
                  go_simp
                  with_reducible rfl
                 rotate_left
                 ·simp only [Act.put, Zj, Zk, Zm, i64_w, i32_w]
                  rfl
                 refine Zsp (i := 11) (N := some 118) (pm 33 12) HT_ ?_
                 refine Zsp (i := 12) (N := some 119) (pm 33 13) HT_ ?_
                 refine Zsp (i := 13) (N := some 120) (pm 33 14) HT_ ?_
                 refine Zso (i := 14) (N := some 121) (pm 33 15) HT_ ?_
                 refine Zso (i := 15) (N := some 122) (pm 33 16) HT_ ?_
                 refine Zso (i := 16) (N := some 123) (pm 33 17) HT_ ?_
                 refine Zso (i := 17) (N := some 124) (pm 33 18) HT_ ?_
                 refine Zso (i := 18) (N := some 125) (pm 33 19) HT_ ?_
                 refine Zsp (i := 19) (N := some 126) (pm 33 20) HT_ ?_
                 refine Zsp (i := 20) (N := some 127) (pm 33 21) HT_ ?_
                 refine Zso (i := 21) (N := some 128) (pm 33 22) HT_ ?_
                 refine Zso (i := 22) (N := some 129) (pm 33 23) HT_ ?_
                 refine Zso (i := 23) (N := some 130) (pm 33 24) HT_ ?_
                 refine Zso (i := 24) (N := some 131) (pm 33 25) HT_ ?_
                 refine Zso (i := 25) (N := some 132) (pm 33 26) HT_ ?_
                 refine Zso (i := 26) (N := some 133) (pm 33 27) HT_ ?_
                 refine Zso (i := 27) (N := some 134) (pm 33 28) HT_ ?_
                 refine Zso (i := 28) (N := some 135) (pm 33 29) HT_ ?_
                 refine Zso (i := 29) (N := some 136) (pm 33 30) HT_ ?_
                 refine Zso (i := 30) (N := some 137) (pm 33 31) HT_ ?_
                 refine Zso (i := 31) (N := some 138) (pm 33 32) HT_ ?_
                 refine Zsp (i := 32) (N := some 139) (pm 33 33) HT_ ?_
                 refine done_ (QaH HT_.out (by kernel_rfl)) ?_
                 try go_wp2
                 go_meet
                 case rel => exact ⟨_, (T), (Zs), H', ⟨by have := HJ7.out; have := HK2.out; have := HK3.out; first | omega | exact Nat.le_refl _⟩, ⟨Zr HO_13.out⟩, ⟨Zr HO_14.out⟩, ⟨Zb⟩⟩
                rw [if_neg c56] at H
                have c56b0 : ((rd x14_3 t818) == 0) = F := beq_eq_false_iff_ne.mpr c56
                have c56b1 : ((rd x14_3 t818) != 0) = T := bne_iff_ne.mpr c56
                by_cases c59 : 0 ≤ t820
                ·rw [if_pos c59] at H
                 have c59b0 : decide (0 ≤ t820) = T := decide_eq_true c59
                 clear c59
                 by_cases c60 : t820 < (x14_3.length : Int)
                 ·rw [if_pos c60] at H
                  have c60b0 : decide (t820 < (x14_3.length : Int)) = T := decide_eq_true c60
                  clear c60
                  by_cases c61 : (rd x14_3 t820) = 0
                  ·rw [if_pos c61] at H
                   have c61b0 : ((rd x14_3 t820) == 0) = T := beq_iff_eq.mpr c61
                   have c61b1 : ((rd x14_3 t820) != 0) = F := bne_eq_false_iff_eq.mpr c61
                   clear c61
                   have H' := Aside0.mk H
                   clear H
                   try go_wp2
                   (try (rw [QaW w49]; generalize hq_ : World.drewN w49 _ = w49; have n0_ : Aside0 (Kd.R (Kd.int .i64) 3 w49 w.heap.size (fun k_ => some k_ ≠ (v815 : Value).ownBlock) v812 x13_3) := ⟨by rw [← hq_]; exact (Zr HO_13.out)⟩; have n1_ : Aside0 (Kd.R (Kd.int .i64) 3 w49 w.heap.size (fun k_ => some k_ ≠ (v812 : Value).ownBlock) v815 x14_3) := ⟨by rw [← hq_]; exact (Zr HO_14.out)⟩; have n2_ : Aside0 (Below w.heap.size w w49) := ⟨by rw [← hq_]; exact (Zb)⟩; clear HO_13 HO_14 HB hq_; have HO_13 := n0_; have HO_14 := n1_; have HB := n2_; clear n0_ n1_ n2_))
                   replace HO_13 := Aside0.mk (Kd.R_drew HO_13.out)
                   replace HO_14 := Aside0.mk (Kd.R_drew HO_14.out)
                   replace HB := Aside0.mk (Qac HB.out)
                   obtain ⟨Ao63, co63, eo63⟩ := Kd.R_slice HO_14.out
                   (first | subst eo63 | (injection eo63 with f1_ f2_ f3_; have f4_ := f1_.symm; have f5_ := f3_.symm; clear f1_ f2_ f3_; subst f4_; subst f5_))
                   have p821 : 0 ≤ (t818 : Int) := Ze
                   have q821 : t818 < (x14_3.length : Int) := Ze
                   obtain ⟨ad821, e821, hx821_0⟩ := Kd.at_int (Kd.R_reads' HO_14.out).2.2 t818 p821 q821
                   cases e821
                   replace p821 := eq_true p821
                   replace q821 := eq_true q821
                   have p822 : 0 ≤ (t820 : Int) := Ze
                   have q822 : t820 < (x14_3.length : Int) := Ze
                   obtain ⟨ad822, e822, hx822_0⟩ := Kd.at_int (Kd.R_reads' HO_14.out).2.2 t820 p822 q822
                   obtain rfl : ad821 = ad822 := (by injection e822)
                   replace p822 := eq_true p822
                   replace q822 := eq_true q822
                   refine start_ (n := 33) (S := fun w' => w'.cell? (ad821.add (t818).toNat) = some (.int .i64 (rd x14_3 t818)) ∧ w'.cell? (ad821.add (t820).toNat) = some (.int .i64 (rd x14_3 t820))) (ds := []) #[F, F, F, F, F, F, F, F, F, F, F, F, F, F, F, F, F, F, F, F, F, F, F, F, F, F, F, F, F, F, F, F, F] (by kernel_rfl) rfl rfl ⟨hx821_0, hx822_0⟩ (fun hHeld => ?_); refine QaC Qaa.tab18 Qaa.bits18 (fun HT_ HW_ => ?_)
                   generalize w49.drew = w62 at HO_13 HO_14 HB hx821_0 hx822_0 hHeld ⊢
                   refine Zsp (i := 0) (N := some 107) (pm 33 1) HT_ ?_
                   refine Zsp (i := 1) (N := some 108) (pm 33 2) HT_ ?_
                   refine Zsp (i := 2) (N := some 109) (pm 33 3) HT_ ?_
                   refine Zsp (i := 3) (N := some 110) (pm 33 4) HT_ ?_
                   refine Zsp (i := 4) (N := some 111) (pm 33 5) HT_ ?_
                   refine Zsp (i := 5) (N := some 112) (pm 33 6) HT_ ?_
                   refine Zsp (i := 6) (N := some 113) (pm 33 7) HT_ ?_
                   refine Zsp (i := 7) (N := some 114) (pm 33 8) HT_ ?_
                   refine Zsp (i := 8) (N := some 115) (pm 33 9) HT_ ?_
                   refine Zsp (i := 9) (N := some 116) (pm 33 10) HT_ ?_
                   refine Zst (i := 10) (N := some 117) (pm 33 11) HT_ HW_ hHeld ?_ (hy := by (refine Or.inl ⟨by rfl, ?_⟩; rintro w' ⟨s0, s1⟩; go_simp; with_reducible rfl))
                   refine Zsp (i := 11) (N := some 118) (pm 33 12) HT_ ?_
                   refine Zsp (i := 12) (N := some 119) (pm 33 13) HT_ ?_
                   refine Zsp (i := 13) (N := some 120) (pm 33 14) HT_ ?_
                   refine Zsp (i := 14) (N := some 121) (pm 33 15) HT_ ?_
                   refine Zsp (i := 15) (N := some 122) (pm 33 16) HT_ ?_
                   refine Zsp (i := 16) (N := some 123) (pm 33 17) HT_ ?_
                   refine Zst (i := 17) (N := some 124) (pm 33 18) HT_ HW_ hHeld ?_ (hy := by (refine Or.inl ⟨by rfl, ?_⟩; rintro w' ⟨s0, s1⟩; go_simp; with_reducible rfl))
                   refine Zsp (i := 18) (N := some 125) (pm 33 19) HT_ ?_
                   refine Zsp (i := 19) (N := some 126) (pm 33 20) HT_ ?_
                   refine Zsp (i := 20) (N := some 127) (pm 33 21) HT_ ?_
                   refine Zso (i := 21) (N := some 128) (pm 33 22) HT_ ?_
                   refine Zso (i := 22) (N := some 129) (pm 33 23) HT_ ?_
                   refine Zso (i := 23) (N := some 130) (pm 33 24) HT_ ?_
                   refine Zso (i := 24) (N := some 131) (pm 33 25) HT_ ?_
                   refine Zso (i := 25) (N := some 132) (pm 33 26) HT_ ?_
                   refine Zso (i := 26) (N := some 133) (pm 33 27) HT_ ?_
                   refine Zso (i := 27) (N := some 134) (pm 33 28) HT_ ?_
                   refine Zso (i := 28) (N := some 135) (pm 33 29) HT_ ?_
                   refine Zso (i := 29) (N := some 136) (pm 33 30) HT_ ?_
                   refine Zso (i := 30) (N := some 137) (pm 33 31) HT_ ?_
                   refine Zso (i := 31) (N := some 138) (pm 33 32) HT_ ?_
                   refine Zsp (i := 32) (N := some 139) (pm 33 33) HT_ ?_
                   refine done_ (QaH HT_.out (by kernel_rfl)) ?_
                   try go_wp2
                   go_meet
                   case rel => exact ⟨_, (T), (Zs), H', ⟨by have := HJ7.out; have := HK2.out; have := HK3.out; first | omega | exact Nat.le_refl _⟩, ⟨Zr HO_13.out⟩, ⟨Zr HO_14.out⟩, ⟨Zb⟩⟩
                  rw [if_neg c61] at H
                  have c61b0 : ((rd x14_3 t820) == 0) = F := beq_eq_false_iff_ne.mpr c61
                  have c61b1 : ((rd x14_3 t820) != 0) = T := bne_iff_ne.mpr c61
                  have H' := Aside0.mk H
                  clear H
                  try go_wp2
                  (try (rw [QaW w49]; generalize hq_ : World.drewN w49 _ = w49; have n0_ : Aside0 (Kd.R (Kd.int .i64) 3 w49 w.heap.size (fun k_ => some k_ ≠ (v815 : Value).ownBlock) v812 x13_3) := ⟨by rw [← hq_]; exact (Zr HO_13.out)⟩; have n1_ : Aside0 (Kd.R (Kd.int .i64) 3 w49 w.heap.size (fun k_ => some k_ ≠ (v812 : Value).ownBlock) v815 x14_3) := ⟨by rw [← hq_]; exact (Zr HO_14.out)⟩; have n2_ : Aside0 (Below w.heap.size w w49) := ⟨by rw [← hq_]; exact (Zb)⟩; clear HO_13 HO_14 HB hq_; have HO_13 := n0_; have HO_14 := n1_; have HB := n2_; clear n0_ n1_ n2_))
                  replace HO_13 := Aside0.mk (Kd.R_drew HO_13.out)
                  replace HO_14 := Aside0.mk (Kd.R_drew HO_14.out)
                  replace HB := Aside0.mk (Qac HB.out)
                  obtain ⟨Ao65, co65, eo65⟩ := Kd.R_slice HO_14.out
                  (first | subst eo65 | (injection eo65 with f1_ f2_ f3_; have f4_ := f1_.symm; have f5_ := f3_.symm; clear f1_ f2_ f3_; subst f4_; subst f5_))
                  have p821 : 0 ≤ (t818 : Int) := Ze
                  have q821 : t818 < (x14_3.length : Int) := Ze
                  obtain ⟨ad821, e821, hx821_0⟩ := Kd.at_int (Kd.R_reads' HO_14.out).2.2 t818 p821 q821
                  cases e821
                  replace p821 := eq_true p821
                  replace q821 := eq_true q821
                  have p822 : 0 ≤ (t820 : Int) := Ze
                  have q822 : t820 < (x14_3.length : Int) := Ze
                  obtain ⟨ad822, e822, hx822_0⟩ := Kd.at_int (Kd.R_reads' HO_14.out).2.2 t820 p822 q822
                  obtain rfl : ad821 = ad822 := (by injection e822)
                  replace p822 := eq_true p822
                  replace q822 := eq_true q822
                  have p823 : 0 ≤ (t818 : Int) := Ze
                  have q823 : t818 < (x14_3.length : Int) := Ze
                  obtain ⟨ad823, e823, hx823_0⟩ := Kd.at_int (Kd.R_reads' HO_14.out).2.2 t818 p823 q823
                  obtain rfl : ad821 = ad823 := (by injection e823)
                  replace p823 := eq_true p823
                  replace q823 := eq_true q823
                  have p824 : 0 ≤ (t820 : Int) := Ze
                  have q824 : t820 < (x14_3.length : Int) := Ze
                  obtain ⟨ad824, e824, hx824_0⟩ := Kd.at_int (Kd.R_reads' HO_14.out).2.2 t820 p824 q824
                  obtain rfl : ad821 = ad824 := (by injection e824)
                  replace p824 := eq_true p824
                  replace q824 := eq_true q824
                  refine start_ (n := 33) (S := fun w' => w'.cell? (ad821.add (t818).toNat) = some (.int .i64 (rd x14_3 t818)) ∧ w'.cell? (ad821.add (t820).toNat) = some (.int .i64 (rd x14_3 t820)) ∧ w'.cell? (ad821.add (t818).toNat) = some (.int .i64 (rd x14_3 t818)) ∧ w'.cell? (ad821.add (t820).toNat) = some (.int .i64 (rd x14_3 t820))) (ds := []) #[F, F, F, F, F, F, F, F, F, F, F, F, F, F, F, F, F, F, F, F, F, F, F, F, F, F, F, F, F, F, F, F, F] (by kernel_rfl) rfl rfl ⟨hx821_0, hx822_0, hx823_0, hx824_0⟩ (fun hHeld => ?_); refine QaC Qaa.tab18 Qaa.bits18 (fun HT_ HW_ => ?_)
                  generalize w49.drew = w64 at HO_13 HO_14 HB hx821_0 hx822_0 hx823_0 hx824_0 hHeld ⊢
                  refine Zsp (i := 0) (N := some 107) (pm 33 1) HT_ ?_
                  refine Zsp (i := 1) (N := some 108) (pm 33 2) HT_ ?_
                  refine Zsp (i := 2) (N := some 109) (pm 33 3) HT_ ?_
                  refine Zsp (i := 3) (N := some 110) (pm 33 4) HT_ ?_
                  refine Zsp (i := 4) (N := some 111) (pm 33 5) HT_ ?_
                  refine Zsp (i := 5) (N := some 112) (pm 33 6) HT_ ?_
                  refine Zsp (i := 6) (N := some 113) (pm 33 7) HT_ ?_
                  refine Zsp (i := 7) (N := some 114) (pm 33 8) HT_ ?_
                  refine Zsp (i := 8) (N := some 115) (pm 33 9) HT_ ?_
                  refine Zsp (i := 9) (N := some 116) (pm 33 10) HT_ ?_
                  refine Zst (i := 10) (N := some 117) (pm 33 11) HT_ HW_ hHeld ?_ (hy := by (refine Or.inl ⟨by rfl, ?_⟩; rintro w' ⟨s0, s1, s2, s3⟩; go_simp; with_reducible rfl))
                  refine Zsp (i := 11) (N := some 118) (pm 33 12) HT_ ?_
                  refine Zsp (i := 12) (N := some 119) (pm 33 13) HT_ ?_
                  refine Zsp (i := 13) (N := some 120) (pm 33 14) HT_ ?_
                  refine Zsp (i := 14) (N := some 121) (pm 33 15) HT_ ?_
                  refine Zsp (i := 15) (N := some 122) (pm 33 16) HT_ ?_
                  refine Zsp (i := 16) (N := some 123) (pm 33 17) HT_ ?_
                  refine Zst (i := 17) (N := some 124) (pm 33 18) HT_ HW_ hHeld ?_ (hy := by (refine Or.inl ⟨by rfl, ?_⟩; rintro w' ⟨s0, s1, s2, s3⟩; go_simp; with_reducible rfl))
                  refine Zsp (i := 18) (N := some 125) (pm 33 19) HT_ ?_
                  refine Zsp (i := 19) (N := some 126) (pm 33 20) HT_ ?_
                  refine Zsp (i := 20) (N := some 127) (pm 33 21) HT_ ?_
                  refine Zsp (i := 21) (N := some 128) (pm 33 22) HT_ ?_
                  refine Zsp (i := 22) (N := some 129) (pm 33 23) HT_ ?_
                  refine Zsp (i := 23) (N := some 130) (pm 33 24) HT_ ?_
                  refine Zsp (i := 26) (N := some 133) #[T, T, T, T, T, T, T, T, T, T, T, T, T, T, T, T, T, T, T, T, T, T, T, T, F, F, T, F, F, F, F, F, F] HT_ ?_
                  refine Zsp (i := 27) (N := some 134) #[T, T, T, T, T, T, T, T, T, T, T, T, T, T, T, T, T, T, T, T, T, T, T, T, F, F, T, T, F, F, F, F, F] HT_ ?_
                  refine Zsp (i := 28) (N := some 135) #[T, T, T, T, T, T, T, T, T, T, T, T, T, T, T, T, T, T, T, T, T, T, T, T, F, F, T, T, T, F, F, F, F] HT_ ?_
                  refine Zst (i := 24) (N := some 131) #[T, T, T, T, T, T, T, T, T, T, T, T, T, T, T, T, T, T, T, T, T, T, T, T, T, F, T, T, T, F, F, F, F] HT_ HW_ hHeld ?_ (hy := by (refine Or.inl ⟨by rfl, ?_⟩; rintro w' ⟨s0, s1, s2, s3⟩; go_simp; with_reducible rfl))
                  refine Zsp (i := 25) (N := some 132) (pm 33 29) HT_ ?_
                  refine Zst (i := 29) (N := some 136) (pm 33 30) HT_ HW_ hHeld ?_ (hy := by (refine Or.inl ⟨by rfl, ?_⟩; rintro w' ⟨s0, s1, s2, s3⟩; go_simp; with_reducible rfl))
                  refine Zsp (i := 30) (N := some 137) (pm 33 31) HT_ ?_
                  refine Zsp (i := 31) (N := some 138) (pm 33 32) HT_ ?_
                  refine Zsp (i := 32) (N := some 139) (pm 33 33) HT_ ?_
                  refine done_ (QaH HT_.out (by kernel_rfl)) ?_
                  try go_wp2
                  go_meet
                  case rel => exact ⟨_, (((decide ((rd x14_3 t818) > 0)) == (decide ((rd x14_3 t820) > 0)))), (Zs), H', ⟨by have := HJ7.out; have := HK2.out; have := HK3.out; first | omega | exact Nat.le_refl _⟩, ⟨Zr HO_13.out⟩, ⟨Zr HO_14.out⟩, ⟨Zb⟩⟩
                 rw [if_neg c60] at H
                 exact absurd H (by simp)
                rw [if_neg c59] at H
                exact absurd H (by simp)
               rw [if_neg c55] at H
               exact absurd H (by simp)
              rw [if_neg c54] at H
              exact absurd H (by simp)
             case rest => as_aux_lemma =>
              clear HC48
              try clear p2
              try clear c5
              try clear c6
              try clear p8
              try clear q8
              try clear hx8
              try clear c54
              try clear c55
              try clear c56
              try clear c56b0
              try clear c56b1
              try clear c59
              try clear c59b0
              try clear c60
              try clear c60b0
              try clear c61
              try clear c61b0
              try clear c61b1
              try clear hx821_0
              try clear hx822_0
              try clear hx823_0
              try clear hx824_0
              try clear p821
              try clear p822
              try clear p823
              try clear p824
              try clear q821
              try clear q822
              try clear q823
              try clear q824
              obtain ⟨kq, x139_47, rfl, HA, HJ47, HO_13, HO_14, HB⟩ := hcut
              cases kq with
              | zero => exact absurd HA.out (by simp [Qaa.j3])
              | succ kj47 =>
               have H := HA.out
               clear HA
               simp only [Qaa.j3] at H
               by_cases c66 : x139_47 = T
               ·subst c66
                have H1 : (Qaa.l1 kj47 l0 l1 l2 l3 x13_3 x14_3 (wrap64 (x15_3 + 1))) = some (r1, r2, r3) := by rw [if_pos rfl] at H; exact H
                clear H
                have H := H1
                clear H1
                have H' := Aside0.mk H
                clear H
                go_wp2
                go_roundg kj47
                case measure => have := HJ7.out; have := HK2.out; have := HK3.out; have := HJ47.out; omega
                case rel => exact ⟨(x13_3), (x14_3), (wrap64 (x15_3 + 1)), (Zs), H', ⟨by have := HJ7.out; have := HK2.out; have := HK3.out; have := HJ47.out; omega⟩, ⟨Zr HO_13.out⟩, ⟨Zr HO_14.out⟩, ⟨Zb⟩⟩
               replace c66 := Bool.eq_false_iff.mpr c66
               subst c66
               have H1 : (if 0 ≤ t818 then (if t818 < (x14_3.length : Int) then ((QaG.f (rd x14_3 t818)).bind fun t826 => (if 0 ≤ x15_3 then (if x15_3 < (l3.length : Int) then (if (wrap64 (1000 * ((rd_T75 l3 x15_3).f2))) = 0 then (none) else (if 0 ≤ t820 then (if t820 < (x14_3.length : Int) then ((QaG.f (rd x14_3 t820)).bind fun t829 => (if (wrap64 (1000 * ((rd_T75 l3 x15_3).f3))) = 0 then (none) else (Qaa.l2 kj47 l0 l1 l2 l3 x13_3 x14_3 x15_3 (mn (wrap64 (Int.tdiv t826 (wrap64 (1000 * ((rd_T75 l3 x15_3).f2))))) (wrap64 (Int.tdiv t829 (wrap64 (1000 * ((rd_T75 l3 x15_3).f3)))))) (([t818, t820] : List Int)) (([(rd_T75 l3 x15_3).f2, (rd_T75 l3 x15_3).f3] : List Int)) 0))) else (none)) else (none))) else (none)) else (none))) else (none)) else (none)) = some (r1, r2, r3) := by rw [if_neg (show ¬ (F = T) by decide)] at H; exact H
               clear H
               have H := H1
               clear H1
               by_cases c67 : 0 ≤ t818
               ·rw [if_pos c67] at H
                have c67b0 : decide (0 ≤ t818) = T := decide_eq_true c67
                clear c67
                (try simp only [c67b0])
                by_cases c68 : t818 < (x14_3.length : Int)
                ·rw [if_pos c68] at H
                 have c68b0 : decide (t818 < (x14_3.length : Int)) = T := decide_eq_true c68
                 clear c68
                 replace H := Option.bind_eq_some_iff.mp H
                 obtain ⟨t826, A690, H⟩ := H
                 replace H : (if 0 ≤ x15_3 then (if x15_3 < (l3.length : Int) then (if (wrap64 (1000 * ((rd_T75 l3 x15_3).f2))) = 0 then (none) else (if 0 ≤ t820 then (if t820 < (x14_3.length : Int) then ((QaG.f (rd x14_3 t820)).bind fun t829 => (if (wrap64 (1000 * ((rd_T75 l3 x15_3).f3))) = 0 then (none) else (Qaa.l2 kj47 l0 l1 l2 l3 x13_3 x14_3 x15_3 (mn (wrap64 (Int.tdiv t826 (wrap64 (1000 * ((rd_T75 l3 x15_3).f2))))) (wrap64 (Int.tdiv t829 (wrap64 (1000 * ((rd_T75 l3 x15_3).f3)))))) (([t818, t820] : List Int)) (([(rd_T75 l3 x15_3).f2, (rd_T75 l3 x15_3).f3] : List Int)) 0))) else (none)) else (none))) else (none)) else (none)) = some (r1, r2, r3) := H
                 have A69 := Aside0.mk A690
                 clear A690
                 by_cases c70 : 0 ≤ x15_3
                 ·rw [if_pos c70] at H
                  have c70b0 : decide (0 ≤ x15_3) = T := decide_eq_true c70
                  clear c70
                  by_cases c71 : x15_3 < (l3.length : Int)
                  ·rw [if_pos c71] at H
                   have c71b0 : decide (x15_3 < (l3.length : Int)) = T := decide_eq_true c71
                   clear c71
                   by_cases c72 : (wrap64 (1000 * ((rd_T75 l3 x15_3).f2))) = 0
                   ·rw [if_pos c72] at H
                    exact absurd H (by simp)
                   rw [if_neg c72] at H
                   have c72b0 : ((wrap64 (1000 * ((rd_T75 l3 x15_3).f2))) == 0) = F := beq_eq_false_iff_ne.mpr c72
                   have c72b1 : ((wrap64 (1000 * ((rd_T75 l3 x15_3).f2))) != 0) = T := bne_iff_ne.mpr c72
                   by_cases c73 : 0 ≤ t820
                   ·rw [if_pos c73] at H
                    have c73b0 : decide (0 ≤ t820) = T := decide_eq_true c73
                    clear c73
                    by_cases c74 : t820 < (x14_3.length : Int)
                    ·rw [if_pos c74] at H
                     have c74b0 : decide (t820 < (x14_3.length : Int)) = T := decide_eq_true c74
                     clear c74
                     replace H := Option.bind_eq_some_iff.mp H
                     obtain ⟨t829, A750, H⟩ := H
                     replace H : (if (wrap64 (1000 * ((rd_T75 l3 x15_3).f3))) = 0 then (none) else (Qaa.l2 kj47 l0 l1 l2 l3 x13_3 x14_3 x15_3 (mn (wrap64 (Int.tdiv t826 (wrap64 (1000 * ((rd_T75 l3 x15_3).f2))))) (wrap64 (Int.tdiv t829 (wrap64 (1000 * ((rd_T75 l3 x15_3).f3)))))) (([t818, t820] : List Int)) (([(rd_T75 l3 x15_3).f2, (rd_T75 l3 x15_3).f3] : List Int)) 0)) = some (r1, r2, r3) := H
                     have A75 := Aside0.mk A750
                     clear A750
                     by_cases c76 : (wrap64 (1000 * ((rd_T75 l3 x15_3).f3))) = 0
                     ·rw [if_pos c76] at H
                      exact absurd H (by simp)
                     rw [if_neg c76] at H
                     have c76b0 : ((wrap64 (1000 * ((rd_T75 l3 x15_3).f3))) == 0) = F := beq_eq_false_iff_ne.mpr c76
                     have c76b1 : ((wrap64 (1000 * ((rd_T75 l3 x15_3).f3))) != 0) = T := bne_iff_ne.mpr c76
                     obtain ⟨ji77, hji77⟩ : ∃ j_ : Int, (mn (wrap64 (Int.tdiv t826 (wrap64 (1000 * ((rd_T75 l3 x15_3).f2))))) (wrap64 (Int.tdiv t829 (wrap64 (1000 * ((rd_T75 l3 x15_3).f3)))))) = j_ := ⟨_, rfl⟩
                     replace H : (Qaa.l2 kj47 l0 l1 l2 l3 x13_3 x14_3 x15_3 ji77 (([t818, t820] : List Int)) (([(rd_T75 l3 x15_3).f2, (rd_T75 l3 x15_3).f3] : List Int)) 0) = some (r1, r2, r3) := by first | (rw [hji77] at H; exact H) | (simp only [hji77] at H ⊢; exact H)
                     (try rw [hji77] at A69)
                     (try rw [hji77] at A75)
                     have hji77_ : (if (wrap64 (Int.tdiv t829 (wrap64 (1000 * ((rd_T75 l3 x15_3).f3))))) < (wrap64 (Int.tdiv t826 (wrap64 (1000 * ((rd_T75 l3 x15_3).f2))))) then (wrap64 (Int.tdiv t829 (wrap64 (1000 * ((rd_T75 l3 x15_3).f3))))) else (wrap64 (Int.tdiv t826 (wrap64 (1000 * ((rd_T75 l3 x15_3).f2)))))) = ji77 := hji77
                     obtain ⟨y831, hy831⟩ : ∃ y_ : List Int, y_ = (([t818, t820] : List Int)) := ⟨_, rfl⟩
                     replace H : (Qaa.l2 kj47 l0 l1 l2 l3 x13_3 x14_3 x15_3 ji77 y831 (([(rd_T75 l3 x15_3).f2, (rd_T75 l3 x15_3).f3] : List Int)) 0) = some (r1, r2, r3) := by first | (rw [hy831]; with_reducible exact H) | (have H2_ := (Option.bind_some _ _).symm.trans H; rw [hy831]; with_reducible exact H2_) | (have H2_ := (Option.bind_some _ _).symm.trans H; with_reducible exact H2_) | with_reducible exact H | (rw [hy831]; exact H) | exact H
                     have Ny831 := Aside0.mk hy831
                     clear hy831
                     obtain ⟨y836, hy836⟩ : ∃ y_ : List Int, y_ = (([(rd_T75 l3 x15_3).f2, (rd_T75 l3 x15_3).f3] : List Int)) := ⟨_, rfl⟩
                     replace H : (Qaa.l2 kj47 l0 l1 l2 l3 x13_3 x14_3 x15_3 ji77 y831 y836 0) = some (r1, r2, r3) := by first | (rw [hy836]; with_reducible exact H) | (have H2_ := (Option.bind_some _ _).symm.trans H; rw [hy836]; with_reducible exact H2_) | (have H2_ := (Option.bind_some _ _).symm.trans H; with_reducible exact H2_) | with_reducible exact H | (rw [hy836]; exact H) | exact H
                     have Ny836 := Aside0.mk hy836
                     clear hy836
                     have H' := Aside0.mk H
                     clear H
                     try go_wp2
                     (try (rw [QaW wc]; generalize hq_ : World.drewN wc _ = wc; have n0_ : Aside0 (Kd.R (Kd.int .i64) 3 wc w.heap.size (fun k_ => some k_ ≠ (v815 : Value).ownBlock) v812 x13_3) := ⟨by rw [← hq_]; exact (Zr HO_13.out)⟩; have n1_ : Aside0 (Kd.R (Kd.int .i64) 3 wc w.heap.size (fun k_ => some k_ ≠ (v812 : Value).ownBlock) v815 x14_3) := ⟨by rw [← hq_]; exact (Zr HO_14.out)⟩; have n2_ : Aside0 (Below w.heap.size w wc) := ⟨by rw [← hq_]; exact (Zb)⟩; clear HO_13 HO_14 HB hq_; have HO_13 := n0_; have HO_14 := n1_; have HB := n2_; clear n0_ n1_ n2_))
                     replace HO_13 := Aside0.mk (Kd.R_drew HO_13.out)
                     replace HO_14 := Aside0.mk (Kd.R_drew HO_14.out)
                     replace HB := Aside0.mk (Qac HB.out)
                     obtain ⟨Ao79, co79, eo79⟩ := Kd.R_slice HO_14.out
                     (first | subst eo79 | (injection eo79 with f1_ f2_ f3_; have f4_ := f1_.symm; have f5_ := f3_.symm; clear f1_ f2_ f3_; subst f4_; subst f5_))
                     have p825 : 0 ≤ (t818 : Int) := Ze
                     have q825 : t818 < (x14_3.length : Int) := Ze
                     obtain ⟨ad825, e825, hx825_0⟩ := Kd.at_int (Kd.R_reads' HO_14.out).2.2 t818 p825 q825
                     cases e825
                     replace p825 := eq_true p825
                     replace q825 := eq_true q825
                     have p827 : 0 ≤ (x15_3 : Int) := Ze
                     have q827 : x15_3 < (l3.length : Int) := Ze
                     obtain ⟨ad827, e827, hx827_0, hx827_1, hx827_2, hx827_3, hx827_4⟩ := at_T75 HR3.out x15_3 p827 q827
                     have hw827_4 := hx827_4
                     have hw827_3 := hx827_3
                     have hw827_2 := hx827_2
                     have hw827_1 := hx827_1
                     have hw827_0 := hx827_0
                     obtain rfl : ad817 = ad827 := (by injection e827)
                     replace hx827_0 := Zx HB.out hx827_0
                     replace hx827_1 := Zx HB.out hx827_1
                     replace hx827_2 := Zx HB.out hx827_2
                     replace hx827_3 := Zx HB.out hx827_3
                     replace hx827_4 := Zx HB.out hx827_4
                     replace p827 := eq_true p827
                     replace q827 := eq_true q827
                     have p828 : 0 ≤ (t820 : Int) := Ze
                     have q828 : t820 < (x14_3.length : Int) := Ze
                     obtain ⟨ad828, e828, hx828_0⟩ := Kd.at_int (Kd.R_reads' HO_14.out).2.2 t820 p828 q828
                     obtain rfl : ad825 = ad828 := (by injection e828)
                     replace p828 := eq_true p828
                     replace q828 := eq_true q828
                     have p830 : 0 ≤ (x15_3 : Int) := Ze
                     have q830 : x15_3 < (l3.length : Int) := Ze
                     obtain ⟨ad830, e830, hx830_0, hx830_1, hx830_2, hx830_3, hx830_4⟩ := at_T75 HR3.out x15_3 p830 q830
                     have hw830_4 := hx830_4
                     have hw830_3 := hx830_3
                     have hw830_2 := hx830_2
                     have hw830_1 := hx830_1
                     have hw830_0 := hx830_0
                     obtain rfl : ad817 = ad830 := (by injection e830)
                     replace hx830_0 := Zx HB.out hx830_0
                     replace hx830_1 := Zx HB.out hx830_1
                     replace hx830_2 := Zx HB.out hx830_2
                     replace hx830_3 := Zx HB.out hx830_3
                     replace hx830_4 := Zx HB.out hx830_4
                     replace p830 := eq_true p830
                     replace q830 := eq_true q830
                     refine start_ (n := 26) (S := fun w' => w'.cell? (ad825.add (t818).toNat) = some (.int .i64 (rd x14_3 t818)) ∧ w'.cell? (ad817.add ((x15_3).toNat * 5)) = some (.string ((rd_T75 l3 x15_3).f0)) ∧ w'.cell? ⟨(ad817.add ((x15_3).toNat * 5)).block, (ad817.add ((x15_3).toNat * 5)).off + 1, none⟩ = some (.string ((rd_T75 l3 x15_3).f1)) ∧ w'.cell? ⟨(ad817.add ((x15_3).toNat * 5)).block, (ad817.add ((x15_3).toNat * 5)).off + 2, none⟩ = some (.int .i64 ((rd_T75 l3 x15_3).f2)) ∧ w'.cell? ⟨(ad817.add ((x15_3).toNat * 5)).block, (ad817.add ((x15_3).toNat * 5)).off + 3, none⟩ = some (.int .i64 ((rd_T75 l3 x15_3).f3)) ∧ w'.cell? ⟨(ad817.add ((x15_3).toNat * 5)).block, (ad817.add ((x15_3).toNat * 5)).off + 4, none⟩ = some (.int .i64 ((rd_T75 l3 x15_3).f4)) ∧ w'.cell? (ad825.add (t820).toNat) = some (.int .i64 (rd x14_3 t820)) ∧ w'.cell? (ad817.add ((x15_3).toNat * 5)) = some (.string ((rd_T75 l3 x15_3).f0)) ∧ w'.cell? ⟨(ad817.add ((x15_3).toNat * 5)).block, (ad817.add ((x15_3).toNat * 5)).off + 1, none⟩ = some (.string ((rd_T75 l3 x15_3).f1)) ∧ w'.cell? ⟨(ad817.add ((x15_3).toNat * 5)).block, (ad817.add ((x15_3).toNat * 5)).off + 2, none⟩ = some (.int .i64 ((rd_T75 l3 x15_3).f2)) ∧ w'.cell? ⟨(ad817.add ((x15_3).toNat * 5)).block, (ad817.add ((x15_3).toNat * 5)).off + 3, none⟩ = some (.int .i64 ((rd_T75 l3 x15_3).f3)) ∧ w'.cell? ⟨(ad817.add ((x15_3).toNat * 5)).block, (ad817.add ((x15_3).toNat * 5)).off + 4, none⟩ = some (.int .i64 ((rd_T75 l3 x15_3).f4))) (ds := []) #[F, F, F, F, F, F, F, F, F, F, F, F, F, F, F, F, F, F, F, F, F, F, F, F, F, F] (by kernel_rfl) rfl rfl ⟨hx825_0, ((HB.out.cell (World.block_lt_of_cell? w _ hw827_0)).trans hw827_0), ((HB.out.cell (World.block_lt_of_cell? w _ hw827_1)).trans hw827_1), ((HB.out.cell (World.block_lt_of_cell? w _ hw827_2)).trans hw827_2), ((HB.out.cell (World.block_lt_of_cell? w _ hw827_3)).trans hw827_3), ((HB.out.cell (World.block_lt_of_cell? w _ hw827_4)).trans hw827_4), hx828_0, ((HB.out.cell (World.block_lt_of_cell? w _ hw830_0)).trans hw830_0), ((HB.out.cell (World.block_lt_of_cell? w _ hw830_1)).trans hw830_1), ((HB.out.cell (World.block_lt_of_cell? w _ hw830_2)).trans hw830_2), ((HB.out.cell (World.block_lt_of_cell? w _ hw830_3)).trans hw830_3), ((HB.out.cell (World.block_lt_of_cell? w _ hw830_4)).trans hw830_4)⟩ (fun hHeld => ?_); refine QaC Qaa.tab19 Qaa.bits19 (fun HT_ HW_ => ?_)
                     generalize wc.drew = w78 at HO_13 HO_14 HB hx825_0 hx827_0 hx827_1 hx827_2 hx827_3 hx827_4 hx828_0 hx830_0 hx830_1 hx830_2 hx830_3 hx830_4 hHeld ⊢
                     refine Zsp (i := 0) (N := some 140) (pm 26 1) HT_ ?_
                     refine Zsp (i := 1) (N := some 141) (pm 26 2) HT_ ?_
                     refine Zsp (i := 2) (N := some 142) (pm 26 3) HT_ ?_
                     refine Zsp (i := 5) (N := some 145) #[T, T, T, F, F, T, F, F, F, F, F, F, F, F, F, F, F, F, F, F, F, F, F, F, F, F] HT_ ?_
                     refine Zsp (i := 6) (N := some 146) #[T, T, T, F, F, T, T, F, F, F, F, F, F, F, F, F, F, F, F, F, F, F, F, F, F, F] HT_ ?_
                     refine Zsp (i := 7) (N := some 147) #[T, T, T, F, F, T, T, T, F, F, F, F, F, F, F, F, F, F, F, F, F, F, F, F, F, F] HT_ ?_
                     refine Zsp (i := 8) (N := some 148) #[T, T, T, F, F, T, T, T, T, F, F, F, F, F, F, F, F, F, F, F, F, F, F, F, F, F] HT_ ?_
                     refine Zsp (i := 12) (N := some 152) #[T, T, T, F, F, T, T, T, T, F, F, F, T, F, F, F, F, F, F, F, F, F, F, F, F, F] HT_ ?_
                     refine Zsp (i := 13) (N := some 153) #[T, T, T, F, F, T, T, T, T, F, F, F, T, T, F, F, F, F, F, F, F, F, F, F, F, F] HT_ ?_
                     refine Zsp (i := 14) (N := some 154) #[T, T, T, F, F, T, T, T, T, F, F, F, T, T, T, F, F, F, F, F, F, F, F, F, F, F] HT_ ?_
                     refine Zsp (i := 17) (N := some 157) #[T, T, T, F, F, T, T, T, T, F, F, F, T, T, T, F, F, T, F, F, F, F, F, F, F, F] HT_ ?_
                     refine Zsp (i := 18) (N := some 158) #[T, T, T, F, F, T, T, T, T, F, F, F, T, T, T, F, F, T, T, F, F, F, F, F, F, F] HT_ ?_
                     refine Zsp (i := 19) (N := some 159) #[T, T, T, F, F, T, T, T, T, F, F, F, T, T, T, F, F, T, T, T, F, F, F, F, F, F] HT_ ?_
                     refine Zsp (i := 20) (N := some 160) #[T, T, T, F, F, T, T, T, T, F, F, F, T, T, T, F, F, T, T, T, T, F, F, F, F, F] HT_ ?_
                     refine Zst (i := 3) (N := some 143) #[T, T, T, T, F, T, T, T, T, F, F, F, T, T, T, F, F, T, T, T, T, F, F, F, F, F] HT_ HW_ hHeld ?_ (hy := by (refine Or.inl ⟨by rfl, ?_⟩; rintro w' ⟨s0, s1, s2, s3, s4, s5, s6, s7, s8, s9, s10, s11⟩; go_simp; with_reducible rfl))
                     refine Zst (i := 9) (N := some 149) #[T, T, T, T, F, T, T, T, T, T, F, F, T, T, T, F, F, T, T, T, T, F, F, F, F, F] HT_ HW_ hHeld ?_ (hy := by (refine Or.inl ⟨by rfl, ?_⟩; rintro w' ⟨s0, s1, s2, s3, s4, s5, s6, s7, s8, s9, s10, s11⟩; go_simp; with_reducible rfl))
                     refine Zsp (i := 10) (N := some 150) #[T, T, T, T, F, T, T, T, T, T, T, F, T, T, T, F, F, T, T, T, T, F, F, F, F, F] HT_ ?_
                     refine Zst (i := 15) (N := some 155) #[T, T, T, T, F, T, T, T, T, T, T, F, T, T, T, T, F, T, T, T, T, F, F, F, F, F] HT_ HW_ hHeld ?_ (hy := by (refine Or.inl ⟨by rfl, ?_⟩; rintro w' ⟨s0, s1, s2, s3, s4, s5, s6, s7, s8, s9, s10, s11⟩; go_simp; with_reducible rfl))
                     refine Zst (i := 21) (N := some 161) #[T, T, T, T, F, T, T, T, T, T, T, F, T, T, T, T, F, T, T, T, T, T, F, F, F, F] HT_ HW_ hHeld ?_ (hy := by (refine Or.inl ⟨by rfl, ?_⟩; rintro w' ⟨s0, s1, s2, s3, s4, s5, s6, s7, s8, s9, s10, s11⟩; go_simp; with_reducible rfl))
                     refine Zsp (i := 22) (N := some 162) #[T, T, T, T, F, T, T, T, T, T, T, F, T, T, T, T, F, T, T, T, T, T, T, F, F, F] HT_ ?_
                     refine one_ (i := 4) (N := some 144) #[T, T, T, T, T, T, T, T, T, T, T, F, T, T, T, T, F, T, T, T, T, T, T, F, F, F] rfl rfl (one_of HT_.out (by kernel_rfl)) (by decide) (fun K hK => ?_)
                     refine goes_ Try.func80 (by kernel_rfl) rfl #[.int .i64 (rd x14_3 t818)] (by rfl) rfl rfl (Zl) ?_
                     with_reducible refine (QaG.calls (rd x14_3 t818) t826 _ A69.out).mono ?_
                     rintro e w' ⟨rfl, ⟨nd, rfl⟩⟩
                     refine ⟨_, rfl, ?_⟩
                     refine hK.out _ _ ⟨hHeld.1, ((HB.out.cell (World.block_lt_of_cell? w _ hw827_0)).trans hw827_0), ((HB.out.cell (World.block_lt_of_cell? w _ hw827_1)).trans hw827_1), ((HB.out.cell (World.block_lt_of_cell? w _ hw827_2)).trans hw827_2), ((HB.out.cell (World.block_lt_of_cell? w _ hw827_3)).trans hw827_3), ((HB.out.cell (World.block_lt_of_cell? w _ hw827_4)).trans hw827_4), hHeld.2.2.2.2.2.2.1, ((HB.out.cell (World.block_lt_of_cell? w _ hw830_0)).trans hw830_0), ((HB.out.cell (World.block_lt_of_cell? w _ hw830_1)).trans hw830_1), ((HB.out.cell (World.block_lt_of_cell? w _ hw830_2)).trans hw830_2), ((HB.out.cell (World.block_lt_of_cell? w _ hw830_3)).trans hw830_3), ((HB.out.cell (World.block_lt_of_cell? w _ hw830_4)).trans hw830_4)⟩ (fun hHeld => ?_)
                     clear hK K
                     refine norm_ (a' := ?_) ?_ ?_
                     rotate_left
                     ·show Act.put _ (some 144) _ = _
                      simp only [Act.put, Zj, Zk, Zm, i64_w, i32_w]
                      rfl
                     refine Zsp (i := 11) (N := some 151) #[T, T, T, T, T, T, T, T, T, T, T, T, T, T, T, T, F, T, T, T, T, T, T, F, F, F] HT_ ?_
                     refine one_ (i := 16) (N := some 156) #[T, T, T, T, T, T, T, T, T, T, T, T, T, T, T, T, T, T, T, T, T, T, T, F, F, F] rfl rfl (one_of HT_.out (by kernel_rfl)) (by decide) (fun K hK => ?_)
                     refine goes_ Try.func80 (by kernel_rfl) rfl #[.int .i64 (rd x14_3 t820)] (by rfl) rfl rfl (Zl) ?_
                     with_reducible refine (QaG.calls (rd x14_3 t820) t829 _ A75.out).mono ?_
                     rintro e w' ⟨rfl, ⟨nd, rfl⟩⟩
                     refine ⟨_, rfl, ?_⟩
                     refine hK.out _ _ ⟨hHeld.1, ((HB.out.cell (World.block_lt_of_cell? w _ hw827_0)).trans hw827_0), ((HB.out.cell (World.block_lt_of_cell? w _ hw827_1)).trans hw827_1), ((HB.out.cell (World.block_lt_of_cell? w _ hw827_2)).trans hw827_2), ((HB.out.cell (World.block_lt_of_cell? w _ hw827_3)).trans hw827_3), ((HB.out.cell (World.block_lt_of_cell? w _ hw827_4)).trans hw827_4), hHeld.2.2.2.2.2.2.1, ((HB.out.cell (World.block_lt_of_cell? w _ hw830_0)).trans hw830_0), ((HB.out.cell (World.block_lt_of_cell? w _ hw830_1)).trans hw830_1), ((HB.out.cell (World.block_lt_of_cell? w _ hw830_2)).trans hw830_2), ((HB.out.cell (World.block_lt_of_cell? w _ hw830_3)).trans hw830_3), ((HB.out.cell (World.block_lt_of_cell? w _ hw830_4)).trans hw830_4)⟩ (fun hHeld => ?_)
                     clear hK K
                     refine norm_ (a' := ?_) ?_ ?_
                     rotate_left
                     ·show Act.put _ (some 156) _ = _
                      simp only [Act.put, Zj, Zk, Zm, i64_w, i32_w]
                      rfl
                     refine Zsp (i := 23) (N := some 163) (pm 26 24) HT_ ?_
                     refine Zsp (i := 24) (N := some 164) (pm 26 25) HT_ ?_
                     refine Zsp (i := 25) (N := some 18) (pm 26 26) HT_ ?_
                     refine done_ (QaH HT_.out (by kernel_rfl)) ?_
                     try go_wp2_with (first | ((with_reducible refine QaI (N := 167) rfl ?_); (try (refine QaQ (by rfl) ?_; dsimp only)); refine Kd.R_lit (Kd.int .i64) _ 3 ?hg (N := 167) ?hd (xs := ([t818, t820] : List Int)) (inner := [.int .i64 t818, .int .i64 t820]) (ok := fun _ => True) (okp := fun _ => True) ?hr ?hp (fun _ hk => hk) trivial (Below.refl _ _) (Nat.le_refl _) (by simp) ?_; (case hd => rfl); (case hg => rfl); (case hr => first | (go_simp; done) | (go_simp; rfl)); (case hp => exact (Reps.one (show Kd.M (Kd.int .i64) _ _ _ t818 [.int .i64 t818] from rfl) (Reps.one (show Kd.M (Kd.int .i64) _ _ _ t820 [.int .i64 t820] from rfl) (Reps.none _ _)))); intro v832 w80 ho81 hb hg_ hnew_; clear hg_ hnew_; (first | rw [← Ny831.out] at ho81 | (simp only [Int.reduceToNat] at ho81; rw [← Ny831.out] at ho81)); have HO833 := Aside0.mk (Kd.R_lower (Kd.R_new' (Kd.R_new' ho81 (Kd.R_lt (Zr HO_13.out))) (Kd.R_lt (Zr HO_14.out))) (Qau (Zb))); replace HO_13 := Aside0.mk (Kd.R_elder' (Zr HO_13.out) (Kd.R_base ho81) hb); replace HO_14 := Aside0.mk (Kd.R_elder' (Zr HO_14.out) (Kd.R_base ho81) hb); replace HB := Aside0.mk (Qao (Zb) hb); clear hb ho81))
                     (try (rw [QaW w80]; generalize hq_ : World.drewN w80 _ = w80; have n0_ : Aside0 (Kd.R (Kd.int .i64) 3 w80 w.heap.size (fun k_ => some k_ ≠ (v812 : Value).ownBlock ∧ some k_ ≠ (.slice (some ad825) x14_3.length co79 : Value).ownBlock) v832 y831) := ⟨by rw [← hq_]; exact (by (with_reducible repeat (first | apply Kd.R_alloc | apply Kd.R_drewN | apply Kd.R_drew)); exact Kd.R_mono HO833.out (fun _ hk => ⟨hk.1.2, hk.2⟩))⟩; have n1_ : Aside0 (Kd.R (Kd.int .i64) 3 w80 w.heap.size (fun k_ => some k_ ≠ (v832 : Value).ownBlock ∧ some k_ ≠ (.slice (some ad825) x14_3.length co79 : Value).ownBlock) v812 x13_3) := ⟨by rw [← hq_]; exact (by (with_reducible repeat (first | apply Kd.R_alloc | apply Kd.R_drewN | apply Kd.R_drew)); exact Kd.R_mono HO_13.out (fun _ hk => ⟨hk.2, hk.1⟩))⟩; have n2_ : Aside0 (Kd.R (Kd.int .i64) 3 w80 w.heap.size (fun k_ => some k_ ≠ (v832 : Value).ownBlock ∧ some k_ ≠ (v812 : Value).ownBlock) (.slice (some ad825) x14_3.length co79) x14_3) := ⟨by rw [← hq_]; exact (by (with_reducible repeat (first | apply Kd.R_alloc | apply Kd.R_drewN | apply Kd.R_drew)); exact Kd.R_mono HO_14.out (fun _ hk => ⟨hk.2, hk.1⟩))⟩; have n3_ : Aside0 (Below w.heap.size w w80) := ⟨by rw [← hq_]; exact (Zb)⟩; clear HO833 HO_13 HO_14 HB hq_; have HO833 := n0_; have HO_13 := n1_; have HO_14 := n2_; have HB := n3_; clear n0_ n1_ n2_ n3_))
                     replace HO_13 := Aside0.mk (Kd.R_drew HO_13.out)
                     replace HO_14 := Aside0.mk (Kd.R_drew HO_14.out)
                     replace HO833 := Aside0.mk (Kd.R_drew HO833.out)
                     replace HB := Aside0.mk (Qac HB.out)
                     have p834 : 0 ≤ (x15_3 : Int) := Ze
                     have q834 : x15_3 < (l3.length : Int) := Ze
                     obtain ⟨ad834, e834, hx834_0, hx834_1, hx834_2, hx834_3, hx834_4⟩ := at_T75 HR3.out x15_3 p834 q834
                     have hw834_4 := hx834_4
                     have hw834_3 := hx834_3
                     have hw834_2 := hx834_2
                     have hw834_1 := hx834_1
                     have hw834_0 := hx834_0
                     obtain rfl : ad817 = ad834 := (by injection e834)
                     replace hx834_0 := Zx HB.out hx834_0
                     replace hx834_1 := Zx HB.out hx834_1
                     replace hx834_2 := Zx HB.out hx834_2
                     replace hx834_3 := Zx HB.out hx834_3
                     replace hx834_4 := Zx HB.out hx834_4
                     replace p834 := eq_true p834
                     replace q834 := eq_true q834
                     have p835 : 0 ≤ (x15_3 : Int) := Ze
                     have q835 : x15_3 < (l3.length : Int) := Ze
                     obtain ⟨ad835, e835, hx835_0, hx835_1, hx835_2, hx835_3, hx835_4⟩ := at_T75 HR3.out x15_3 p835 q835
                     have hw835_4 := hx835_4
                     have hw835_3 := hx835_3
                     have hw835_2 := hx835_2
                     have hw835_1 := hx835_1
                     have hw835_0 := hx835_0
                     obtain rfl : ad817 = ad835 := (by injection e835)
                     replace hx835_0 := Zx HB.out hx835_0
                     replace hx835_1 := Zx HB.out hx835_1
                     replace hx835_2 := Zx HB.out hx835_2
                     replace hx835_3 := Zx HB.out hx835_3
                     replace hx835_4 := Zx HB.out hx835_4
                     replace p835 := eq_true p835
                     replace q835 := eq_true q835
                     refine start_ (n := 12) (S := fun w' => w'.cell? (ad817.add ((x15_3).toNat * 5)) = some (.string ((rd_T75 l3 x15_3).f0)) ∧ w'.cell? ⟨(ad817.add ((x15_3).toNat * 5)).block, (ad817.add ((x15_3).toNat * 5)).off + 1, none⟩ = some (.string ((rd_T75 l3 x15_3).f1)) ∧ w'.cell? ⟨(ad817.add ((x15_3).toNat * 5)).block, (ad817.add ((x15_3).toNat * 5)).off + 2, none⟩ = some (.int .i64 ((rd_T75 l3 x15_3).f2)) ∧ w'.cell? ⟨(ad817.add ((x15_3).toNat * 5)).block, (ad817.add ((x15_3).toNat * 5)).off + 3, none⟩ = some (.int .i64 ((rd_T75 l3 x15_3).f3)) ∧ w'.cell? ⟨(ad817.add ((x15_3).toNat * 5)).block, (ad817.add ((x15_3).toNat * 5)).off + 4, none⟩ = some (.int .i64 ((rd_T75 l3 x15_3).f4)) ∧ w'.cell? (ad817.add ((x15_3).toNat * 5)) = some (.string ((rd_T75 l3 x15_3).f0)) ∧ w'.cell? ⟨(ad817.add ((x15_3).toNat * 5)).block, (ad817.add ((x15_3).toNat * 5)).off + 1, none⟩ = some (.string ((rd_T75 l3 x15_3).f1)) ∧ w'.cell? ⟨(ad817.add ((x15_3).toNat * 5)).block, (ad817.add ((x15_3).toNat * 5)).off + 2, none⟩ = some (.int .i64 ((rd_T75 l3 x15_3).f2)) ∧ w'.cell? ⟨(ad817.add ((x15_3).toNat * 5)).block, (ad817.add ((x15_3).toNat * 5)).off + 3, none⟩ = some (.int .i64 ((rd_T75 l3 x15_3).f3)) ∧ w'.cell? ⟨(ad817.add ((x15_3).toNat * 5)).block, (ad817.add ((x15_3).toNat * 5)).off + 4, none⟩ = some (.int .i64 ((rd_T75 l3 x15_3).f4))) (ds := []) #[F, F, F, F, F, F, F, F, F, F, F, F] (by kernel_rfl) rfl rfl ⟨((HB.out.cell (World.block_lt_of_cell? w _ hw834_0)).trans hw834_0), ((HB.out.cell (World.block_lt_of_cell? w _ hw834_1)).trans hw834_1), ((HB.out.cell (World.block_lt_of_cell? w _ hw834_2)).trans hw834_2), ((HB.out.cell (World.block_lt_of_cell? w _ hw834_3)).trans hw834_3), ((HB.out.cell (World.block_lt_of_cell? w _ hw834_4)).trans hw834_4), ((HB.out.cell (World.block_lt_of_cell? w _ hw835_0)).trans hw835_0), ((HB.out.cell (World.block_lt_of_cell? w _ hw835_1)).trans hw835_1), ((HB.out.cell (World.block_lt_of_cell? w _ hw835_2)).trans hw835_2), ((HB.out.cell (World.block_lt_of_cell? w _ hw835_3)).trans hw835_3), ((HB.out.cell (World.block_lt_of_cell? w _ hw835_4)).trans hw835_4)⟩ (fun hHeld => ?_); refine QaC Qaa.tab21 Qaa.bits21 (fun HT_ HW_ => ?_)
                     generalize w80.drew = w82 at HO_13 HO_14 HO833 HB hx834_0 hx834_1 hx834_2 hx834_3 hx834_4 hx835_0 hx835_1 hx835_2 hx835_3 hx835_4 hHeld ⊢
                     refine Zsp (i := 0) (N := some 168) (pm 12 1) HT_ ?_
                     refine Zsp (i := 1) (N := some 169) (pm 12 2) HT_ ?_
                     refine Zsp (i := 2) (N := some 170) (pm 12 3) HT_ ?_
                     refine Zsp (i := 3) (N := some 171) (pm 12 4) HT_ ?_
                     refine Zsp (i := 5) (N := some 173) #[T, T, T, T, F, T, F, F, F, F, F, F] HT_ ?_
                     refine Zsp (i := 6) (N := some 174) #[T, T, T, T, F, T, T, F, F, F, F, F] HT_ ?_
                     refine Zsp (i := 7) (N := some 175) #[T, T, T, T, F, T, T, T, F, F, F, F] HT_ ?_
                     refine Zsp (i := 8) (N := some 176) #[T, T, T, T, F, T, T, T, T, F, F, F] HT_ ?_
                     refine Zst (i := 4) (N := some 172) (pm 12 9) HT_ HW_ hHeld ?_ (hy := by (refine Or.inl ⟨by rfl, ?_⟩; rintro w' ⟨s0, s1, s2, s3, s4, s5, s6, s7, s8, s9⟩; go_simp; with_reducible rfl))
                     refine Zst (i := 9) (N := some 177) (pm 12 10) HT_ HW_ hHeld ?_ (hy := by (refine Or.inl ⟨by rfl, ?_⟩; rintro w' ⟨s0, s1, s2, s3, s4, s5, s6, s7, s8, s9⟩; go_simp; with_reducible rfl))
                     refine one_ (i := 10) (N := some 178) #[T, T, T, T, T, T, T, T, T, T, T, F] rfl rfl (one_of HT_.out (by kernel_rfl)) (by decide) (fun K hK => ?_)
                     refine Kd.R_lit_step (Kd.int .i64) _ 3 ?hg (N := 178) ?hd (xs := ([(rd_T75 l3 x15_3).f2, (rd_T75 l3 x15_3).f3] : List Int)) (inner := [.int .i64 ((rd_T75 l3 x15_3).f2), .int .i64 ((rd_T75 l3 x15_3).f3)]) (ok := fun _ => True) (okp := fun _ => True) ?hr ?hp (fun _ hk => hk) trivial (Below.refl _ _) (Nat.le_refl _) (by simp) ?_; (case hd => rfl); (case hg => rfl); (case hr => first | (go_simp; done) | (go_simp; rfl)); (case hp => exact (Reps.one (show Kd.M (Kd.int .i64) _ _ _ ((rd_T75 l3 x15_3).f2) [.int .i64 ((rd_T75 l3 x15_3).f2)] from rfl) (Reps.one (show Kd.M (Kd.int .i64) _ _ _ ((rd_T75 l3 x15_3).f3) [.int .i64 ((rd_T75 l3 x15_3).f3)] from rfl) (Reps.none _ _))))
                     intro v837 w83 ho84 hb hg_ hnew_
                     clear hg_ hnew_
                     (first | rw [← Ny836.out] at ho84 | (simp only [Int.reduceToNat] at ho84; rw [← Ny836.out] at ho84))
                     have HO838 := Aside0.mk (Kd.R_lower (Kd.R_new' (Kd.R_new' (Kd.R_new' ho84 (Kd.R_lt (Zr HO_13.out))) (Kd.R_lt (Zr HO_14.out))) (Kd.R_lt (Zr HO833.out))) (Qau (Zb)))
                     replace HO_13 := Aside0.mk (Kd.R_elder' (Zr HO_13.out) (Kd.R_base ho84) hb)
                     replace HO_14 := Aside0.mk (Kd.R_elder' (Zr HO_14.out) (Kd.R_base ho84) hb)
                     replace HO833 := Aside0.mk (Kd.R_elder' (Zr HO833.out) (Kd.R_base ho84) hb)
                     replace HB := Aside0.mk (Qao (Zb) hb)
                     clear hb ho84
                     refine hK.out _ _ ⟨((HB.out.cell (World.block_lt_of_cell? w _ hw834_0)).trans hw834_0), ((HB.out.cell (World.block_lt_of_cell? w _ hw834_1)).trans hw834_1), ((HB.out.cell (World.block_lt_of_cell? w _ hw834_2)).trans hw834_2), ((HB.out.cell (World.block_lt_of_cell? w _ hw834_3)).trans hw834_3), ((HB.out.cell (World.block_lt_of_cell? w _ hw834_4)).trans hw834_4), ((HB.out.cell (World.block_lt_of_cell? w _ hw835_0)).trans hw835_0), ((HB.out.cell (World.block_lt_of_cell? w _ hw835_1)).trans hw835_1), ((HB.out.cell (World.block_lt_of_cell? w _ hw835_2)).trans hw835_2), ((HB.out.cell (World.block_lt_of_cell? w _ hw835_3)).trans hw835_3), ((HB.out.cell (World.block_lt_of_cell? w _ hw835_4)).trans hw835_4)⟩ (fun hHeld => ?_)
                     clear hK K
                     refine norm_ (a' := ?_) ?_ ?_
                     rotate_left
                     ·show Act.put _ (some 178) _ = _
                      simp only [Act.put, Zj, Zk, Zm, i64_w, i32_w]
                      rfl
                     refine Zsp (i := 11) (N := some 20) (pm 12 12) HT_ ?_
                     refine done_ (QaH HT_.out (by kernel_rfl)) ?_
                     try go_wp2
                     go_loopg [21] kj47 (fun kq v21 w' => ∃ (x13_5 : List Int) (x14_5 : List Int) (x21_5 : Int), v21 = .int .i64 x21_5 ∧ Aside0 (Qaa.l2 kq l0 l1 l2 l3 x13_5 x14_5 x15_3 ji77 y831 y836 x21_5 = some (r1, r2, r3)) ∧ Aside0 (kq ≤ kj47) ∧ Aside0 (Kd.R (Kd.int .i64) 3 w' w.heap.size (fun k_ => some k_ ≠ ((.slice (some ad825) x14_3.length co79) : Value).ownBlock ∧ some k_ ≠ (v832 : Value).ownBlock ∧ some k_ ≠ (v837 : Value).ownBlock) v812 x13_5) ∧ Aside0 (Kd.R (Kd.int .i64) 3 w' w.heap.size (fun k_ => some k_ ≠ (v812 : Value).ownBlock ∧ some k_ ≠ (v832 : Value).ownBlock ∧ some k_ ≠ (v837 : Value).ownBlock) (.slice (some ad825) x14_3.length co79) x14_5) ∧ Aside0 (Kd.R (Kd.int .i64) 3 w' w.heap.size (fun k_ => some k_ ≠ (v812 : Value).ownBlock ∧ some k_ ≠ ((.slice (some ad825) x14_3.length co79) : Value).ownBlock ∧ some k_ ≠ (v837 : Value).ownBlock) v832 y831) ∧ Aside0 (Kd.R (Kd.int .i64) 3 w' w.heap.size (fun k_ => some k_ ≠ (v812 : Value).ownBlock ∧ some k_ ≠ ((.slice (some ad825) x14_3.length co79) : Value).ownBlock ∧ some k_ ≠ (v832 : Value).ownBlock) v837 y836) ∧ Aside0 (Below w.heap.size w w'))
                     case atStart => exact ⟨(x13_3), (x14_3), (0), (Zs), H', ⟨Nat.le_refl _⟩, ⟨by (with_reducible repeat (first | apply Kd.R_alloc | apply Kd.R_drewN | apply Kd.R_drew)); exact Kd.R_mono HO_13.out (fun _ hk => ⟨hk.1.1, ⟨hk.1.2, hk.2⟩⟩)⟩, ⟨by (with_reducible repeat (first | apply Kd.R_alloc | apply Kd.R_drewN | apply Kd.R_drew)); exact Kd.R_mono HO_14.out (fun _ hk => ⟨hk.1.1, ⟨hk.1.2, hk.2⟩⟩)⟩, ⟨by (with_reducible repeat (first | apply Kd.R_alloc | apply Kd.R_drewN | apply Kd.R_drew)); exact Kd.R_mono HO833.out (fun _ hk => ⟨hk.1.1.2, ⟨hk.1.2, hk.2⟩⟩)⟩, ⟨by (with_reducible repeat (first | apply Kd.R_alloc | apply Kd.R_drewN | apply Kd.R_drew)); exact Kd.R_mono HO838.out (fun _ hk => ⟨hk.1.1.2, ⟨hk.1.2, hk.2⟩⟩)⟩, ⟨Zb⟩⟩
                     case round => as_aux_lemma =>
                      clear H'
                      try clear p2
                      try clear c5
                      try clear c6
                      try clear p6
                      try clear c7
                      try clear c8
                      try clear p8
                      try clear q8
                      try clear hx8
                      try clear c54
                      try clear c55
                      try clear c56
                      try clear c56b0
                      try clear c56b1
                      try clear c59
                      try clear c59b0
                      try clear c60
                      try clear c60b0
                      try clear c61
                      try clear c61b0
                      try clear c61b1
                      try clear p64
                      try clear c66
                      try clear c67
                      try clear c67b0
                      try clear c68
                      try clear c68b0
                      try clear c70
                      try clear c70b0
                      try clear c71
                      try clear c71b0
                      try clear c72
                      try clear c72b0
                      try clear c72b1
                      try clear c73
                      try clear c73b0
                      try clear c74
                      try clear c74b0
                      try clear c76
                      try clear c76b0
                      try clear c76b1
                      try clear c80
                      try clear p82
                      try clear q82
                      try clear hx82
                      try clear p83
                      try clear q83
                      try clear hx83
                      try clear hx821_0
                      try clear hx822_0
                      try clear hx823_0
                      try clear hx824_0
                      try clear hx825_0
                      try clear hx827_0
                      try clear hx827_1
                      try clear hx827_2
                      try clear hx827_3
                      try clear hx827_4
                      try clear hx828_0
                      try clear hx830_0
                      try clear hx830_1
                      try clear hx830_2
                      try clear hx830_3
                      try clear hx830_4
                      try clear hx834_0
                      try clear hx834_1
                      try clear hx834_2
                      try clear hx834_3
                      try clear hx834_4
                      try clear hx835_0
                      try clear hx835_1
                      try clear hx835_2
                      try clear hx835_3
                      try clear hx835_4
                      try clear p2
                      try clear p8
                      try clear p821
                      try clear p822
                      try clear p823
                      try clear p824
                      try clear p825
                      try clear p827
                      try clear p828
                      try clear p830
                      try clear p834
                      try clear p835
                      try clear q8
                      try clear q821
                      try clear q822
                      try clear q823
                      try clear q824
                      try clear q825
                      try clear q827
                      try clear q828
                      try clear q830
                      try clear q834
                      try clear q835
                      obtain ⟨x13_5, x14_5, x21_5, rfl, HA, HK5, HO_13, HO_14, HO_19, HO_20, HB⟩ := hrel
                      have hl14_5 := (Kd.R_reads' HO_14.out).1
                      rw [hl14_5] at HO_14
                      (try simp only [hl14_5])
                      (try simp only [hl14_5] at HO_13)
                      (try simp only [hl14_5] at HO_19)
                      (try simp only [hl14_5] at HO_20)
                      cases gk with
                      | zero => exact absurd HA.out (by simp [Qaa.l2])
                      | succ k5 =>
                       have H := HA.out
                       clear HA
                       simp only [Qaa.l2] at H
                       by_cases c85 : x21_5 < 2
                       ·rw [if_pos c85] at H
                        have c85b0 : decide (x21_5 < 2) = T := decide_eq_true c85
                        clear c85
                        (try simp only [c85b0])
                        by_cases c86 : 0 ≤ x21_5
                        ·rw [if_pos c86] at H
                         have c86b0 : decide (0 ≤ x21_5) = T := decide_eq_true c86
                         clear c86
                         by_cases c87 : x21_5 < (y831.length : Int)
                         ·rw [if_pos c87] at H
                          have c87b0 : decide (x21_5 < (y831.length : Int)) = T := decide_eq_true c87
                          clear c87
                          by_cases c88 : x21_5 < (y836.length : Int)
                          ·rw [if_pos c88] at H
                           have c88b0 : decide (x21_5 < (y836.length : Int)) = T := decide_eq_true c88
                           clear c88
                           by_cases c89 : 0 ≤ (rd y831 x21_5)
                           ·rw [if_pos c89] at H
                            have c89b0 : decide (0 ≤ (rd y831 x21_5)) = T := decide_eq_true c89
                            clear c89
                            by_cases c90 : (rd y831 x21_5) < (l2.length : Int)
                            ·rw [if_pos c90] at H
                             have c90b0 : decide ((rd y831 x21_5) < (l2.length : Int)) = T := decide_eq_true c90
                             clear c90
                             by_cases c91 : (rd y831 x21_5) < (l1.length : Int)
                             ·rw [if_pos c91] at H
                              have c91b0 : decide ((rd y831 x21_5) < (l1.length : Int)) = T := decide_eq_true c91
                              clear c91
                              replace H := Option.bind_eq_some_iff.mp H
                              obtain ⟨t843, A920, H⟩ := H
                              replace H : ((Qaz.f (rd l2 (rd y831 x21_5)) (wrap64 ((wrap64 (ji77 * 1000)) * (rd y836 x21_5))) t843 1).bind fun bt844 => (if 0 ≤ x15_3 then (if x15_3 < (l3.length : Int) then ((Qaz.f bt844.1 ((rd_T75 l3 x15_3).f4) 1000 1).bind fun bt847 => (if (rd y831 x21_5) < (x13_5.length : Int) then ((some (x13_5.set ((rd y831 x21_5) : Int).toNat (mn (wrap64 ((rd x13_5 (rd y831 x21_5)) + bt847.1)) (rd l2 (rd y831 x21_5))) : List Int)).bind fun y851 => (if (rd y831 x21_5) < (x14_5.length : Int) then (if (rd x14_5 (rd y831 x21_5)) > 0 then (Qaa.l2 k5 l0 l1 l2 l3 y851 (x14_5.set ((rd y831 x21_5) : Int).toNat (wrap64 ((rd x14_5 (rd y831 x21_5)) - (wrap64 ((wrap64 (ji77 * 1000)) * (rd y836 x21_5)))))) x15_3 ji77 y831 y836 (wrap64 (x21_5 + 1))) else (Qaa.l2 k5 l0 l1 l2 l3 y851 (x14_5.set ((rd y831 x21_5) : Int).toNat (wrap64 ((rd x14_5 (rd y831 x21_5)) + (wrap64 ((wrap64 (ji77 * 1000)) * (rd y836 x21_5)))))) x15_3 ji77 y831 y836 (wrap64 (x21_5 + 1)))) else (none))) else (none))) else (none)) else (none))) = some (r1, r2, r3) := H
                              have A92 := Aside0.mk A920
                              clear A920
                              replace H := Option.bind_eq_some_iff.mp H
                              obtain ⟨⟨t844, t845⟩, A930, H⟩ := H
                              replace H : (if 0 ≤ x15_3 then (if x15_3 < (l3.length : Int) then ((Qaz.f t844 ((rd_T75 l3 x15_3).f4) 1000 1).bind fun bt847 => (if (rd y831 x21_5) < (x13_5.length : Int) then ((some (x13_5.set ((rd y831 x21_5) : Int).toNat (mn (wrap64 ((rd x13_5 (rd y831 x21_5)) + bt847.1)) (rd l2 (rd y831 x21_5))) : List Int)).bind fun y851 => (if (rd y831 x21_5) < (x14_5.length : Int) then (if (rd x14_5 (rd y831 x21_5)) > 0 then (Qaa.l2 k5 l0 l1 l2 l3 y851 (x14_5.set ((rd y831 x21_5) : Int).toNat (wrap64 ((rd x14_5 (rd y831 x21_5)) - (wrap64 ((wrap64 (ji77 * 1000)) * (rd y836 x21_5)))))) x15_3 ji77 y831 y836 (wrap64 (x21_5 + 1))) else (Qaa.l2 k5 l0 l1 l2 l3 y851 (x14_5.set ((rd y831 x21_5) : Int).toNat (wrap64 ((rd x14_5 (rd y831 x21_5)) + (wrap64 ((wrap64 (ji77 * 1000)) * (rd y836 x21_5)))))) x15_3 ji77 y831 y836 (wrap64 (x21_5 + 1)))) else (none))) else (none))) else (none)) else (none)) = some (r1, r2, r3) := H
                              have A93 := Aside0.mk A930
                              clear A930
                              by_cases c94 : 0 ≤ x15_3
                              ·rw [if_pos c94] at H
                               have c94b0 : decide (0 ≤ x15_3) = T := decide_eq_true c94
                               clear c94
                               by_cases c95 : x15_3 < (l3.length : Int)
                               ·rw [if_pos c95] at H
                                have c95b0 : decide (x15_3 < (l3.length : Int)) = T := decide_eq_true c95
                                clear c95
                                replace H := Option.bind_eq_some_iff.mp H
                                obtain ⟨⟨t847, t848⟩, A960, H⟩ := H
                                replace H : (if (rd y831 x21_5) < (x13_5.length : Int) then ((some (x13_5.set ((rd y831 x21_5) : Int).toNat (mn (wrap64 ((rd x13_5 (rd y831 x21_5)) + t847)) (rd l2 (rd y831 x21_5))) : List Int)).bind fun y851 => (if (rd y831 x21_5) < (x14_5.length : Int) then (if (rd x14_5 (rd y831 x21_5)) > 0 then (Qaa.l2 k5 l0 l1 l2 l3 y851 (x14_5.set ((rd y831 x21_5) : Int).toNat (wrap64 ((rd x14_5 (rd y831 x21_5)) - (wrap64 ((wrap64 (ji77 * 1000)) * (rd y836 x21_5)))))) x15_3 ji77 y831 y836 (wrap64 (x21_5 + 1))) else (Qaa.l2 k5 l0 l1 l2 l3 y851 (x14_5.set ((rd y831 x21_5) : Int).toNat (wrap64 ((rd x14_5 (rd y831 x21_5)) + (wrap64 ((wrap64 (ji77 * 1000)) * (rd y836 x21_5)))))) x15_3 ji77 y831 y836 (wrap64 (x21_5 + 1)))) else (none))) else (none)) = some (r1, r2, r3) := H
                                have A96 := Aside0.mk A960
                                clear A960
                                by_cases c97 : (rd y831 x21_5) < (x13_5.length : Int)
                                ·rw [if_pos c97] at H
                                 have c97b0 : decide ((rd y831 x21_5) < (x13_5.length : Int)) = T := decide_eq_true c97
                                 clear c97
                                 obtain ⟨ji98, hji98⟩ : ∃ j_ : Int, (mn (wrap64 ((rd x13_5 (rd y831 x21_5)) + t847)) (rd l2 (rd y831 x21_5))) = j_ := ⟨_, rfl⟩
                                 replace H : ((some (x13_5.set ((rd y831 x21_5) : Int).toNat (ji98) : List Int)).bind fun y851 => (if (rd y831 x21_5) < (x14_5.length : Int) then (if (rd x14_5 (rd y831 x21_5)) > 0 then (Qaa.l2 k5 l0 l1 l2 l3 y851 (x14_5.set ((rd y831 x21_5) : Int).toNat (wrap64 ((rd x14_5 (rd y831 x21_5)) - (wrap64 ((wrap64 (ji77 * 1000)) * (rd y836 x21_5)))))) x15_3 ji77 y831 y836 (wrap64 (x21_5 + 1))) else (Qaa.l2 k5 l0 l1 l2 l3 y851 (x14_5.set ((rd y831 x21_5) : Int).toNat (wrap64 ((rd x14_5 (rd y831 x21_5)) + (wrap64 ((wrap64 (ji77 * 1000)) * (rd y836 x21_5)))))) x15_3 ji77 y831 y836 (wrap64 (x21_5 + 1)))) else (none))) = some (r1, r2, r3) := by first | (rw [hji98] at H; exact H) | (simp only [hji98] at H ⊢; exact H)
                                 (try rw [hji98] at A92)
                                 (try rw [hji98] at A93)
                                 (try rw [hji98] at A96)
                                 have hji98_ : (if (rd l2 (rd y831 x21_5)) < (wrap64 ((rd x13_5 (rd y831 x21_5)) + t847)) then (rd l2 (rd y831 x21_5)) else (wrap64 ((rd x13_5 (rd y831 x21_5)) + t847))) = ji98 := hji98
                                 obtain ⟨y851, hy851⟩ : ∃ y_ : List Int, y_ = (x13_5.set ((rd y831 x21_5) : Int).toNat (ji98)) := ⟨_, rfl⟩
                                 replace H : (if (rd y831 x21_5) < (x14_5.length : Int) then (if (rd x14_5 (rd y831 x21_5)) > 0 then (Qaa.l2 k5 l0 l1 l2 l3 y851 (x14_5.set ((rd y831 x21_5) : Int).toNat (wrap64 ((rd x14_5 (rd y831 x21_5)) - (wrap64 ((wrap64 (ji77 * 1000)) * (rd y836 x21_5)))))) x15_3 ji77 y831 y836 (wrap64 (x21_5 + 1))) else (Qaa.l2 k5 l0 l1 l2 l3 y851 (x14_5.set ((rd y831 x21_5) : Int).toNat (wrap64 ((rd x14_5 (rd y831 x21_5)) + (wrap64 ((wrap64 (ji77 * 1000)) * (rd y836 x21_5)))))) x15_3 ji77 y831 y836 (wrap64 (x21_5 + 1)))) else (none)) = some (r1, r2, r3) := by first | (rw [hy851]; with_reducible exact H) | (have H2_ := (Option.bind_some _ _).symm.trans H; rw [hy851]; with_reducible exact H2_) | (have H2_ := (Option.bind_some _ _).symm.trans H; with_reducible exact H2_) | with_reducible exact H | (rw [hy851]; exact H) | exact H
                                 have Ny851 := Aside0.mk hy851
                                 clear hy851
                                 by_cases c100 : (rd y831 x21_5) < (x14_5.length : Int)
                                 ·rw [if_pos c100] at H
                                  have c100b0 : decide ((rd y831 x21_5) < (x14_5.length : Int)) = T := decide_eq_true c100
                                  clear c100
                                  by_cases c109 : (rd x14_5 (rd y831 x21_5)) > 0
                                  ·rw [if_pos c109] at H
                                   have c109b0 : decide (0 < (rd x14_5 (rd y831 x21_5))) = T := decide_eq_true c109
                                   clear c109
                                   obtain ⟨y854, hy854⟩ : ∃ y_ : List Int, y_ = (x14_5.set ((rd y831 x21_5) : Int).toNat (wrap64 ((rd x14_5 (rd y831 x21_5)) - (wrap64 ((wrap64 (ji77 * 1000)) * (rd y836 x21_5)))))) := ⟨_, rfl⟩
                                   replace H : (Qaa.l2 k5 l0 l1 l2 l3 y851 y854 x15_3 ji77 y831 y836 (wrap64 (x21_5 + 1))) = some (r1, r2, r3) := by first | (rw [hy854]; with_reducible exact H) | (have H2_ := (Option.bind_some _ _).symm.trans H; rw [hy854]; with_reducible exact H2_) | (have H2_ := (Option.bind_some _ _).symm.trans H; with_reducible exact H2_) | with_reducible exact H | (rw [hy854]; exact H) | exact H
                                   have Ny854 := Aside0.mk hy854
                                   clear hy854
                                   have H' := Aside0.mk H
                                   clear H
                                   obtain ⟨Ao111, co111, eo111⟩ := Kd.R_slice HO_19.out
                                   subst eo111
                                   have p839 : 0 ≤ (x21_5 : Int) := Ze
                                   have q839 : x21_5 < (y831.length : Int) := Ze
                                   obtain ⟨ad839, e839, hx839_0⟩ := Kd.at_int (Kd.R_reads' HO_19.out).2.2 x21_5 p839 q839
                                   cases e839
                                   replace p839 := eq_true p839
                                   replace q839 := eq_true q839
                                   obtain ⟨Ao112, co112, eo112⟩ := Kd.R_slice HO_20.out
                                   subst eo112
                                   have p840 : 0 ≤ (x21_5 : Int) := Ze
                                   have q840 : x21_5 < (y836.length : Int) := Ze
                                   obtain ⟨ad840, e840, hx840_0⟩ := Kd.at_int (Kd.R_reads' HO_20.out).2.2 x21_5 p840 q840
                                   cases e840
                                   replace p840 := eq_true p840
                                   replace q840 := eq_true q840
                                   try go_wp2
                                   (try (rw [QaW wr]; generalize hq_ : World.drewN wr _ = wr; have n0_ : Aside0 (Kd.R (Kd.int .i64) 3 wr w.heap.size (fun k_ => some k_ ≠ (.slice (some ad825) x14_5.length co79 : Value).ownBlock ∧ some k_ ≠ (.slice (some ad839) y831.length co111 : Value).ownBlock ∧ some k_ ≠ (.slice (some ad840) y836.length co112 : Value).ownBlock) v812 x13_5) := ⟨by rw [← hq_]; exact (Zr HO_13.out)⟩; have n1_ : Aside0 (Kd.R (Kd.int .i64) 3 wr w.heap.size (fun k_ => some k_ ≠ (v812 : Value).ownBlock ∧ some k_ ≠ (.slice (some ad839) y831.length co111 : Value).ownBlock ∧ some k_ ≠ (.slice (some ad840) y836.length co112 : Value).ownBlock) (.slice (some ad825) x14_5.length co79) x14_5) := ⟨by rw [← hq_]; exact (Zr HO_14.out)⟩; have n2_ : Aside0 (Kd.R (Kd.int .i64) 3 wr w.heap.size (fun k_ => some k_ ≠ (v812 : Value).ownBlock ∧ some k_ ≠ (.slice (some ad825) x14_5.length co79 : Value).ownBlock ∧ some k_ ≠ (.slice (some ad840) y836.length co112 : Value).ownBlock) (.slice (some ad839) y831.length co111) y831) := ⟨by rw [← hq_]; exact (Zr HO_19.out)⟩; have n3_ : Aside0 (Kd.R (Kd.int .i64) 3 wr w.heap.size (fun k_ => some k_ ≠ (v812 : Value).ownBlock ∧ some k_ ≠ (.slice (some ad825) x14_5.length co79 : Value).ownBlock ∧ some k_ ≠ (.slice (some ad839) y831.length co111 : Value).ownBlock) (.slice (some ad840) y836.length co112) y836) := ⟨by rw [← hq_]; exact (Zr HO_20.out)⟩; have n4_ : Aside0 (Below w.heap.size w wr) := ⟨by rw [← hq_]; exact (Zb)⟩; clear HO_13 HO_14 HO_19 HO_20 HB hq_; have HO_13 := n0_; have HO_14 := n1_; have HO_19 := n2_; have HO_20 := n3_; have HB := n4_; clear n0_ n1_ n2_ n3_ n4_))
                                   replace HO_13 := Aside0.mk (Kd.R_drew HO_13.out)
                                   replace HO_14 := Aside0.mk (Kd.R_drew HO_14.out)
                                   replace HO_19 := Aside0.mk (Kd.R_drew HO_19.out)
                                   replace HO_20 := Aside0.mk (Kd.R_drew HO_20.out)
                                   replace HB := Aside0.mk (Qac HB.out)
                                   have p841 : 0 ≤ ((rd y831 x21_5) : Int) := Ze
                                   have q841 : (rd y831 x21_5) < (l2.length : Int) := Ze
                                   obtain ⟨ad841, e841, hx841_0⟩ := Kd.at_int HR2.out (rd y831 x21_5) p841 q841
                                   have hw841_0 := hx841_0
                                   cases e841
                                   replace hx841_0 := Zx HB.out hx841_0
                                   replace p841 := eq_true p841
                                   replace q841 := eq_true q841
                                   have p842 : 0 ≤ ((rd y831 x21_5) : Int) := Ze
                                   have q842 : (rd y831 x21_5) < (l1.length : Int) := Ze
                                   obtain ⟨ad842, e842, hx842_0⟩ := Kd.at_int HR1.out (rd y831 x21_5) p842 q842
                                   have hw842_0 := hx842_0
                                   cases e842
                                   replace hx842_0 := Zx HB.out hx842_0
                                   replace p842 := eq_true p842
                                   replace q842 := eq_true q842
                                   refine start_ (n := 16) (S := fun w' => w'.cell? (ad841.add ((rd y831 x21_5)).toNat) = some (.int .i64 (rd l2 (rd y831 x21_5))) ∧ w'.cell? (ad842.add ((rd y831 x21_5)).toNat) = some (.int .i64 (rd l1 (rd y831 x21_5)))) (ds := []) #[F, F, F, F, F, F, F, F, F, F, F, F, F, F, F, F] (by kernel_rfl) rfl rfl ⟨((HB.out.cell (World.block_lt_of_cell? w _ hw841_0)).trans hw841_0), ((HB.out.cell (World.block_lt_of_cell? w _ hw842_0)).trans hw842_0)⟩ (fun hHeld => ?_); refine QaC Qaa.tab27 Qaa.bits27 (fun HT_ HW_ => ?_)
                                   generalize wr.drew = w113 at HO_13 HO_14 HO_19 HO_20 HB hx841_0 hx842_0 hHeld ⊢
                                   refine Zsp (i := 0) (N := some 195) (pm 16 1) HT_ ?_
                                   refine Zsp (i := 1) (N := some 196) (pm 16 2) HT_ ?_
                                   refine Zsp (i := 2) (N := some 197) (pm 16 3) HT_ ?_
                                   refine Zsp (i := 4) (N := some 199) #[T, T, T, F, T, F, F, F, F, F, F, F, F, F, F, F] HT_ ?_
                                   refine Zsp (i := 5) (N := some 200) #[T, T, T, F, T, T, F, F, F, F, F, F, F, F, F, F] HT_ ?_
                                   refine Zsp (i := 6) (N := some 201) #[T, T, T, F, T, T, T, F, F, F, F, F, F, F, F, F] HT_ ?_
                                   refine Zsp (i := 7) (N := some 202) #[T, T, T, F, T, T, T, T, F, F, F, F, F, F, F, F] HT_ ?_
                                   refine Zst (i := 3) (N := some 198) (pm 16 8) HT_ HW_ hHeld ?_ (hy := by (refine Or.inl ⟨by rfl, ?_⟩; rintro w' ⟨s0, s1⟩; go_simp; with_reducible rfl))
                                   refine Zst (i := 8) (N := some 203) (pm 16 9) HT_ HW_ hHeld ?_ (hy := by (refine Or.inl ⟨by rfl, ?_⟩; rintro w' ⟨s0, s1⟩; go_simp; with_reducible rfl))
                                   refine one_ (i := 9) (N := some 204) #[T, T, T, T, T, T, T, T, T, T, F, F, F, F, F, F] rfl rfl (one_of HT_.out (by kernel_rfl)) (by decide) (fun K hK => ?_)
                                   refine goes_ Try.func80 (by kernel_rfl) rfl #[.int .i64 (rd l1 (rd y831 x21_5))] (by rfl) rfl rfl (Zl) ?_
                                   with_reducible refine (QaG.calls (rd l1 (rd y831 x21_5)) t843 _ A92.out).mono ?_
                                   rintro e w' ⟨rfl, ⟨nd, rfl⟩⟩
                                   refine ⟨_, rfl, ?_⟩
                                   refine hK.out _ _ ⟨((HB.out.cell (World.block_lt_of_cell? w _ hw841_0)).trans hw841_0), ((HB.out.cell (World.block_lt_of_cell? w _ hw842_0)).trans hw842_0)⟩ (fun hHeld => ?_)
                                   clear hK K
                                   refine norm_ (a' := ?_) ?_ ?_
                                   rotate_left
                                   ·show Act.put _ (some 204) _ = _
                                    simp only [Act.put, Zj, Zk, Zm, i64_w, i32_w]
                                    rfl
                                   refine one_ (i := 10) (N := some 205) #[T, T, T, T, T, T, T, T, T, T, T, F, F, F, F, F] rfl rfl (one_of HT_.out (by kernel_rfl)) (by decide) (fun K hK => ?_)
                                   refine goes_ Try.func81 (by kernel_rfl) rfl #[.int .i64 (rd l2 (rd y831 x21_5)), .int .i64 (wrap64 ((wrap64 (ji77 * 1000)) * (rd y836 x21_5))), .int .i64 t843, .int .i64 1] (by rfl) rfl rfl (by (try simp only [List.map_toArray, List.map_cons, List.map_nil]); first | done | (simp only [hji77]; rfl) | rfl | (simp only [List.length_drop, List.length_take]; rfl)) ?_
                                   with_reducible refine (Qaz.calls (rd l2 (rd y831 x21_5)) (wrap64 ((wrap64 (ji77 * 1000)) * (rd y836 x21_5))) t843 1 t844 t845 _ A93.out).mono ?_
                                   rintro e w114 ⟨rfl, hb⟩
                                   refine ⟨_, rfl, ?_⟩
                                   replace HO_13 := Aside0.mk (Kd.R_below (Zr HO_13.out) hb)
                                   replace HO_14 := Aside0.mk (Kd.R_below (Zr HO_14.out) hb)
                                   replace HO_19 := Aside0.mk (Kd.R_below (Zr HO_19.out) hb)
                                   replace HO_20 := Aside0.mk (Kd.R_below (Zr HO_20.out) hb)
                                   replace HB := Aside0.mk (Qao (Zb) hb)
                                   (try clear hb)
                                   (try clear hb2)
                                   (try clear hk)
                                   (try clear hi)
                                   refine hK.out _ _ ⟨((HB.out.cell (World.block_lt_of_cell? w _ hw841_0)).trans hw841_0), ((HB.out.cell (World.block_lt_of_cell? w _ hw842_0)).trans hw842_0)⟩ (fun hHeld => ?_)
                                   clear hK K
                                   refine norm_ (a' := ?_) ?_ ?_
                                   rotate_left
                                   ·show Act.put _ (some 205) _ = _
                                    simp only [Act.put, Zj, Zk, Zm, i64_w, i32_w]
                                    rfl
                                   refine Zsp (i := 11) (N := some 194) (pm 16 12) HT_ ?_
                                   refine Zsp (i := 12) (N := some 206) (pm 16 13) HT_ ?_
                                   refine Zsp (i := 13) (N := some 207) (pm 16 14) HT_ ?_
                                   refine Zsp (i := 14) (N := some 24) (pm 16 15) HT_ ?_
                                   refine Zsp (i := 15) (N := some 25) (pm 16 16) HT_ ?_
                                   refine done_ (QaH HT_.out (by kernel_rfl)) ?_
                                   have p846 : 0 ≤ (x15_3 : Int) := Ze
                                   have q846 : x15_3 < (l3.length : Int) := Ze
                                   obtain ⟨ad846, e846, hx846_0, hx846_1, hx846_2, hx846_3, hx846_4⟩ := at_T75 HR3.out x15_3 p846 q846
                                   obtain rfl : ad817 = ad846 := (by injection e846)
                                   replace hx846_0 := Zx HB.out hx846_0
                                   replace hx846_1 := Zx HB.out hx846_1
                                   replace hx846_2 := Zx HB.out hx846_2
                                   replace hx846_3 := Zx HB.out hx846_3
                                   replace hx846_4 := Zx HB.out hx846_4
                                   replace p846 := eq_true p846
                                   replace q846 := eq_true q846
                                   try go_wp2_with (first | ((with_reducible refine QaD (f := 81) rfl ?_); refine goesL_ (some 215) rfl rfl Try.func81 (by kernel_rfl) rfl #[.int .i64 t844, .int .i64 ((rd_T75 l3 x15_3).f4), .int .i64 1000, .int .i64 1] rfl (Zl) ?_; (with_reducible refine (Qaz.calls t844 ((rd_T75 l3 x15_3).f4) 1000 1 t847 t848 _ A96.out).mono ?_); rintro e w115 ⟨rfl, hb⟩; refine ⟨_, rfl, ?_⟩; replace HO_13 := Aside0.mk (Kd.R_below (Zr HO_13.out) hb); replace HO_14 := Aside0.mk (Kd.R_below (Zr HO_14.out) hb); replace HO_19 := Aside0.mk (Kd.R_below (Zr HO_19.out) hb); replace HO_20 := Aside0.mk (Kd.R_below (Zr HO_20.out) hb); replace HB := Aside0.mk (Qao (Zb) hb); (try clear hb); (try clear hb2); (try clear hk); (try clear hi)))
                                   (try (rw [QaW w115]; generalize hq_ : World.drewN w115 _ = w115; have n0_ : Aside0 (Kd.R (Kd.int .i64) 3 w115 w.heap.size (fun k_ => some k_ ≠ (.slice (some ad825) x14_5.length co79 : Value).ownBlock ∧ some k_ ≠ (.slice (some ad839) y831.length co111 : Value).ownBlock ∧ some k_ ≠ (.slice (some ad840) y836.length co112 : Value).ownBlock) v812 x13_5) := ⟨by rw [← hq_]; exact (Zr HO_13.out)⟩; have n1_ : Aside0 (Kd.R (Kd.int .i64) 3 w115 w.heap.size (fun k_ => some k_ ≠ (v812 : Value).ownBlock ∧ some k_ ≠ (.slice (some ad839) y831.length co111 : Value).ownBlock ∧ some k_ ≠ (.slice (some ad840) y836.length co112 : Value).ownBlock) (.slice (some ad825) x14_5.length co79) x14_5) := ⟨by rw [← hq_]; exact (Zr HO_14.out)⟩; have n2_ : Aside0 (Kd.R (Kd.int .i64) 3 w115 w.heap.size (fun k_ => some k_ ≠ (v812 : Value).ownBlock ∧ some k_ ≠ (.slice (some ad825) x14_5.length co79 : Value).ownBlock ∧ some k_ ≠ (.slice (some ad840) y836.length co112 : Value).ownBlock) (.slice (some ad839) y831.length co111) y831) := ⟨by rw [← hq_]; exact (Zr HO_19.out)⟩; have n3_ : Aside0 (Kd.R (Kd.int .i64) 3 w115 w.heap.size (fun k_ => some k_ ≠ (v812 : Value).ownBlock ∧ some k_ ≠ (.slice (some ad825) x14_5.length co79 : Value).ownBlock ∧ some k_ ≠ (.slice (some ad839) y831.length co111 : Value).ownBlock) (.slice (some ad840) y836.length co112) y836) := ⟨by rw [← hq_]; exact (Zr HO_20.out)⟩; have n4_ : Aside0 (Below w.heap.size w w115) := ⟨by rw [← hq_]; exact (Zb)⟩; clear HO_13 HO_14 HO_19 HO_20 HB hq_; have HO_13 := n0_; have HO_14 := n1_; have HO_19 := n2_; have HO_20 := n3_; have HB := n4_; clear n0_ n1_ n2_ n3_ n4_))
                                   replace HO_13 := Aside0.mk (Kd.R_drew HO_13.out)
                                   replace HO_14 := Aside0.mk (Kd.R_drew HO_14.out)
                                   replace HO_19 := Aside0.mk (Kd.R_drew HO_19.out)
                                   replace HO_20 := Aside0.mk (Kd.R_drew HO_20.out)
                                   replace HB := Aside0.mk (Qac HB.out)
                                   obtain ⟨Ao117, co117, eo117⟩ := Kd.R_slice HO_13.out
                                   (first | subst eo117 | (injection eo117 with f1_ f2_ f3_; have f4_ := f1_.symm; have f5_ := f3_.symm; clear f1_ f2_ f3_; subst f4_; subst f5_))
                                   have p849 : 0 ≤ ((rd y831 x21_5) : Int) := Ze
                                   have q849 : (rd y831 x21_5) < (x13_5.length : Int) := Ze
                                   obtain ⟨ad849, e849, hx849_0⟩ := Kd.at_int (Kd.R_reads' HO_13.out).2.2 (rd y831 x21_5) p849 q849
                                   cases e849
                                   replace p849 := eq_true p849
                                   replace q849 := eq_true q849
                                   have p850 : 0 ≤ ((rd y831 x21_5) : Int) := Ze
                                   have q850 : (rd y831 x21_5) < (l2.length : Int) := Ze
                                   obtain ⟨ad850, e850, hx850_0⟩ := Kd.at_int HR2.out (rd y831 x21_5) p850 q850
                                   have hw850_0 := hx850_0
                                   obtain rfl : ad841 = ad850 := (by injection e850)
                                   replace hx850_0 := Zx HB.out hx850_0
                                   replace p850 := eq_true p850
                                   replace q850 := eq_true q850
                                   have p99 : 0 ≤ ((rd y831 x21_5) : Int) := Ze
                                   have q99 : ((rd y831 x21_5) : Int) < ((x13_5.length : Int) : Int) := Ze
                                   obtain ⟨go99, co99, eo99, gb99, gl99, cl99, HG99⟩ := Kd.R_form HO_13.out (by omega)
                                   (first | cases eo99 | (injection eo99 with ea_ en_ ec_; (first | subst ea_ | (injection ea_ with ea_; subst ea_)); subst ec_; clear en_))
                                   have GB99 := Aside0.mk gb99
                                   have GG99 := Aside0.mk HG99
                                   clear gb99 gl99 HG99
                                   (first | simp only [Qbb] at hx849_0 | skip)
                                   (try simp only [Qbb] at *)
                                   obtain ⟨hx99_0, hf99_0⟩ := Kd.R_celln 0 HO_13.out ((rd y831 x21_5) : Int) p99 q99
                                   replace p99 := eq_true p99
                                   replace q99 := eq_true q99
                                   have HP118 := Kd.R_putn HO_13.out ((rd y831 x21_5) : Int) ji98
                                   rw [← Ny851.out] at HP118
                                   have HQ118 := Aside0.mk HP118
                                   clear HP118
                                   refine start_ (n := 15) (S := fun w' => w'.cell? ⟨go99, ((rd y831 x21_5)).toNat, none⟩ = some (.int .i64 (rd x13_5 (rd y831 x21_5))) ∧ w'.cell? (ad841.add ((rd y831 x21_5)).toNat) = some (.int .i64 (rd l2 (rd y831 x21_5)))) (ds := [14]) #[F, F, F, F, F, F, F, F, F, F, F, F, F, F, F] (by kernel_rfl) rfl rfl ⟨hx849_0, ((HB.out.cell (World.block_lt_of_cell? w _ hw850_0)).trans hw850_0)⟩ (fun hHeld => ?_); refine QaC Qaa.tab29 Qaa.bits29 (fun HT_ HW_ => ?_)
                                   generalize w115.drew = w116 at HO_13 HO_14 HO_19 HO_20 HB GG99 HQ118 hf99_0 hx849_0 hx850_0 hx99_0 hHeld ⊢
                                   refine Zsp (i := 0) (N := some 218) (pm 15 1) HT_ ?_
                                   refine Zsp (i := 1) (N := some 219) (pm 15 2) HT_ ?_
                                   refine Zsp (i := 2) (N := some 220) (pm 15 3) HT_ ?_
                                   refine Zsp (i := 3) (N := some 221) (pm 15 4) HT_ ?_
                                   refine Zsp (i := 4) (N := some 222) (pm 15 5) HT_ ?_
                                   refine Zsp (i := 6) (N := some 224) #[T, T, T, T, T, F, T, F, F, F, F, F, F, F, F] HT_ ?_
                                   refine Zsp (i := 8) (N := some 226) #[T, T, T, T, T, F, T, F, T, F, F, F, F, F, F] HT_ ?_
                                   refine Zsp (i := 9) (N := some 227) #[T, T, T, T, T, F, T, F, T, T, F, F, F, F, F] HT_ ?_
                                   refine Zsp (i := 10) (N := some 228) #[T, T, T, T, T, F, T, F, T, T, T, F, F, F, F] HT_ ?_
                                   refine Zst (i := 5) (N := some 223) #[T, T, T, T, T, T, T, F, T, T, T, F, F, F, F] HT_ HW_ hHeld ?_ (hy := by (refine Or.inl ⟨by rfl, ?_⟩; rintro w' ⟨s0, s1⟩; go_simp; with_reducible rfl))
                                   refine Zsp (i := 7) (N := some 225) (pm 15 11) HT_ ?_
                                   refine Zst (i := 11) (N := some 229) (pm 15 12) HT_ HW_ hHeld ?_ (hy := by (refine Or.inl ⟨by rfl, ?_⟩; rintro w' ⟨s0, s1⟩; go_simp; with_reducible rfl))
                                   refine Zsp (i := 12) (N := some 230) (pm 15 13) HT_ ?_
                                   refine Zsp (i := 13) (N := some 231) (pm 15 14) HT_ ?_
                                   refine last_ (i := 14) (N := none) #[T, T, T, T, T, T, T, T, T, T, T, T, T, T, T] rfl rfl (one_of HT_.out (by kernel_rfl)) (by decide) (fun K hK => ?_)
                                   refine skip_ (w1 := ?_) (by rfl) rfl ?_ ?_
                                   rotate_left
                                   ·go_simp
                                    rfl
                                   refine hK.out _ _ ?_
                                   clear hK K
                                   refine done_ (QaH HT_.out (by kernel_rfl)) ?_
                                   have n0_ : Aside0 (Kd.R (Kd.int .i64) 3 (w116.setCell ⟨go99, ((rd y831 x21_5) : Int).toNat, none⟩ (.int .i64 ji98)) w.heap.size (fun k_ => some k_ ≠ (.slice (some ad825) x14_5.length co79 : Value).ownBlock ∧ some k_ ≠ (.slice (some ad839) y831.length co111 : Value).ownBlock ∧ some k_ ≠ (.slice (some ad840) y836.length co112 : Value).ownBlock) (.slice (some ⟨go99, 0, none⟩) x13_5.length co117) y851) := ⟨by (with_reducible repeat (first | apply Kd.R_alloc | apply Kd.R_drewN | apply Kd.R_drew)); exact HQ118.out⟩
                                   have n1_ : Aside0 (Kd.R (Kd.int .i64) 3 (w116.setCell ⟨go99, ((rd y831 x21_5) : Int).toNat, none⟩ (.int .i64 ji98)) w.heap.size (fun k_ => some k_ ≠ (.slice (some ⟨go99, 0, none⟩) x13_5.length co117 : Value).ownBlock ∧ some k_ ≠ (.slice (some ad839) y831.length co111 : Value).ownBlock ∧ some k_ ≠ (.slice (some ad840) y836.length co112 : Value).ownBlock) (.slice (some ad825) x14_5.length co79) x14_5) := ⟨by (with_reducible repeat (first | apply Kd.R_alloc | apply Kd.R_drewN | apply Kd.R_drew)); exact Kd.R_mono (Kd.R_far (p := ⟨go99, ((rd y831 x21_5) : Int).toNat, none⟩) (Kd.R_mono HO_14.out (fun k_ hk => (⟨hk, fun e_ => hk.1 (by rw [e_]; rfl)⟩ : _ ∧ k_ ≠ go99))) (fun _ hk => hk.2) (.int .i64 ji98)) (fun _ hk => ⟨hk.1.1, ⟨hk.1.2.1, hk.1.2.2⟩⟩)⟩
                                   have n2_ : Aside0 (Kd.R (Kd.int .i64) 3 (w116.setCell ⟨go99, ((rd y831 x21_5) : Int).toNat, none⟩ (.int .i64 ji98)) w.heap.size (fun k_ => some k_ ≠ (.slice (some ⟨go99, 0, none⟩) x13_5.length co117 : Value).ownBlock ∧ some k_ ≠ (.slice (some ad825) x14_5.length co79 : Value).ownBlock ∧ some k_ ≠ (.slice (some ad840) y836.length co112 : Value).ownBlock) (.slice (some ad839) y831.length co111) y831) := ⟨by (with_reducible repeat (first | apply Kd.R_alloc | apply Kd.R_drewN | apply Kd.R_drew)); exact Kd.R_mono (Kd.R_far (p := ⟨go99, ((rd y831 x21_5) : Int).toNat, none⟩) (Kd.R_mono HO_19.out (fun k_ hk => (⟨hk, fun e_ => hk.1 (by rw [e_]; rfl)⟩ : _ ∧ k_ ≠ go99))) (fun _ hk => hk.2) (.int .i64 ji98)) (fun _ hk => ⟨hk.1.1, ⟨hk.1.2.1, hk.1.2.2⟩⟩)⟩
                                   have n3_ : Aside0 (Kd.R (Kd.int .i64) 3 (w116.setCell ⟨go99, ((rd y831 x21_5) : Int).toNat, none⟩ (.int .i64 ji98)) w.heap.size (fun k_ => some k_ ≠ (.slice (some ⟨go99, 0, none⟩) x13_5.length co117 : Value).ownBlock ∧ some k_ ≠ (.slice (some ad825) x14_5.length co79 : Value).ownBlock ∧ some k_ ≠ (.slice (some ad839) y831.length co111 : Value).ownBlock) (.slice (some ad840) y836.length co112) y836) := ⟨by (with_reducible repeat (first | apply Kd.R_alloc | apply Kd.R_drewN | apply Kd.R_drew)); exact Kd.R_mono (Kd.R_far (p := ⟨go99, ((rd y831 x21_5) : Int).toNat, none⟩) (Kd.R_mono HO_20.out (fun k_ hk => (⟨hk, fun e_ => hk.1 (by rw [e_]; rfl)⟩ : _ ∧ k_ ≠ go99))) (fun _ hk => hk.2) (.int .i64 ji98)) (fun _ hk => ⟨hk.1.1, ⟨hk.1.2.1, hk.1.2.2⟩⟩)⟩
                                   have n4_ : Aside0 (Below w.heap.size w (w116.setCell ⟨go99, ((rd y831 x21_5) : Int).toNat, none⟩ (.int .i64 ji98))) := ⟨by repeat (first | (with_reducible first | exact HB.out | apply Qae | apply Qab | apply Qac | refine Qaw ?_ GB99.out) | exact HB.out)⟩
                                   (try clear HO_13)
                                   (try clear HO_14)
                                   (try clear HO_19)
                                   (try clear HO_20)
                                   (try clear HB)
                                   generalize (w116.setCell ⟨go99, ((rd y831 x21_5) : Int).toNat, none⟩ (.int .i64 ji98)) = w119 at n0_ n1_ n2_ n3_ n4_ ⊢
                                   have HO_13 := n0_
                                   have HO_14 := n1_
                                   have HO_19 := n2_
                                   have HO_20 := n3_
                                   have HB := n4_
                                   clear n0_ n1_ n2_ n3_ n4_
                                   have p852 : 0 ≤ ((rd y831 x21_5) : Int) := Ze
                                   have q852 : (rd y831 x21_5) < (x14_5.length : Int) := Ze
                                   obtain ⟨ad852, e852, hx852_0⟩ := Kd.at_int (Kd.R_reads' HO_14.out).2.2 (rd y831 x21_5) p852 q852
                                   obtain rfl : ad825 = ad852 := (by injection e852)
                                   replace p852 := eq_true p852
                                   replace q852 := eq_true q852
                                   have p853 : 0 ≤ ((rd y831 x21_5) : Int) := Ze
                                   have q853 : (rd y831 x21_5) < (x14_5.length : Int) := Ze
                                   obtain ⟨ad853, e853, hx853_0⟩ := Kd.at_int (Kd.R_reads' HO_14.out).2.2 (rd y831 x21_5) p853 q853
                                   obtain rfl : ad825 = ad853 := (by injection e853)
                                   replace p853 := eq_true p853
                                   replace q853 := eq_true q853
                                   have p110 : 0 ≤ ((rd y831 x21_5) : Int) := Ze
                                   have q110 : ((rd y831 x21_5) : Int) < ((x14_5.length : Int) : Int) := Ze
                                   obtain ⟨go110, co110, eo110, gb110, gl110, cl110, HG110⟩ := Kd.R_form HO_14.out (by omega)
                                   (first | cases eo110 | (injection eo110 with ea_ en_ ec_; (first | subst ea_ | (injection ea_ with ea_; subst ea_)); subst ec_; clear en_))
                                   have GB110 := Aside0.mk gb110
                                   have GG110 := Aside0.mk HG110
                                   clear gb110 gl110 HG110
                                   (first | simp only [Qbb] at hx825_0 | skip)
                                   (first | simp only [Qbb] at hx828_0 | skip)
                                   (first | simp only [Qbb] at hx852_0 | skip)
                                   (first | simp only [Qbb] at hx853_0 | skip)
                                   (try simp only [Qbb] at *)
                                   obtain ⟨hx110_0, hf110_0⟩ := Kd.R_celln 0 HO_14.out ((rd y831 x21_5) : Int) p110 q110
                                   replace p110 := eq_true p110
                                   replace q110 := eq_true q110
                                   obtain ⟨hy120_, hz120_⟩ := Kd.R_celln 0 HO_14.out ((rd y831 x21_5) : Int) (Ze) (Ze)
                                   have HP120 := Kd.R_putg HO_14.out ((rd y831 x21_5) : Int) (wrap64 ((rd x14_5 (rd y831 x21_5)) - (wrap64 ((wrap64 (ji77 * 1000)) * (rd y836 x21_5)))))
                                   try go_wp2_with (first | ((with_reducible refine QbZ (t := 3) (p := 243) rfl ?_); refine QbS (t := 3) (p := 243) (v := ?vo_w121) (w1 := (w119.setCell ⟨go110, ((rd y831 x21_5) : Int).toNat, none⟩ (.int .i64 (wrap64 ((rd x14_5 (rd y831 x21_5)) - (wrap64 ((wrap64 (ji77 * 1000)) * (rd y836 x21_5)))))))) ?hg ?ho ?hn ?hr ?_; (case ho => rfl); (case hg => rfl); (case hn => rfl); (case hr => first | (go_simp; done) | (go_simp; rfl)); intro w121 hw; have hg : w119.grownBy w121 (some go110) := (by rw [hw]; exact HP120.2); have hp_ : Kd.R (Kd.int .i64) 3 w121 w.heap.size (fun k_ => some k_ ≠ (.slice (some ⟨go99, 0, none⟩) x13_5.length co117 : Value).ownBlock ∧ some k_ ≠ (.slice (some ad839) y831.length co111 : Value).ownBlock ∧ some k_ ≠ (.slice (some ad840) y836.length co112 : Value).ownBlock) (.slice (some ⟨go110, 0, none⟩) x14_5.length co79) y854 := (by rw [hw, Ny854.out]; exact HP120.1); clear HP120; replace HO_13 := Aside0.mk (Kd.R_after (v := (.slice (some ⟨go110, 0, none⟩) x14_5.length co79)) (v1 := (.slice (some ⟨go110, 0, none⟩) x14_5.length co79)) (ok := (fun k_ => some k_ ≠ (.slice (some ad839) y831.length co111 : Value).ownBlock ∧ some k_ ≠ (.slice (some ad840) y836.length co112 : Value).ownBlock)) (by (with_reducible repeat (first | apply Kd.R_alloc | apply Kd.R_drewN | apply Kd.R_drew)); exact Kd.R_mono HO_13.out (fun _ hk => ⟨⟨hk.2.1, hk.2.2⟩, hk.1⟩)) hg (.inl rfl)); replace HO_14 := Aside0.mk (hp_); replace HO_19 := Aside0.mk (Kd.R_after (v := (.slice (some ⟨go110, 0, none⟩) x14_5.length co79)) (v1 := (.slice (some ⟨go110, 0, none⟩) x14_5.length co79)) (ok := (fun k_ => some k_ ≠ (.slice (some ⟨go99, 0, none⟩) x13_5.length co117 : Value).ownBlock ∧ some k_ ≠ (.slice (some ad840) y836.length co112 : Value).ownBlock)) (by (with_reducible repeat (first | apply Kd.R_alloc | apply Kd.R_drewN | apply Kd.R_drew)); exact Kd.R_mono HO_19.out (fun _ hk => ⟨⟨hk.1, hk.2.2⟩, hk.2.1⟩)) hg (.inl rfl)); replace HO_20 := Aside0.mk (Kd.R_after (v := (.slice (some ⟨go110, 0, none⟩) x14_5.length co79)) (v1 := (.slice (some ⟨go110, 0, none⟩) x14_5.length co79)) (ok := (fun k_ => some k_ ≠ (.slice (some ⟨go99, 0, none⟩) x13_5.length co117 : Value).ownBlock ∧ some k_ ≠ (.slice (some ad839) y831.length co111 : Value).ownBlock)) (by (with_reducible repeat (first | apply Kd.R_alloc | apply Kd.R_drewN | apply Kd.R_drew)); exact Kd.R_mono HO_20.out (fun _ hk => ⟨⟨hk.1, hk.2.2⟩, hk.2.1⟩)) hg (.inl rfl)); replace HB := Aside0.mk ((by rw [hw]; exact Qaw (HB.out) GB110.out : Below w.heap.size w w121)); clear hg hw hp_))
                                   (try simp only [← hl14_5])
                                   go_roundg k5
                                   case measure => have := HJ7.out; have := HK2.out; have := HK3.out; have := HJ47.out; have := HK5.out; omega
                                   case rel => exact ⟨(y851), (y854), (wrap64 (x21_5 + 1)), (Zs), H', ⟨by have := HJ7.out; have := HK2.out; have := HK3.out; have := HJ47.out; have := HK5.out; omega⟩, ⟨by (try simp only [hl14_5]); (with_reducible repeat (first | apply Kd.R_alloc | apply Kd.R_drewN | apply Kd.R_drew)); exact Kd.R_mono HO_13.out (fun _ hk => ⟨hk.2, ⟨hk.1.1, hk.1.2⟩⟩)⟩, ⟨by (try simp only [hl14_5]); (with_reducible repeat (first | apply Kd.R_alloc | apply Kd.R_drewN | apply Kd.R_drew)); exact HO_14.out⟩, ⟨by (try simp only [hl14_5]); (with_reducible repeat (first | apply Kd.R_alloc | apply Kd.R_drewN | apply Kd.R_drew)); exact Kd.R_mono HO_19.out (fun _ hk => ⟨hk.1.1, ⟨hk.2, hk.1.2⟩⟩)⟩, ⟨by (try simp only [hl14_5]); (with_reducible repeat (first | apply Kd.R_alloc | apply Kd.R_drewN | apply Kd.R_drew)); exact Kd.R_mono HO_20.out (fun _ hk => ⟨hk.1.1, ⟨hk.2, hk.1.2⟩⟩)⟩, ⟨Zb⟩⟩
                                  rw [if_neg c109] at H
                                  have c109b0 : decide (0 < (rd x14_5 (rd y831 x21_5))) = F := decide_eq_false c109
                                  clear c109
                                  obtain ⟨y856, hy856⟩ : ∃ y_ : List Int, y_ = (x14_5.set ((rd y831 x21_5) : Int).toNat (wrap64 ((rd x14_5 (rd y831 x21_5)) + (wrap64 ((wrap64 (ji77 * 1000)) * (rd y836 x21_5)))))) := ⟨_, rfl⟩
                                  replace H : (Qaa.l2 k5 l0 l1 l2 l3 y851 y856 x15_3 ji77 y831 y836 (wrap64 (x21_5 + 1))) = some (r1, r2, r3) := by first | (rw [hy856]; with_reducible exact H) | (have H2_ := (Option.bind_some _ _).symm.trans H; rw [hy856]; with_reducible exact H2_) | (have H2_ := (Option.bind_some _ _).symm.trans H; with_reducible exact H2_) | with_reducible exact H | (rw [hy856]; exact H) | exact H
                                  have Ny856 := Aside0.mk hy856
                                  clear hy856
                                  have H' := Aside0.mk H
                                  clear H
                                  obtain ⟨Ao123, co123, eo123⟩ := Kd.R_slice HO_19.out
                                  subst eo123
                                  have p839 : 0 ≤ (x21_5 : Int) := Ze
                                  have q839 : x21_5 < (y831.length : Int) := Ze
                                  obtain ⟨ad839, e839, hx839_0⟩ := Kd.at_int (Kd.R_reads' HO_19.out).2.2 x21_5 p839 q839
                                  cases e839
                                  replace p839 := eq_true p839
                                  replace q839 := eq_true q839
                                  obtain ⟨Ao124, co124, eo124⟩ := Kd.R_slice HO_20.out
                                  subst eo124
                                  have p840 : 0 ≤ (x21_5 : Int) := Ze
                                  have q840 : x21_5 < (y836.length : Int) := Ze
                                  obtain ⟨ad840, e840, hx840_0⟩ := Kd.at_int (Kd.R_reads' HO_20.out).2.2 x21_5 p840 q840
                                  cases e840
                                  replace p840 := eq_true p840
                                  replace q840 := eq_true q840
                                  try go_wp2
                                  (try (rw [QaW wr]; generalize hq_ : World.drewN wr _ = wr; have n0_ : Aside0 (Kd.R (Kd.int .i64) 3 wr w.heap.size (fun k_ => some k_ ≠ (.slice (some ad825) x14_5.length co79 : Value).ownBlock ∧ some k_ ≠ (.slice (some ad839) y831.length co123 : Value).ownBlock ∧ some k_ ≠ (.slice (some ad840) y836.length co124 : Value).ownBlock) v812 x13_5) := ⟨by rw [← hq_]; exact (Zr HO_13.out)⟩; have n1_ : Aside0 (Kd.R (Kd.int .i64) 3 wr w.heap.size (fun k_ => some k_ ≠ (v812 : Value).ownBlock ∧ some k_ ≠ (.slice (some ad839) y831.length co123 : Value).ownBlock ∧ some k_ ≠ (.slice (some ad840) y836.length co124 : Value).ownBlock) (.slice (some ad825) x14_5.length co79) x14_5) := ⟨by rw [← hq_]; exact (Zr HO_14.out)⟩; have n2_ : Aside0 (Kd.R (Kd.int .i64) 3 wr w.heap.size (fun k_ => some k_ ≠ (v812 : Value).ownBlock ∧ some k_ ≠ (.slice (some ad825) x14_5.length co79 : Value).ownBlock ∧ some k_ ≠ (.slice (some ad840) y836.length co124 : Value).ownBlock) (.slice (some ad839) y831.length co123) y831) := ⟨by rw [← hq_]; exact (Zr HO_19.out)⟩; have n3_ : Aside0 (Kd.R (Kd.int .i64) 3 wr w.heap.size (fun k_ => some k_ ≠ (v812 : Value).ownBlock ∧ some k_ ≠ (.slice (some ad825) x14_5.length co79 : Value).ownBlock ∧ some k_ ≠ (.slice (some ad839) y831.length co123 : Value).ownBlock) (.slice (some ad840) y836.length co124) y836) := ⟨by rw [← hq_]; exact (Zr HO_20.out)⟩; have n4_ : Aside0 (Below w.heap.size w wr) := ⟨by rw [← hq_]; exact (Zb)⟩; clear HO_13 HO_14 HO_19 HO_20 HB hq_; have HO_13 := n0_; have HO_14 := n1_; have HO_19 := n2_; have HO_20 := n3_; have HB := n4_; clear n0_ n1_ n2_ n3_ n4_))
                                  replace HO_13 := Aside0.mk (Kd.R_drew HO_13.out)
                                  replace HO_14 := Aside0.mk (Kd.R_drew HO_14.out)
                                  replace HO_19 := Aside0.mk (Kd.R_drew HO_19.out)
                                  replace HO_20 := Aside0.mk (Kd.R_drew HO_20.out)
                                  replace HB := Aside0.mk (Qac HB.out)
                                  have p841 : 0 ≤ ((rd y831 x21_5) : Int) := Ze
                                  have q841 : (rd y831 x21_5) < (l2.length : Int) := Ze
                                  obtain ⟨ad841, e841, hx841_0⟩ := Kd.at_int HR2.out (rd y831 x21_5) p841 q841
                                  have hw841_0 := hx841_0
                                  cases e841
                                  replace hx841_0 := Zx HB.out hx841_0
                                  replace p841 := eq_true p841
                                  replace q841 := eq_true q841
                                  have p842 : 0 ≤ ((rd y831 x21_5) : Int) := Ze
                                  have q842 : (rd y831 x21_5) < (l1.length : Int) := Ze
                                  obtain ⟨ad842, e842, hx842_0⟩ := Kd.at_int HR1.out (rd y831 x21_5) p842 q842
                                  have hw842_0 := hx842_0
                                  cases e842
                                  replace hx842_0 := Zx HB.out hx842_0
                                  replace p842 := eq_true p842
                                  replace q842 := eq_true q842
                                  refine start_ (n := 16) (S := fun w' => w'.cell? (ad841.add ((rd y831 x21_5)).toNat) = some (.int .i64 (rd l2 (rd y831 x21_5))) ∧ w'.cell? (ad842.add ((rd y831 x21_5)).toNat) = some (.int .i64 (rd l1 (rd y831 x21_5)))) (ds := []) #[F, F, F, F, F, F, F, F, F, F, F, F, F, F, F, F] (by kernel_rfl) rfl rfl ⟨((HB.out.cell (World.block_lt_of_cell? w _ hw841_0)).trans hw841_0), ((HB.out.cell (World.block_lt_of_cell? w _ hw842_0)).trans hw842_0)⟩ (fun hHeld => ?_); refine QaC Qaa.tab27 Qaa.bits27 (fun HT_ HW_ => ?_)
                                  generalize wr.drew = w125 at HO_13 HO_14 HO_19 HO_20 HB hx841_0 hx842_0 hHeld ⊢
                                  refine Zsp (i := 0) (N := some 195) (pm 16 1) HT_ ?_
                                  refine Zsp (i := 1) (N := some 196) (pm 16 2) HT_ ?_
                                  refine Zsp (i := 2) (N := some 197) (pm 16 3) HT_ ?_
                                  refine Zsp (i := 4) (N := some 199) #[T, T, T, F, T, F, F, F, F, F, F, F, F, F, F, F] HT_ ?_
                                  refine Zsp (i := 5) (N := some 200) #[T, T, T, F, T, T, F, F, F, F, F, F, F, F, F, F] HT_ ?_
                                  refine Zsp (i := 6) (N := some 201) #[T, T, T, F, T, T, T, F, F, F, F, F, F, F, F, F] HT_ ?_
                                  refine Zsp (i := 7) (N := some 202) #[T, T, T, F, T, T, T, T, F, F, F, F, F, F, F, F] HT_ ?_
                                  refine Zst (i := 3) (N := some 198) (pm 16 8) HT_ HW_ hHeld ?_ (hy := by (refine Or.inl ⟨by rfl, ?_⟩; rintro w' ⟨s0, s1⟩; go_simp; with_reducible rfl))
                                  refine Zst (i := 8) (N := some 203) (pm 16 9) HT_ HW_ hHeld ?_ (hy := by (refine Or.inl ⟨by rfl, ?_⟩; rintro w' ⟨s0, s1⟩; go_simp; with_reducible rfl))
                                  refine one_ (i := 9) (N := some 204) #[T, T, T, T, T, T, T, T, T, T, F, F, F, F, F, F] rfl rfl (one_of HT_.out (by kernel_rfl)) (by decide) (fun K hK => ?_)
                                  refine goes_ Try.func80 (by kernel_rfl) rfl #[.int .i64 (rd l1 (rd y831 x21_5))] (by rfl) rfl rfl (Zl) ?_
                                  with_reducible refine (QaG.calls (rd l1 (rd y831 x21_5)) t843 _ A92.out).mono ?_
                                  rintro e w' ⟨rfl, ⟨nd, rfl⟩⟩
                                  refine ⟨_, rfl, ?_⟩
                                  refine hK.out _ _ ⟨((HB.out.cell (World.block_lt_of_cell? w _ hw841_0)).trans hw841_0), ((HB.out.cell (World.block_lt_of_cell? w _ hw842_0)).trans hw842_0)⟩ (fun hHeld => ?_)
                                  clear hK K
                                  refine norm_ (a' := ?_) ?_ ?_
                                  rotate_left
                                  ·show Act.put _ (some 204) _ = _
                                   simp only [Act.put, Zj, Zk, Zm, i64_w, i32_w]
                                   rfl
                                  refine one_ (i := 10) (N := some 205) #[T, T, T, T, T, T, T, T, T, T, T, F, F, F, F, F] rfl rfl (one_of HT_.out (by kernel_rfl)) (by decide) (fun K hK => ?_)
                                  refine goes_ Try.func81 (by kernel_rfl) rfl #[.int .i64 (rd l2 (rd y831 x21_5)), .int .i64 (wrap64 ((wrap64 (ji77 * 1000)) * (rd y836 x21_5))), .int .i64 t843, .int .i64 1] (by rfl) rfl rfl (by (try simp only [List.map_toArray, List.map_cons, List.map_nil]); first | done | (simp only [hji77]; rfl) | rfl | (simp only [List.length_drop, List.length_take]; rfl)) ?_
                                  with_reducible refine (Qaz.calls (rd l2 (rd y831 x21_5)) (wrap64 ((wrap64 (ji77 * 1000)) * (rd y836 x21_5))) t843 1 t844 t845 _ A93.out).mono ?_
                                  rintro e w126 ⟨rfl, hb⟩
                                  refine ⟨_, rfl, ?_⟩
                                  replace HO_13 := Aside0.mk (Kd.R_below (Zr HO_13.out) hb)
                                  replace HO_14 := Aside0.mk (Kd.R_below (Zr HO_14.out) hb)
                                  replace HO_19 := Aside0.mk (Kd.R_below (Zr HO_19.out) hb)
                                  replace HO_20 := Aside0.mk (Kd.R_below (Zr HO_20.out) hb)
                                  replace HB := Aside0.mk (Qao (Zb) hb)
                                  (try clear hb)
                                  (try clear hb2)
                                  (try clear hk)
                                  (try clear hi)
                                  refine hK.out _ _ ⟨((HB.out.cell (World.block_lt_of_cell? w _ hw841_0)).trans hw841_0), ((HB.out.cell (World.block_lt_of_cell? w _ hw842_0)).trans hw842_0)⟩ (fun hHeld => ?_)
                                  clear hK K
                                  refine norm_ (a' := ?_) ?_ ?_
                                  rotate_left
                                  ·show Act.put _ (some 205) _ = _
                                   simp only [Act.put, Zj, Zk, Zm, i64_w, i32_w]
                                   rfl
                                  refine Zsp (i := 11) (N := some 194) (pm 16 12) HT_ ?_
                                  refine Zsp (i := 12) (N := some 206) (pm 16 13) HT_ ?_
                                  refine Zsp (i := 13) (N := some 207) (pm 16 14) HT_ ?_
                                  refine Zsp (i := 14) (N := some 24) (pm 16 15) HT_ ?_
                                  refine Zsp (i := 15) (N := some 25) (pm 16 16) HT_ ?_
                                  refine done_ (QaH HT_.out (by kernel_rfl)) ?_
                                  have p846 : 0 ≤ (x15_3 : Int) := Ze
                                  have q846 : x15_3 < (l3.length : Int) := Ze
                                  obtain ⟨ad846, e846, hx846_0, hx846_1, hx846_2, hx846_3, hx846_4⟩ := at_T75 HR3.out x15_3 p846 q846
                                  obtain rfl : ad817 = ad846 := (by injection e846)
                                  replace hx846_0 := Zx HB.out hx846_0
                                  replace hx846_1 := Zx HB.out hx846_1
                                  replace hx846_2 := Zx HB.out hx846_2
                                  replace hx846_3 := Zx HB.out hx846_3
                                  replace hx846_4 := Zx HB.out hx846_4
                                  replace p846 := eq_true p846
                                  replace q846 := eq_true q846
                                  try go_wp2_with (first | ((with_reducible refine QaD (f := 81) rfl ?_); refine goesL_ (some 215) rfl rfl Try.func81 (by kernel_rfl) rfl #[.int .i64 t844, .int .i64 ((rd_T75 l3 x15_3).f4), .int .i64 1000, .int .i64 1] rfl (Zl) ?_; (with_reducible refine (Qaz.calls t844 ((rd_T75 l3 x15_3).f4) 1000 1 t847 t848 _ A96.out).mono ?_); rintro e w127 ⟨rfl, hb⟩; refine ⟨_, rfl, ?_⟩; replace HO_13 := Aside0.mk (Kd.R_below (Zr HO_13.out) hb); replace HO_14 := Aside0.mk (Kd.R_below (Zr HO_14.out) hb); replace HO_19 := Aside0.mk (Kd.R_below (Zr HO_19.out) hb); replace HO_20 := Aside0.mk (Kd.R_below (Zr HO_20.out) hb); replace HB := Aside0.mk (Qao (Zb) hb); (try clear hb); (try clear hb2); (try clear hk); (try clear hi)))
                                  (try (rw [QaW w127]; generalize hq_ : World.drewN w127 _ = w127; have n0_ : Aside0 (Kd.R (Kd.int .i64) 3 w127 w.heap.size (fun k_ => some k_ ≠ (.slice (some ad825) x14_5.length co79 : Value).ownBlock ∧ some k_ ≠ (.slice (some ad839) y831.length co123 : Value).ownBlock ∧ some k_ ≠ (.slice (some ad840) y836.length co124 : Value).ownBlock) v812 x13_5) := ⟨by rw [← hq_]; exact (Zr HO_13.out)⟩; have n1_ : Aside0 (Kd.R (Kd.int .i64) 3 w127 w.heap.size (fun k_ => some k_ ≠ (v812 : Value).ownBlock ∧ some k_ ≠ (.slice (some ad839) y831.length co123 : Value).ownBlock ∧ some k_ ≠ (.slice (some ad840) y836.length co124 : Value).ownBlock) (.slice (some ad825) x14_5.length co79) x14_5) := ⟨by rw [← hq_]; exact (Zr HO_14.out)⟩; have n2_ : Aside0 (Kd.R (Kd.int .i64) 3 w127 w.heap.size (fun k_ => some k_ ≠ (v812 : Value).ownBlock ∧ some k_ ≠ (.slice (some ad825) x14_5.length co79 : Value).ownBlock ∧ some k_ ≠ (.slice (some ad840) y836.length co124 : Value).ownBlock) (.slice (some ad839) y831.length co123) y831) := ⟨by rw [← hq_]; exact (Zr HO_19.out)⟩; have n3_ : Aside0 (Kd.R (Kd.int .i64) 3 w127 w.heap.size (fun k_ => some k_ ≠ (v812 : Value).ownBlock ∧ some k_ ≠ (.slice (some ad825) x14_5.length co79 : Value).ownBlock ∧ some k_ ≠ (.slice (some ad839) y831.length co123 : Value).ownBlock) (.slice (some ad840) y836.length co124) y836) := ⟨by rw [← hq_]; exact (Zr HO_20.out)⟩; have n4_ : Aside0 (Below w.heap.size w w127) := ⟨by rw [← hq_]; exact (Zb)⟩; clear HO_13 HO_14 HO_19 HO_20 HB hq_; have HO_13 := n0_; have HO_14 := n1_; have HO_19 := n2_; have HO_20 := n3_; have HB := n4_; clear n0_ n1_ n2_ n3_ n4_))
                                  replace HO_13 := Aside0.mk (Kd.R_drew HO_13.out)
                                  replace HO_14 := Aside0.mk (Kd.R_drew HO_14.out)
                                  replace HO_19 := Aside0.mk (Kd.R_drew HO_19.out)
                                  replace HO_20 := Aside0.mk (Kd.R_drew HO_20.out)
                                  replace HB := Aside0.mk (Qac HB.out)
                                  obtain ⟨Ao129, co129, eo129⟩ := Kd.R_slice HO_13.out
                                  (first | subst eo129 | (injection eo129 with f1_ f2_ f3_; have f4_ := f1_.symm; have f5_ := f3_.symm; clear f1_ f2_ f3_; subst f4_; subst f5_))
                                  have p849 : 0 ≤ ((rd y831 x21_5) : Int) := Ze
                                  have q849 : (rd y831 x21_5) < (x13_5.length : Int) := Ze
                                  obtain ⟨ad849, e849, hx849_0⟩ := Kd.at_int (Kd.R_reads' HO_13.out).2.2 (rd y831 x21_5) p849 q849
                                  cases e849
                                  replace p849 := eq_true p849
                                  replace q849 := eq_true q849
                                  have p850 : 0 ≤ ((rd y831 x21_5) : Int) := Ze
                                  have q850 : (rd y831 x21_5) < (l2.length : Int) := Ze
                                  obtain ⟨ad850, e850, hx850_0⟩ := Kd.at_int HR2.out (rd y831 x21_5) p850 q850
                                  have hw850_0 := hx850_0
                                  obtain rfl : ad841 = ad850 := (by injection e850)
                                  replace hx850_0 := Zx HB.out hx850_0
                                  replace p850 := eq_true p850
                                  replace q850 := eq_true q850
                                  have p99 : 0 ≤ ((rd y831 x21_5) : Int) := Ze
                                  have q99 : ((rd y831 x21_5) : Int) < ((x13_5.length : Int) : Int) := Ze
                                  obtain ⟨go99, co99, eo99, gb99, gl99, cl99, HG99⟩ := Kd.R_form HO_13.out (by omega)
                                  (first | cases eo99 | (injection eo99 with ea_ en_ ec_; (first | subst ea_ | (injection ea_ with ea_; subst ea_)); subst ec_; clear en_))
                                  have GB99 := Aside0.mk gb99
                                  have GG99 := Aside0.mk HG99
                                  clear gb99 gl99 HG99
                                  (first | simp only [Qbb] at hx849_0 | skip)
                                  (try simp only [Qbb] at *)
                                  obtain ⟨hx99_0, hf99_0⟩ := Kd.R_celln 0 HO_13.out ((rd y831 x21_5) : Int) p99 q99
                                  replace p99 := eq_true p99
                                  replace q99 := eq_true q99
                                  have HP130 := Kd.R_putn HO_13.out ((rd y831 x21_5) : Int) ji98
                                  rw [← Ny851.out] at HP130
                                  have HQ130 := Aside0.mk HP130
                                  clear HP130
                                  refine start_ (n := 15) (S := fun w' => w'.cell? ⟨go99, ((rd y831 x21_5)).toNat, none⟩ = some (.int .i64 (rd x13_5 (rd y831 x21_5))) ∧ w'.cell? (ad841.add ((rd y831 x21_5)).toNat) = some (.int .i64 (rd l2 (rd y831 x21_5)))) (ds := [14]) #[F, F, F, F, F, F, F, F, F, F, F, F, F, F, F] (by kernel_rfl) rfl rfl ⟨hx849_0, ((HB.out.cell (World.block_lt_of_cell? w _ hw850_0)).trans hw850_0)⟩ (fun hHeld => ?_); refine QaC Qaa.tab29 Qaa.bits29 (fun HT_ HW_ => ?_)
                                  generalize w127.drew = w128 at HO_13 HO_14 HO_19 HO_20 HB GG99 HQ130 hf99_0 hx849_0 hx850_0 hx99_0 hHeld ⊢
                                  refine Zsp (i := 0) (N := some 218) (pm 15 1) HT_ ?_
                                  refine Zsp (i := 1) (N := some 219) (pm 15 2) HT_ ?_
                                  refine Zsp (i := 2) (N := some 220) (pm 15 3) HT_ ?_
                                  refine Zsp (i := 3) (N := some 221) (pm 15 4) HT_ ?_
                                  refine Zsp (i := 4) (N := some 222) (pm 15 5) HT_ ?_
                                  refine Zsp (i := 6) (N := some 224) #[T, T, T, T, T, F, T, F, F, F, F, F, F, F, F] HT_ ?_
                                  refine Zsp (i := 8) (N := some 226) #[T, T, T, T, T, F, T, F, T, F, F, F, F, F, F] HT_ ?_
                                  refine Zsp (i := 9) (N := some 227) #[T, T, T, T, T, F, T, F, T, T, F, F, F, F, F] HT_ ?_
                                  refine Zsp (i := 10) (N := some 228) #[T, T, T, T, T, F, T, F, T, T, T, F, F, F, F] HT_ ?_
                                  refine Zst (i := 5) (N := some 223) #[T, T, T, T, T, T, T, F, T, T, T, F, F, F, F] HT_ HW_ hHeld ?_ (hy := by (refine Or.inl ⟨by rfl, ?_⟩; rintro w' ⟨s0, s1⟩; go_simp; with_reducible rfl))
                                  refine Zsp (i := 7) (N := some 225) (pm 15 11) HT_ ?_
                                  refine Zst (i := 11) (N := some 229) (pm 15 12) HT_ HW_ hHeld ?_ (hy := by (refine Or.inl ⟨by rfl, ?_⟩; rintro w' ⟨s0, s1⟩; go_simp; with_reducible rfl))
                                  refine Zsp (i := 12) (N := some 230) (pm 15 13) HT_ ?_
                                  refine Zsp (i := 13) (N := some 231) (pm 15 14) HT_ ?_
                                  refine last_ (i := 14) (N := none) #[T, T, T, T, T, T, T, T, T, T, T, T, T, T, T] rfl rfl (one_of HT_.out (by kernel_rfl)) (by decide) (fun K hK => ?_)
                                  refine skip_ (w1 := ?_) (by rfl) rfl ?_ ?_
                                  rotate_left
                                  ·go_simp
                                   rfl
                                  refine hK.out _ _ ?_
                                  clear hK K
                                  refine done_ (QaH HT_.out (by kernel_rfl)) ?_
                                  have n0_ : Aside0 (Kd.R (Kd.int .i64) 3 (w128.setCell ⟨go99, ((rd y831 x21_5) : Int).toNat, none⟩ (.int .i64 ji98)) w.heap.size (fun k_ => some k_ ≠ (.slice (some ad825) x14_5.length co79 : Value).ownBlock ∧ some k_ ≠ (.slice (some ad839) y831.length co123 : Value).ownBlock ∧ some k_ ≠ (.slice (some ad840) y836.length co124 : Value).ownBlock) (.slice (some ⟨go99, 0, none⟩) x13_5.length co129) y851) := ⟨by (with_reducible repeat (first | apply Kd.R_alloc | apply Kd.R_drewN | apply Kd.R_drew)); exact HQ130.out⟩
                                  have n1_ : Aside0 (Kd.R (Kd.int .i64) 3 (w128.setCell ⟨go99, ((rd y831 x21_5) : Int).toNat, none⟩ (.int .i64 ji98)) w.heap.size (fun k_ => some k_ ≠ (.slice (some ⟨go99, 0, none⟩) x13_5.length co129 : Value).ownBlock ∧ some k_ ≠ (.slice (some ad839) y831.length co123 : Value).ownBlock ∧ some k_ ≠ (.slice (some ad840) y836.length co124 : Value).ownBlock) (.slice (some ad825) x14_5.length co79) x14_5) := ⟨by (with_reducible repeat (first | apply Kd.R_alloc | apply Kd.R_drewN | apply Kd.R_drew)); exact Kd.R_mono (Kd.R_far (p := ⟨go99, ((rd y831 x21_5) : Int).toNat, none⟩) (Kd.R_mono HO_14.out (fun k_ hk => (⟨hk, fun e_ => hk.1 (by rw [e_]; rfl)⟩ : _ ∧ k_ ≠ go99))) (fun _ hk => hk.2) (.int .i64 ji98)) (fun _ hk => ⟨hk.1.1, ⟨hk.1.2.1, hk.1.2.2⟩⟩)⟩
                                  have n2_ : Aside0 (Kd.R (Kd.int .i64) 3 (w128.setCell ⟨go99, ((rd y831 x21_5) : Int).toNat, none⟩ (.int .i64 ji98)) w.heap.size (fun k_ => some k_ ≠ (.slice (some ⟨go99, 0, none⟩) x13_5.length co129 : Value).ownBlock ∧ some k_ ≠ (.slice (some ad825) x14_5.length co79 : Value).ownBlock ∧ some k_ ≠ (.slice (some ad840) y836.length co124 : Value).ownBlock) (.slice (some ad839) y831.length co123) y831) := ⟨by (with_reducible repeat (first | apply Kd.R_alloc | apply Kd.R_drewN | apply Kd.R_drew)); exact Kd.R_mono (Kd.R_far (p := ⟨go99, ((rd y831 x21_5) : Int).toNat, none⟩) (Kd.R_mono HO_19.out (fun k_ hk => (⟨hk, fun e_ => hk.1 (by rw [e_]; rfl)⟩ : _ ∧ k_ ≠ go99))) (fun _ hk => hk.2) (.int .i64 ji98)) (fun _ hk => ⟨hk.1.1, ⟨hk.1.2.1, hk.1.2.2⟩⟩)⟩
                                  have n3_ : Aside0 (Kd.R (Kd.int .i64) 3 (w128.setCell ⟨go99, ((rd y831 x21_5) : Int).toNat, none⟩ (.int .i64 ji98)) w.heap.size (fun k_ => some k_ ≠ (.slice (some ⟨go99, 0, none⟩) x13_5.length co129 : Value).ownBlock ∧ some k_ ≠ (.slice (some ad825) x14_5.length co79 : Value).ownBlock ∧ some k_ ≠ (.slice (some ad839) y831.length co123 : Value).ownBlock) (.slice (some ad840) y836.length co124) y836) := ⟨by (with_reducible repeat (first | apply Kd.R_alloc | apply Kd.R_drewN | apply Kd.R_drew)); exact Kd.R_mono (Kd.R_far (p := ⟨go99, ((rd y831 x21_5) : Int).toNat, none⟩) (Kd.R_mono HO_20.out (fun k_ hk => (⟨hk, fun e_ => hk.1 (by rw [e_]; rfl)⟩ : _ ∧ k_ ≠ go99))) (fun _ hk => hk.2) (.int .i64 ji98)) (fun _ hk => ⟨hk.1.1, ⟨hk.1.2.1, hk.1.2.2⟩⟩)⟩
                                  have n4_ : Aside0 (Below w.heap.size w (w128.setCell ⟨go99, ((rd y831 x21_5) : Int).toNat, none⟩ (.int .i64 ji98))) := ⟨by repeat (first | (with_reducible first | exact HB.out | apply Qae | apply Qab | apply Qac | refine Qaw ?_ GB99.out) | exact HB.out)⟩
                                  (try clear HO_13)
                                  (try clear HO_14)
                                  (try clear HO_19)
                                  (try clear HO_20)
                                  (try clear HB)
                                  generalize (w128.setCell ⟨go99, ((rd y831 x21_5) : Int).toNat, none⟩ (.int .i64 ji98)) = w131 at n0_ n1_ n2_ n3_ n4_ ⊢
                                  have HO_13 := n0_
                                  have HO_14 := n1_
                                  have HO_19 := n2_
                                  have HO_20 := n3_
                                  have HB := n4_
                                  clear n0_ n1_ n2_ n3_ n4_
                                  have p852 : 0 ≤ ((rd y831 x21_5) : Int) := Ze
                                  have q852 : (rd y831 x21_5) < (x14_5.length : Int) := Ze
                                  obtain ⟨ad852, e852, hx852_0⟩ := Kd.at_int (Kd.R_reads' HO_14.out).2.2 (rd y831 x21_5) p852 q852
                                  obtain rfl : ad825 = ad852 := (by injection e852)
                                  replace p852 := eq_true p852
                                  replace q852 := eq_true q852
                                  have p855 : 0 ≤ ((rd y831 x21_5) : Int) := Ze
                                  have q855 : (rd y831 x21_5) < (x14_5.length : Int) := Ze
                                  obtain ⟨ad855, e855, hx855_0⟩ := Kd.at_int (Kd.R_reads' HO_14.out).2.2 (rd y831 x21_5) p855 q855
                                  obtain rfl : ad825 = ad855 := (by injection e855)
                                  replace p855 := eq_true p855
                                  replace q855 := eq_true q855
                                  have p122 : 0 ≤ ((rd y831 x21_5) : Int) := Ze
                                  have q122 : ((rd y831 x21_5) : Int) < ((x14_5.length : Int) : Int) := Ze
                                  obtain ⟨go122, co122, eo122, gb122, gl122, cl122, HG122⟩ := Kd.R_form HO_14.out (by omega)
                                  (first | cases eo122 | (injection eo122 with ea_ en_ ec_; (first | subst ea_ | (injection ea_ with ea_; subst ea_)); subst ec_; clear en_))
                                  have GB122 := Aside0.mk gb122
                                  have GG122 := Aside0.mk HG122
                                  clear gb122 gl122 HG122
                                  (first | simp only [Qbb] at hx852_0 | skip)
                                  (first | simp only [Qbb] at hx855_0 | skip)
                                  (try simp only [Qbb] at *)
                                  obtain ⟨hx122_0, hf122_0⟩ := Kd.R_celln 0 HO_14.out ((rd y831 x21_5) : Int) p122 q122
                                  replace p122 := eq_true p122
                                  replace q122 := eq_true q122
                                  obtain ⟨hy132_, hz132_⟩ := Kd.R_celln 0 HO_14.out ((rd y831 x21_5) : Int) (Ze) (Ze)
                                  have HP132 := Kd.R_putg HO_14.out ((rd y831 x21_5) : Int) (wrap64 ((rd x14_5 (rd y831 x21_5)) + (wrap64 ((wrap64 (ji77 * 1000)) * (rd y836 x21_5)))))
                                  try go_wp2_with (first | ((with_reducible refine QbZ (t := 3) (p := 250) rfl ?_); refine QbS (t := 3) (p := 250) (v := ?vo_w133) (w1 := (w131.setCell ⟨go122, ((rd y831 x21_5) : Int).toNat, none⟩ (.int .i64 (wrap64 ((rd x14_5 (rd y831 x21_5)) + (wrap64 ((wrap64 (ji77 * 1000)) * (rd y836 x21_5)))))))) ?hg ?ho ?hn ?hr ?_; (case ho => rfl); (case hg => rfl); (case hn => rfl); (case hr => first | (go_simp; done) | (go_simp; rfl)); intro w133 hw; have hg : w131.grownBy w133 (some go122) := (by rw [hw]; exact HP132.2); have hp_ : Kd.R (Kd.int .i64) 3 w133 w.heap.size (fun k_ => some k_ ≠ (.slice (some ⟨go99, 0, none⟩) x13_5.length co129 : Value).ownBlock ∧ some k_ ≠ (.slice (some ad839) y831.length co123 : Value).ownBlock ∧ some k_ ≠ (.slice (some ad840) y836.length co124 : Value).ownBlock) (.slice (some ⟨go122, 0, none⟩) x14_5.length co79) y856 := (by rw [hw, Ny856.out]; exact HP132.1); clear HP132; replace HO_13 := Aside0.mk (Kd.R_after (v := (.slice (some ⟨go122, 0, none⟩) x14_5.length co79)) (v1 := (.slice (some ⟨go122, 0, none⟩) x14_5.length co79)) (ok := (fun k_ => some k_ ≠ (.slice (some ad839) y831.length co123 : Value).ownBlock ∧ some k_ ≠ (.slice (some ad840) y836.length co124 : Value).ownBlock)) (by (with_reducible repeat (first | apply Kd.R_alloc | apply Kd.R_drewN | apply Kd.R_drew)); exact Kd.R_mono HO_13.out (fun _ hk => ⟨⟨hk.2.1, hk.2.2⟩, hk.1⟩)) hg (.inl rfl)); replace HO_14 := Aside0.mk (hp_); replace HO_19 := Aside0.mk (Kd.R_after (v := (.slice (some ⟨go122, 0, none⟩) x14_5.length co79)) (v1 := (.slice (some ⟨go122, 0, none⟩) x14_5.length co79)) (ok := (fun k_ => some k_ ≠ (.slice (some ⟨go99, 0, none⟩) x13_5.length co129 : Value).ownBlock ∧ some k_ ≠ (.slice (some ad840) y836.length co124 : Value).ownBlock)) (by (with_reducible repeat (first | apply Kd.R_alloc | apply Kd.R_drewN | apply Kd.R_drew)); exact Kd.R_mono HO_19.out (fun _ hk => ⟨⟨hk.1, hk.2.2⟩, hk.2.1⟩)) hg (.inl rfl)); replace HO_20 := Aside0.mk (Kd.R_after (v := (.slice (some ⟨go122, 0, none⟩) x14_5.length co79)) (v1 := (.slice (some ⟨go122, 0, none⟩) x14_5.length co79)) (ok := (fun k_ => some k_ ≠ (.slice (some ⟨go99, 0, none⟩) x13_5.length co129 : Value).ownBlock ∧ some k_ ≠ (.slice (some ad839) y831.length co123 : Value).ownBlock)) (by (with_reducible repeat (first | apply Kd.R_alloc | apply Kd.R_drewN | apply Kd.R_drew)); exact Kd.R_mono HO_20.out (fun _ hk => ⟨⟨hk.1, hk.2.2⟩, hk.2.1⟩)) hg (.inl rfl)); replace HB := Aside0.mk ((by rw [hw]; exact Qaw (HB.out) GB122.out : Below w.heap.size w w133)); clear hg hw hp_))
                                  (try simp only [← hl14_5])
                                  go_roundg k5
                                  case measure => have := HJ7.out; have := HK2.out; have := HK3.out; have := HJ47.out; have := HK5.out; omega
                                  case rel => exact ⟨(y851), (y856), (wrap64 (x21_5 + 1)), (Zs), H', ⟨by have := HJ7.out; have := HK2.out; have := HK3.out; have := HJ47.out; have := HK5.out; omega⟩, ⟨by (try simp only [hl14_5]); (with_reducible repeat (first | apply Kd.R_alloc | apply Kd.R_drewN | apply Kd.R_drew)); exact Kd.R_mono HO_13.out (fun _ hk => ⟨hk.2, ⟨hk.1.1, hk.1.2⟩⟩)⟩, ⟨by (try simp only [hl14_5]); (with_reducible repeat (first | apply Kd.R_alloc | apply Kd.R_drewN | apply Kd.R_drew)); exact HO_14.out⟩, ⟨by (try simp only [hl14_5]); (with_reducible repeat (first | apply Kd.R_alloc | apply Kd.R_drewN | apply Kd.R_drew)); exact Kd.R_mono HO_19.out (fun _ hk => ⟨hk.1.1, ⟨hk.2, hk.1.2⟩⟩)⟩, ⟨by (try simp only [hl14_5]); (with_reducible repeat (first | apply Kd.R_alloc | apply Kd.R_drewN | apply Kd.R_drew)); exact Kd.R_mono HO_20.out (fun _ hk => ⟨hk.1.1, ⟨hk.2, hk.1.2⟩⟩)⟩, ⟨Zb⟩⟩
                                 rw [if_neg c100] at H
                                 exact absurd H (by simp)
                                rw [if_neg c97] at H
                                exact absurd H (by simp)
                               rw [if_neg c95] at H
                               exact absurd H (by simp)
                              rw [if_neg c94] at H
                              exact absurd H (by simp)
                             rw [if_neg c91] at H
                             exact absurd H (by simp)
                            rw [if_neg c90] at H
                            exact absurd H (by simp)
                           rw [if_neg c89] at H
                           exact absurd H (by simp)
                          rw [if_neg c88] at H
                          exact absurd H (by simp)
                         rw [if_neg c87] at H
                         exact absurd H (by simp)
                        rw [if_neg c86] at H
                        exact absurd H (by simp)
                       rw [if_neg c85] at H
                       have c85b0 : decide (x21_5 < 2) = F := decide_eq_false c85
                       clear c85
                       (try simp only [c85b0])
                       have H' := Aside0.mk H
                       clear H
                       go_wp2
                       (try simp only [← hl14_5])
                       go_roundg k5
                       case measure => have := HJ7.out; have := HK2.out; have := HK3.out; have := HJ47.out; have := HK5.out; omega
                       case rel => exact ⟨(x13_5), (x14_5), (wrap64 (x15_3 + 1)), (Zs), H', ⟨by have := HJ7.out; have := HK2.out; have := HK3.out; have := HJ47.out; have := HK5.out; omega⟩, ⟨by (try simp only [hl14_5]); (with_reducible repeat (first | apply Kd.R_alloc | apply Kd.R_drewN | apply Kd.R_drew)); exact Kd.R_mono HO_13.out (fun _ hk => hk.1)⟩, ⟨by (try simp only [hl14_5]); (with_reducible repeat (first | apply Kd.R_alloc | apply Kd.R_drewN | apply Kd.R_drew)); exact Kd.R_mono HO_14.out (fun _ hk => hk.1)⟩, ⟨Zb⟩⟩
                    rw [if_neg c74] at H
                    exact absurd H (by simp)
                   rw [if_neg c73] at H
                   exact absurd H (by simp)
                  rw [if_neg c71] at H
                  exact absurd H (by simp)
                 rw [if_neg c70] at H
                 exact absurd H (by simp)
                rw [if_neg c68] at H
                exact absurd H (by simp)
               rw [if_neg c67] at H
               exact absurd H (by simp)
            rw [if_neg c45] at H
            exact absurd H (by simp)
           rw [if_neg c44] at H
           have c44b0 : decide (x15_3 < (l3.length : Int)) = F := decide_eq_false c44
           clear c44
           (try simp only [c44b0])
           simp only [Option.some.injEq, Prod.mk.injEq] at H
           obtain ⟨rfl, rfl, rfl⟩ := H
           go_wp2
           go_ret3
           exact ⟨_, _, Zq, Zr HO_13.out, Zr HO_14.out, Zb⟩
        rw [if_neg c40] at H
        exact absurd H (by simp)
       rw [if_neg c39] at H
       exact absurd H (by simp)
      rw [if_neg c38] at H
      exact absurd H (by simp)
 rw [if_neg c7] at H
 have c7b0 : (t800 == 0) = F := beq_eq_false_iff_ne.mpr c7
 have c7b1 : (t800 != 0) = T := bne_iff_ne.mpr c7
 (try simp only [c7b0, c7b1])
 simp only [Option.some.injEq, Prod.mk.injEq] at H
 obtain ⟨rfl, rfl, rfl⟩ := H
 go_wp2
 go_ret3
 exact ⟨_, _, Zq, by first | exact Kd.R_nil _ _ _ _ _ | exact Kd.N_nil _ _ _ _ _ | exact Kd.V_nil _ _ _ _ _ | exact Kd.Q_nil _ _ _ _ _ | exact Kd.S_nil _ _ _ _ _, by first | exact Kd.R_nil _ _ _ _ _ | exact Kd.N_nil _ _ _ _ _ | exact Kd.V_nil _ _ _ _ _ | exact Kd.Q_nil _ _ _ _ _ | exact Kd.S_nil _ _ _ _ _, Zb⟩
end Go.Proofs.Ytggbflplbblgbaa.Pr
