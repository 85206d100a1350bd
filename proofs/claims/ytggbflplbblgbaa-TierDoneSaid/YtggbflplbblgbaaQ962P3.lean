/- Functions' values and contracts, as the print wrote them. -/
import Derived.Test.YtggbflplbblgbaaQ962P0
namespace Go.Proofs.Ytggbflplbblgbaa.Pr
open Bool renaming true → T
open Bool renaming false → F
open Go.RowKit Go.Proofs.YtggbflplbblgbaaW.PrintWords Go.Proofs.YtggbflplbblgbaaW.PrintLast Go.Proofs.YtggbflplbblgbaaW.PrintMore
attribute [local go_sem] QaD QaF QaJ QaK QaB QaC QaE QaG   -- for this text's walks alone
set_option linter.unusedVariables false
set_option linter.unusedSimpArgs false
mutual
def Qad.l0 : Nat → List Int → List Int → List (S91) → Int → Option (List Int × List Int × Int)
 | 0, _, _, _, _ => none
 | k + 1, x0, x1, x2, x10 => if x10 < (x0.length : Int) then (if 0 ≤ x10 then (if (rd x0 x10) < 0 then (some (([] : List Int), ([] : List Int), 2)) else (if (rd x0 x10) > 73048 then (some (([] : List Int), ([] : List Int), 2)) else (if x10 > 0 then (if 0 ≤ (wrap64 (x10 - 1)) then (if (wrap64 (x10 - 1)) < (x0.length : Int) then (if (rd x0 x10) ≤ (rd x0 (wrap64 (x10 - 1))) then (some (([] : List Int), ([] : List Int), 2)) else (if x10 < (x1.length : Int) then ((QaS.f (rd x1 x10)).bind fun t629 => (if t629 = T then (Qad.l0 k x0 x1 x2 (wrap64 (x10 + 1))) else (some (([] : List Int), ([] : List Int), 2)))) else (none))) else (none)) else (none)) else (if x10 < (x1.length : Int) then ((QaS.f (rd x1 x10)).bind fun t631 => (if t631 = T then (Qad.l0 k x0 x1 x2 (wrap64 (x10 + 1))) else (some (([] : List Int), ([] : List Int), 2)))) else (none))))) else (none)) else (if ([] : List Int).length + x1.length < 17592186044416 then (Qad.l1 k x0 x2 (([] : List Int) ++ x1) ([] : List Int) 0) else (none))
def Qad.l1 : Nat → List Int → List (S91) → List Int → List Int → Int → Option (List Int × List Int × Int)
 | 0, _, _, _, _, _ => none
 | k + 1, x0, x2, x11, x12, x13 => if x13 < (x2.length : Int) then (if 0 ≤ x13 then ((Qas.f k x0 ((rd_T91 x2 x13).f0)).bind fun t636 => ((Qas.f k x0 ((rd_T91 x2 x13).f1)).bind fun t638 => (if t636 ≥ 0 then (Qad.j2 k x0 x2 x11 x12 x13 t636 t638 0 (decide (t638 ≥ 0))) else (Qad.j2 k x0 x2 x11 x12 x13 t636 t638 0 F)))) else (none)) else (some (x12, x11, 0))
def Qad.j2 : Nat → List Int → List (S91) → List Int → List Int → Int → Int → Int → Int → Bool → Option (List Int × List Int × Int)
 | 0, _, _, _, _, _, _, _, _, _ => none
 | k + 1, x0, x2, x11, x12, x13, x14, x15, x16, x97 => if x97 = T then (if 0 ≤ x14 then (if x14 < (x11.length : Int) then (if 0 ≤ x15 then (if x15 < (x11.length : Int) then ((Qam.f k (rd x11 x14) (rd x11 x15)).bind fun t641 => ((QaL.f (rd x11 x14) t641).bind fun t643 => ((some (x11.set (x14 : Int).toNat t643 : List Int)).bind fun y644 => ((QaL.f (rd y644 x15) t641).bind fun t646 => (if x12.length < 17592186044416 then (Qad.l1 k x0 x2 (y644.set (x15 : Int).toNat t646) (x12 ++ [t641]) (wrap64 (x13 + 1))) else (none)))))) else (none)) else (none)) else (none)) else (none)) else (if x12.length < 17592186044416 then (Qad.l1 k x0 x2 x11 (x12 ++ [x16]) (wrap64 (x13 + 1))) else (none))
end
def Qad.f (k : Nat) (l0 : List Int) (l1 : List Int) (l2 : List (S91)) : Option (List Int × List Int × Int) := (Qal.f k l2).bind fun t623 => (if t623 = 0 then (if (l0.length : Int) = (l1.length : Int) then (Qad.l0 k l0 l1 l2 0) else (some (([] : List Int), ([] : List Int), 2))) else (some (([] : List Int), ([] : List Int), t623)))
theorem Qad.mono_l : ∀ k, (∀ y0 y1 y2 y3, LeO (Qad.l0 k y0 y1 y2 y3) (Qad.l0 (k + 1) y0 y1 y2 y3)) ∧ (∀ y0 y1 y2 y3 y4, LeO (Qad.l1 k y0 y1 y2 y3 y4) (Qad.l1 (k + 1) y0 y1 y2 y3 y4)) ∧ (∀ y0 y1 y2 y3 y4 y5 y6 y7 y8, LeO (Qad.j2 k y0 y1 y2 y3 y4 y5 y6 y7 y8) (Qad.j2 (k + 1) y0 y1 y2 y3 y4 y5 y6 y7 y8))
 | 0 => ⟨fun _ _ _ _ r h => by simp [Qad.l0] at h, fun _ _ _ _ _ r h => by simp [Qad.l1] at h, fun _ _ _ _ _ _ _ _ _ r h => by simp [Qad.j2] at h⟩
 | k + 1 => by
  obtain ⟨ih0, ih1, ih2⟩ := Qad.mono_l k
  refine ⟨?_, ?_, ?_⟩
  ·intro y0 y1 y2 y3
   unfold Qad.l0
   exact ZM6 ih0 ih1 ih2 Qal.mono Qam.mono Qas.mono
  ·intro y0 y1 y2 y3 y4
   unfold Qad.l1
   exact ZM6 ih0 ih1 ih2 Qal.mono Qam.mono Qas.mono
  intro y0 y1 y2 y3 y4 y5 y6 y7 y8
  unfold Qad.j2
  exact ZM6 ih0 ih1 ih2 Qal.mono Qam.mono Qas.mono
theorem Qad.mono : ∀ a0 a1 a2 k, LeO (Qad.f k a0 a1 a2) (Qad.f (k + 1) a0 a1 a2) := by
 intro a0 a1 a2 k
 obtain ⟨ih0, ih1, ih2⟩ := Qad.mono_l k
 unfold Qad.f
 exact ZM6 ih0 ih1 ih2 Qal.mono Qam.mono Qas.mono
def Qad.T9 : Bool × List (List Nat × List Nat) := (T, [([], []), ([], []), ([0, 1], [0, 1]), ([2], [2]), ([3], [3]), ([4], [4]), ([5], [5]), ([5], [5]), ([6, 7, 5], [5, 6, 7]), ([8, 5], [5, 8]), ([9, 5], [5, 9]), ([5, 10], [5, 10]), ([11, 5], [11]), ([12], [12]), ([13, 12], [12, 13]), ([14, 12, 12], [12, 14]), ([15], [15]), ([15], [15]), ([16, 17, 15], [15, 16, 17]), ([18, 15], [15, 18]), ([15], [15]), ([15], [15]), ([21, 15], [15, 21]), ([20, 22, 15], [15, 20, 22]), ([23, 15], [15, 23]), ([19, 24, 15], [15, 19, 24]), ([15, 25, 12], [12, 15, 25]), ([12, 26], [12, 26]), ([27, 15], [27]), ([28], [28]), ([28], [28]), ([29, 30, 28], [28, 29, 30]), ([31, 28], [28, 31]), ([32, 28, 28], [28, 32]), ([33, 28], [28, 33]), ([28, 34], [28, 34])])
def Qad.B9 : List Nat := [0, 0, 3, 7, 15, 31, 63, 63, 255, 511, 1023, 2047, 4095, 8191, 16383, 32767, 65535, 65535, 262143, 524287, 65535, 65535, 2162687, 7405567, 15794175, 33554431, 67108863, 134217727, 268435455, 536870911, 536870911, 2147483647, 4294967295, 8589934591, 17179869183, 34359738367]
theorem Qad.tab9 : rtab .any (opsOf Try.f34 9) = Qad.T9 := by kernel_rfl
theorem Qad.bits9 : Qbk Qad.T9.2 Qad.B9 = T := by kernel_rfl
def Qad.T16 : Bool × List (List Nat × List Nat) := (T, [([], []), ([], []), ([], []), ([1, 2], [1, 2]), ([3], [3]), ([4], [4]), ([0, 5], [0, 5]), ([], []), ([], []), ([], []), ([8, 9], [8, 9]), ([10], [10]), ([11], [11]), ([7, 12, 6], [7, 12]), ([6, 13, 0, 1, 2, 3, 4, 5, 6], [6]), ([13, 14, 0, 1, 2, 3, 4, 5, 6, 7, 8, 9, 10, 11, 12, 13, 14], [13])])
def Qad.B16 : List Nat := [0, 0, 0, 6, 14, 30, 63, 0, 0, 0, 768, 1792, 3840, 8191, 16383, 32767]
theorem Qad.tab16 : rtab .any (opsOf Try.f34 16) = Qad.T16 := by kernel_rfl
theorem Qad.bits16 : Qbk Qad.T16.2 Qad.B16 = T := by kernel_rfl
def Qad.T19 : Bool × List (List Nat × List Nat) := (T, [([], []), ([], []), ([0, 1], [0, 1]), ([2], [2]), ([], []), ([], []), ([4, 5], [4, 5]), ([6], [6]), ([3, 7], [3, 7]), ([8, 8, 0, 1, 2, 3, 4, 5, 6, 7, 8], [8])])
def Qad.B19 : List Nat := [0, 0, 3, 7, 0, 0, 48, 112, 255, 511]
theorem Qad.tab19 : rtab .any (opsOf Try.f34 19) = Qad.T19 := by kernel_rfl
theorem Qad.bits19 : Qbk Qad.T19.2 Qad.B19 = T := by kernel_rfl
set_option maxHeartbeats 8000000 in
set_option maxRecDepth 100000 in
theorem Qad.calls (k : Nat) (A0 : Option Addr) (c0 : Nat) (l0 : List Int) (A1 : Option Addr) (c1 : Nat) (l1 : List Int) (A2 : Option Addr) (c2 : Nat) (l2 : List (S91)) (r1 : List Int) (r2 : List Int) (r3 : Int) (w : World) (hr0 : Kd.C (Kd.int .i64) w A0 l0.length l0) (hc0 : l0.length ≤ c0) (hr1 : Kd.C (Kd.int .i64) w A1 l1.length l1) (hc1 : l1.length ≤ c1) (hr2 : Kd.C k91 w A2 l2.length l2) (hc2 : l2.length ≤ c2) (h : Qad.f k l0 l1 l2 = some (r1, r2, r3)) :
  Calls Try.prog 34 #[.slice A0 l0.length c0, .slice A1 l1.length c1, .slice A2 l2.length c2] w fun e w' => ∃ v0_ v1_ : Value, e = .returned (.tuple #[v0_, v1_, .int .i64 r3]) ∧ Kd.R (Kd.int .i64) 3 w' w.heap.size (fun k_ => some k_ ≠ (v1_ : Value).ownBlock) v0_ r1 ∧ Kd.R (Kd.int .i64) 3 w' w.heap.size (fun k_ => some k_ ≠ (v0_ : Value).ownBlock) v1_ r2 ∧ Below w.heap.size w w' := by
 have HR0 := Aside0.mk hr0
 have HC0 := Aside0.mk hc0
 clear hr0 hc0
 have HR1 := Aside0.mk hr1
 have HC1 := Aside0.mk hc1
 clear hr1 hc1
 have HR2 := Aside0.mk hr2
 have HC2 := Aside0.mk hc2
 clear hr2 hc2
 have HB := Aside0.mk (Below.refl w.heap.size w)
 have H : ((Qal.f k l2).bind fun t623 => (if t623 = 0 then (if (l0.length : Int) = (l1.length : Int) then (Qad.l0 k l0 l1 l2 0) else (some (([] : List Int), ([] : List Int), 2))) else (some (([] : List Int), ([] : List Int), t623)))) = some (r1, r2, r3) := h
 clear h
 replace H := Option.bind_eq_some_iff.mp H
 obtain ⟨t623, A40, H⟩ := H
 replace H : (if t623 = 0 then (if (l0.length : Int) = (l1.length : Int) then (Qad.l0 k l0 l1 l2 0) else (some (([] : List Int), ([] : List Int), 2))) else (some (([] : List Int), ([] : List Int), t623))) = some (r1, r2, r3) := H
 have A4 := Aside0.mk A40
 clear A40
 go_enter Try.func34, Try.ntmps34
 go_upto_if 20 with (first | ((with_reducible refine Qat (f := 39) rfl ?_); refine goesL_ (some 18) rfl rfl Try.func39 (by kernel_rfl) rfl #[.slice A2 l2.length c2] rfl (Zl) ?_; (with_reducible refine (Qal.calls k _ _ l2 t623 _ ?side1 ?side2 A4.out).mono ?_); (case side1 => exact Zv HR2.out); (case side2 => exact HC2.out); rintro e w' ⟨rfl, ⟨nd, rfl⟩⟩; refine ⟨_, rfl, ?_⟩))
 (try simp only [Act.put, Zj, Zk, Zm])
 by_cases c5 : t623 = 0
 ·rw [if_pos c5] at H
  have c5b0 : (t623 == 0) = T := beq_iff_eq.mpr c5
  have c5b1 : (t623 != 0) = F := bne_eq_false_iff_eq.mpr c5
  clear c5
  (try simp only [c5b0, c5b1])
  by_cases c6 : (l0.length : Int) = (l1.length : Int)
  ·rw [if_pos c6] at H
   have c6b0 : ((l0.length : Int) == (l1.length : Int)) = T := beq_iff_eq.mpr c6
   have c6b1 : ((l0.length : Int) != (l1.length : Int)) = F := bne_eq_false_iff_eq.mpr c6
   have c6b2 : (l0.length == l1.length) = T := by first | simpa using c6 | (simp at c6 ⊢; omega)
   clear c6
   (try simp only [c6b0, c6b1, c6b2])
   have H' := Aside0.mk H
   clear H
   go_wp2
   go_loopg [10] k (fun kq v10 w' => ∃ (x10_1 : Int), v10 = .int .i64 x10_1 ∧ Aside0 (Qad.l0 kq l0 l1 l2 x10_1 = some (r1, r2, r3)) ∧ Aside0 (kq ≤ k) ∧ Aside0 (Below w.heap.size w w'))
   case atStart => exact ⟨(0), (Zs), H', ⟨Nat.le_refl _⟩, ⟨Zb⟩⟩
   case round =>
    clear H'
    try clear c1
    try clear c2
    try clear p2
    try clear c3
    try clear c5
    try clear c5b0
    try clear c5b1
    try clear c6
    try clear c6b0
    try clear c6b1
    try clear c6b2
    obtain ⟨x10_1, rfl, HA, HK1, HB⟩ := hrel
    cases gk with
    | zero => exact absurd HA.out (by simp [Qad.l0])
    | succ k1 =>
     have H := HA.out
     clear HA
     simp only [Qad.l0] at H
     by_cases c7 : x10_1 < (l0.length : Int)
     ·rw [if_pos c7] at H
      have c7b0 : decide (x10_1 < (l0.length : Int)) = T := decide_eq_true c7
      clear c7
      (try simp only [c7b0])
      by_cases c8 : 0 ≤ x10_1
      ·rw [if_pos c8] at H
       have c8b0 : decide (0 ≤ x10_1) = T := decide_eq_true c8
       clear c8
       by_cases c9 : (rd l0 x10_1) < 0
       ·rw [if_pos c9] at H
        have c9b0 : decide ((rd l0 x10_1) < 0) = T := decide_eq_true c9
        clear c9
        simp only [Option.some.injEq, Prod.mk.injEq] at H
        obtain ⟨rfl, rfl, rfl⟩ := H
        try go_wp2
        (try (rw [QaW wr]; generalize hq_ : World.drewN wr _ = wr; have n0_ : Aside0 (Below w.heap.size w wr) := ⟨by rw [← hq_]; exact (Zb)⟩; clear HB hq_; have HB := n0_; clear n0_))
        (try (rw [QaW wr]; generalize hq_ : World.drewN wr _ = wr; have n0_ : Aside0 (Below w.heap.size w wr) := ⟨by rw [← hq_]; exact (Zb)⟩; clear HB hq_; have HB := n0_; clear n0_))
        replace HB := Aside0.mk (Qab HB.out)
        have p624 : 0 ≤ (x10_1 : Int) := Ze
        have q624 : x10_1 < (l0.length : Int) := Ze
        obtain ⟨ad624, e624, hx624_0⟩ := Kd.at_int HR0.out x10_1 p624 q624
        have hw624_0 := hx624_0
        cases e624
        replace hx624_0 := Zx HB.out hx624_0
        replace p624 := eq_true p624
        replace q624 := eq_true q624
        refine start_ (n := 36) (S := fun w' => w'.cell? (ad624.add (x10_1).toNat) = some (.int .i64 (rd l0 x10_1))) (ds := []) #[F, F, F, F, F, F, F, F, F, F, F, F, F, F, F, F, F, F, F, F, F, F, F, F, F, F, F, F, F, F, F, F, F, F, F, F] (by kernel_rfl) rfl rfl (((HB.out.cell (World.block_lt_of_cell? w _ hw624_0)).trans hw624_0)) (fun hHeld => ?_); refine Qa1 Qad.tab9 Qad.bits9 (fun HT_ HW_ => ?_)
        generalize wr.drew = w10 at HB hx624_0 hHeld ⊢
        refine pure_ (i := 0) (N := some 33) (v := ?_) (a' := ?_) #[T, F, F, F, F, F, F, F, F, F, F, F, F, F, F, F, F, F, F, F, F, F, F, F, F, F, F, F, F, F, F, F, F, F, F, F] rfl rfl (any_of HT_.out (by kernel_rfl)) (fun _ _ _ h => h) (Or.inl ⟨by rfl, ?_⟩) ?_ ?_
        rotate_left
        ·intro w'
         go_simp
         with_reducible rfl
        rotate_left
        ·simp only [Act.put, Zj, Zk, Zm, i64_w, i32_w]
         rfl
        refine pure_ (i := 1) (N := some 34) (v := ?_) (a' := ?_) #[T, T, F, F, F, F, F, F, F, F, F, F, F, F, F, F, F, F, F, F, F, F, F, F, F, F, F, F, F, F, F, F, F, F, F, F] rfl rfl (any_of HT_.out (by kernel_rfl)) (fun _ _ _ h => h) (Or.inl ⟨by rfl, ?_⟩) ?_ ?_
        rotate_left
        ·intro w'
         go_simp
         with_reducible rfl
        rotate_left
        ·simp only [Act.put, Zj, Zk, Zm, i64_w, i32_w]
         rfl
        refine pure_ (i := 2) (N := some 35) (v := ?_) (a' := ?_) #[T, T, T, F, F, F, F, F, F, F, F, F, F, F, F, F, F, F, F, F, F, F, F, F, F, F, F, F, F, F, F, F, F, F, F, F] rfl rfl (any_of HT_.out (by kernel_rfl)) (fun _ _ _ h => h) (Or.inl ⟨by rfl, ?_⟩) ?_ ?_
        rotate_left
        ·intro w'
         go_simp
         with_reducible rfl
        rotate_left
        ·simp only [Act.put, Zj, Zk, Zm, i64_w, i32_w]
         rfl
        refine take_ (i := 3) (N := some 36) (v := ?_) (a' := ?_) #[T, T, T, T, F, F, F, F, F, F, F, F, F, F, F, F, F, F, F, F, F, F, F, F, F, F, F, F, F, F, F, F, F, F, F, F] rfl rfl (QaH HT_.out HW_.out (by kernel_rfl)) (fun _ _ _ h => h) (Or.inl ⟨by rfl, ?_⟩) hHeld ?_ ?_
        rotate_left
        ·intro w' s0
         go_simp
         with_reducible rfl
        rotate_left
        ·simp only [Act.put, Zj, Zk, Zm, i64_w, i32_w]
         rfl
        refine pure_ (i := 4) (N := some 37) (v := ?_) (a' := ?_) #[T, T, T, T, T, F, F, F, F, F, F, F, F, F, F, F, F, F, F, F, F, F, F, F, F, F, F, F, F, F, F, F, F, F, F, F] rfl rfl (any_of HT_.out (by kernel_rfl)) (fun _ _ _ h => h) (Or.inl ⟨by rfl, ?_⟩) ?_ ?_
        rotate_left
        ·intro w'
         go_simp
         with_reducible rfl
        rotate_left
        ·simp only [Act.put, Zj, Zk, Zm, i64_w, i32_w]
         rfl
        refine pure_ (i := 5) (N := some 38) (v := ?_) (a' := ?_) #[T, T, T, T, T, T, F, F, F, F, F, F, F, F, F, F, F, F, F, F, F, F, F, F, F, F, F, F, F, F, F, F, F, F, F, F] rfl rfl (any_of HT_.out (by kernel_rfl)) (fun _ _ _ h => h) (Or.inl ⟨by rfl, ?_⟩) ?_ ?_
        rotate_left
        ·intro w'
         go_simp
         with_reducible rfl
        rotate_left
        ·simp only [Act.put, Zj, Zk, Zm, i64_w, i32_w]
         rfl
        refine pure_ (i := 6) (N := some 39) (v := undef) (a' := ?_) #[T, T, T, T, T, T, T, F, F, F, F, F, F, F, F, F, F, F, F, F, F, F, F, F, F, F, F, F, F, F, F, F, F, F, F, F] rfl rfl (any_of HT_.out (by kernel_rfl)) (fun _ _ _ h => h) (Or.inr ⟨by rfl, rfl⟩) ?_ ?_
        rotate_left
        ·simp only [Act.put, Zj, Zk, Zm, i64_w, i32_w]
         rfl
        refine pure_ (i := 7) (N := some 40) (v := undef) (a' := ?_) #[T, T, T, T, T, T, T, T, F, F, F, F, F, F, F, F, F, F, F, F, F, F, F, F, F, F, F, F, F, F, F, F, F, F, F, F] rfl rfl (any_of HT_.out (by kernel_rfl)) (fun _ _ _ h => h) (Or.inr ⟨by rfl, rfl⟩) ?_ ?_
        rotate_left
        ·simp only [Act.put, Zj, Zk, Zm, i64_w, i32_w]
         rfl
        refine pure_ (i := 8) (N := some 41) (v := undef) (a' := ?_) #[T, T, T, T, T, T, T, T, T, F, F, F, F, F, F, F, F, F, F, F, F, F, F, F, F, F, F, F, F, F, F, F, F, F, F, F] rfl rfl (any_of HT_.out (by kernel_rfl)) (fun _ _ _ h => h) (Or.inr ⟨by rfl, rfl⟩) ?_ ?_
        rotate_left
        ·simp only [Act.put, Zj, Zk, Zm, i64_w, i32_w]
         rfl
        refine pure_ (i := 9) (N := some 42) (v := undef) (a' := ?_) #[T, T, T, T, T, T, T, T, T, T, F, F, F, F, F, F, F, F, F, F, F, F, F, F, F, F, F, F, F, F, F, F, F, F, F, F] rfl rfl (any_of HT_.out (by kernel_rfl)) (fun _ _ _ h => h) (Or.inr ⟨by rfl, rfl⟩) ?_ ?_
        rotate_left
        ·simp only [Act.put, Zj, Zk, Zm, i64_w, i32_w]
         rfl
        refine pure_ (i := 10) (N := some 43) (v := undef) (a' := ?_) #[T, T, T, T, T, T, T, T, T, T, T, F, F, F, F, F, F, F, F, F, F, F, F, F, F, F, F, F, F, F, F, F, F, F, F, F] rfl rfl (any_of HT_.out (by kernel_rfl)) (fun _ _ _ h => h) (Or.inr ⟨by rfl, rfl⟩) ?_ ?_
        rotate_left
        ·simp only [Act.put, Zj, Zk, Zm, i64_w, i32_w]
         rfl
        refine pure_ (i := 11) (N := some 44) (v := ?_) (a' := ?_) #[T, T, T, T, T, T, T, T, T, T, T, T, F, F, F, F, F, F, F, F, F, F, F, F, F, F, F, F, F, F, F, F, F, F, F, F] rfl rfl (any_of HT_.out (by kernel_rfl)) (fun _ _ _ h => h) (Or.inl ⟨by rfl, ?_⟩) ?_ ?_
        rotate_left
        ·intro w'
         go_simp
         with_reducible rfl
        rotate_left
        ·simp only [Act.put, Zj, Zk, Zm, i64_w, i32_w]
         rfl
        refine pure_ (i := 12) (N := some 45) (v := ?_) (a' := ?_) #[T, T, T, T, T, T, T, T, T, T, T, T, T, F, F, F, F, F, F, F, F, F, F, F, F, F, F, F, F, F, F, F, F, F, F, F] rfl rfl (any_of HT_.out (by kernel_rfl)) (fun _ _ _ h => h) (Or.inl ⟨by rfl, ?_⟩) ?_ ?_
        rotate_left
        ·intro w'
         go_simp
         with_reducible rfl
        rotate_left
        ·simp only [Act.put, Zj, Zk, Zm, i64_w, i32_w]
         rfl
        refine pure_ (i := 13) (N := some 46) (v := undef) (a' := ?_) #[T, T, T, T, T, T, T, T, T, T, T, T, T, T, F, F, F, F, F, F, F, F, F, F, F, F, F, F, F, F, F, F, F, F, F, F] rfl rfl (any_of HT_.out (by kernel_rfl)) (fun _ _ _ h => h) (Or.inr ⟨by rfl, rfl⟩) ?_ ?_
        rotate_left
        ·simp only [Act.put, Zj, Zk, Zm, i64_w, i32_w]
         rfl
        refine pure_ (i := 14) (N := some 47) (v := undef) (a' := ?_) #[T, T, T, T, T, T, T, T, T, T, T, T, T, T, T, F, F, F, F, F, F, F, F, F, F, F, F, F, F, F, F, F, F, F, F, F] rfl rfl (any_of HT_.out (by kernel_rfl)) (fun _ _ _ h => h) (Or.inr ⟨by rfl, rfl⟩) ?_ ?_
        rotate_left
        ·simp only [Act.put, Zj, Zk, Zm, i64_w, i32_w]
         rfl
        refine pure_ (i := 15) (N := some 48) (v := undef) (a' := ?_) #[T, T, T, T, T, T, T, T, T, T, T, T, T, T, T, T, F, F, F, F, F, F, F, F, F, F, F, F, F, F, F, F, F, F, F, F] rfl rfl (any_of HT_.out (by kernel_rfl)) (fun _ _ _ h => h) (Or.inr ⟨by rfl, rfl⟩) ?_ ?_
        rotate_left
        ·simp only [Act.put, Zj, Zk, Zm, i64_w, i32_w]
         rfl
        refine pure_ (i := 16) (N := some 49) (v := undef) (a' := ?_) #[T, T, T, T, T, T, T, T, T, T, T, T, T, T, T, T, T, F, F, F, F, F, F, F, F, F, F, F, F, F, F, F, F, F, F, F] rfl rfl (any_of HT_.out (by kernel_rfl)) (fun _ _ _ h => h) (Or.inr ⟨by rfl, rfl⟩) ?_ ?_
        rotate_left
        ·simp only [Act.put, Zj, Zk, Zm, i64_w, i32_w]
         rfl
        refine pure_ (i := 17) (N := some 50) (v := undef) (a' := ?_) #[T, T, T, T, T, T, T, T, T, T, T, T, T, T, T, T, T, T, F, F, F, F, F, F, F, F, F, F, F, F, F, F, F, F, F, F] rfl rfl (any_of HT_.out (by kernel_rfl)) (fun _ _ _ h => h) (Or.inr ⟨by rfl, rfl⟩) ?_ ?_
        rotate_left
        ·simp only [Act.put, Zj, Zk, Zm, i64_w, i32_w]
         rfl
        refine pure_ (i := 18) (N := some 51) (v := undef) (a' := ?_) #[T, T, T, T, T, T, T, T, T, T, T, T, T, T, T, T, T, T, T, F, F, F, F, F, F, F, F, F, F, F, F, F, F, F, F, F] rfl rfl (any_of HT_.out (by kernel_rfl)) (fun _ _ _ h => h) (Or.inr ⟨by rfl, rfl⟩) ?_ ?_
        rotate_left
        ·simp only [Act.put, Zj, Zk, Zm, i64_w, i32_w]
         rfl
        refine pure_ (i := 19) (N := some 52) (v := undef) (a' := ?_) #[T, T, T, T, T, T, T, T, T, T, T, T, T, T, T, T, T, T, T, T, F, F, F, F, F, F, F, F, F, F, F, F, F, F, F, F] rfl rfl (any_of HT_.out (by kernel_rfl)) (fun _ _ _ h => h) (Or.inr ⟨by rfl, rfl⟩) ?_ ?_
        rotate_left
        ·simp only [Act.put, Zj, Zk, Zm, i64_w, i32_w]
         rfl
        refine pure_ (i := 20) (N := some 53) (v := undef) (a' := ?_) #[T, T, T, T, T, T, T, T, T, T, T, T, T, T, T, T, T, T, T, T, T, F, F, F, F, F, F, F, F, F, F, F, F, F, F, F] rfl rfl (any_of HT_.out (by kernel_rfl)) (fun _ _ _ h => h) (Or.inr ⟨by rfl, rfl⟩) ?_ ?_
        rotate_left
        ·simp only [Act.put, Zj, Zk, Zm, i64_w, i32_w]
         rfl
        refine pure_ (i := 21) (N := some 54) (v := undef) (a' := ?_) #[T, T, T, T, T, T, T, T, T, T, T, T, T, T, T, T, T, T, T, T, T, T, F, F, F, F, F, F, F, F, F, F, F, F, F, F] rfl rfl (any_of HT_.out (by kernel_rfl)) (fun _ _ _ h => h) (Or.inr ⟨by rfl, rfl⟩) ?_ ?_
        rotate_left
        ·simp only [Act.put, Zj, Zk, Zm, i64_w, i32_w]
         rfl
        refine pure_ (i := 22) (N := some 55) (v := undef) (a' := ?_) #[T, T, T, T, T, T, T, T, T, T, T, T, T, T, T, T, T, T, T, T, T, T, T, F, F, F, F, F, F, F, F, F, F, F, F, F] rfl rfl (any_of HT_.out (by kernel_rfl)) (fun _ _ _ h => h) (Or.inr ⟨by rfl, rfl⟩) ?_ ?_
        rotate_left
        ·simp only [Act.put, Zj, Zk, Zm, i64_w, i32_w]
         rfl
        refine pure_ (i := 23) (N := some 56) (v := undef) (a' := ?_) #[T, T, T, T, T, T, T, T, T, T, T, T, T, T, T, T, T, T, T, T, T, T, T, T, F, F, F, F, F, F, F, F, F, F, F, F] rfl rfl (any_of HT_.out (by kernel_rfl)) (fun _ _ _ h => h) (Or.inr ⟨by rfl, rfl⟩) ?_ ?_
        rotate_left
        ·simp only [Act.put, Zj, Zk, Zm, i64_w, i32_w]
         rfl
        refine pure_ (i := 24) (N := some 57) (v := undef) (a' := ?_) #[T, T, T, T, T, T, T, T, T, T, T, T, T, T, T, T, T, T, T, T, T, T, T, T, T, F, F, F, F, F, F, F, F, F, F, F] rfl rfl (any_of HT_.out (by kernel_rfl)) (fun _ _ _ h => h) (Or.inr ⟨by rfl, rfl⟩) ?_ ?_
        rotate_left
        ·simp only [Act.put, Zj, Zk, Zm, i64_w, i32_w]
         rfl
        refine pure_ (i := 25) (N := some 58) (v := undef) (a' := ?_) #[T, T, T, T, T, T, T, T, T, T, T, T, T, T, T, T, T, T, T, T, T, T, T, T, T, T, F, F, F, F, F, F, F, F, F, F] rfl rfl (any_of HT_.out (by kernel_rfl)) (fun _ _ _ h => h) (Or.inr ⟨by rfl, rfl⟩) ?_ ?_
        rotate_left
        ·simp only [Act.put, Zj, Zk, Zm, i64_w, i32_w]
         rfl
        refine pure_ (i := 26) (N := some 59) (v := undef) (a' := ?_) #[T, T, T, T, T, T, T, T, T, T, T, T, T, T, T, T, T, T, T, T, T, T, T, T, T, T, T, F, F, F, F, F, F, F, F, F] rfl rfl (any_of HT_.out (by kernel_rfl)) (fun _ _ _ h => h) (Or.inr ⟨by rfl, rfl⟩) ?_ ?_
        rotate_left
        ·simp only [Act.put, Zj, Zk, Zm, i64_w, i32_w]
         rfl
        refine pure_ (i := 27) (N := some 60) (v := ?_) (a' := ?_) #[T, T, T, T, T, T, T, T, T, T, T, T, T, T, T, T, T, T, T, T, T, T, T, T, T, T, T, T, F, F, F, F, F, F, F, F] rfl rfl (any_of HT_.out (by kernel_rfl)) (fun _ _ _ h => h) (Or.inl ⟨by rfl, ?_⟩) ?_ ?_
        rotate_left
        ·intro w'
         go_simp
         with_reducible rfl
        rotate_left
        ·simp only [Act.put, Zj, Zk, Zm, i64_w, i32_w]
         rfl
        refine pure_ (i := 28) (N := some 61) (v := ?_) (a' := ?_) #[T, T, T, T, T, T, T, T, T, T, T, T, T, T, T, T, T, T, T, T, T, T, T, T, T, T, T, T, T, F, F, F, F, F, F, F] rfl rfl (any_of HT_.out (by kernel_rfl)) (fun _ _ _ h => h) (Or.inl ⟨by rfl, ?_⟩) ?_ ?_
        rotate_left
        ·intro w'
         go_simp
         with_reducible rfl
        rotate_left
        ·simp only [Act.put, Zj, Zk, Zm, i64_w, i32_w]
         rfl
        refine pure_ (i := 29) (N := some 62) (v := undef) (a' := ?_) #[T, T, T, T, T, T, T, T, T, T, T, T, T, T, T, T, T, T, T, T, T, T, T, T, T, T, T, T, T, T, F, F, F, F, F, F] rfl rfl (any_of HT_.out (by kernel_rfl)) (fun _ _ _ h => h) (Or.inr ⟨by rfl, rfl⟩) ?_ ?_
        rotate_left
        ·simp only [Act.put, Zj, Zk, Zm, i64_w, i32_w]
         rfl
        refine pure_ (i := 30) (N := some 63) (v := undef) (a' := ?_) #[T, T, T, T, T, T, T, T, T, T, T, T, T, T, T, T, T, T, T, T, T, T, T, T, T, T, T, T, T, T, T, F, F, F, F, F] rfl rfl (any_of HT_.out (by kernel_rfl)) (fun _ _ _ h => h) (Or.inr ⟨by rfl, rfl⟩) ?_ ?_
        rotate_left
        ·simp only [Act.put, Zj, Zk, Zm, i64_w, i32_w]
         rfl
        refine pure_ (i := 31) (N := some 64) (v := undef) (a' := ?_) #[T, T, T, T, T, T, T, T, T, T, T, T, T, T, T, T, T, T, T, T, T, T, T, T, T, T, T, T, T, T, T, T, F, F, F, F] rfl rfl (any_of HT_.out (by kernel_rfl)) (fun _ _ _ h => h) (Or.inr ⟨by rfl, rfl⟩) ?_ ?_
        rotate_left
        ·simp only [Act.put, Zj, Zk, Zm, i64_w, i32_w]
         rfl
        refine pure_ (i := 32) (N := some 65) (v := undef) (a' := ?_) #[T, T, T, T, T, T, T, T, T, T, T, T, T, T, T, T, T, T, T, T, T, T, T, T, T, T, T, T, T, T, T, T, T, F, F, F] rfl rfl (any_of HT_.out (by kernel_rfl)) (fun _ _ _ h => h) (Or.inr ⟨by rfl, rfl⟩) ?_ ?_
        rotate_left
        ·simp only [Act.put, Zj, Zk, Zm, i64_w, i32_w]
         rfl
        refine pure_ (i := 33) (N := some 66) (v := undef) (a' := ?_) #[T, T, T, T, T, T, T, T, T, T, T, T, T, T, T, T, T, T, T, T, T, T, T, T, T, T, T, T, T, T, T, T, T, T, F, F] rfl rfl (any_of HT_.out (by kernel_rfl)) (fun _ _ _ h => h) (Or.inr ⟨by rfl, rfl⟩) ?_ ?_
        rotate_left
        ·simp only [Act.put, Zj, Zk, Zm, i64_w, i32_w]
         rfl
        refine pure_ (i := 34) (N := some 67) (v := undef) (a' := ?_) #[T, T, T, T, T, T, T, T, T, T, T, T, T, T, T, T, T, T, T, T, T, T, T, T, T, T, T, T, T, T, T, T, T, T, T, F] rfl rfl (any_of HT_.out (by kernel_rfl)) (fun _ _ _ h => h) (Or.inr ⟨by rfl, rfl⟩) ?_ ?_
        rotate_left
        ·simp only [Act.put, Zj, Zk, Zm, i64_w, i32_w]
         rfl
        refine pure_ (i := 35) (N := some 68) (v := ?_) (a' := ?_) #[T, T, T, T, T, T, T, T, T, T, T, T, T, T, T, T, T, T, T, T, T, T, T, T, T, T, T, T, T, T, T, T, T, T, T, T] rfl rfl (any_of HT_.out (by kernel_rfl)) (fun _ _ _ h => h) (Or.inl ⟨by rfl, ?_⟩) ?_ ?_
        rotate_left
        ·intro w'
         go_simp
         with_reducible rfl
        rotate_left
        ·simp only [Act.put, Zj, Zk, Zm, i64_w, i32_w]
         rfl
        refine done_ (Qa5 HT_.out (by kernel_rfl)) ?_
        try go_wp2
        go_ret3
        exact ⟨_, _, Zq, by first | exact Kd.R_nil _ _ _ _ _ | exact Kd.N_nil _ _ _ _ _ | exact Kd.V_nil _ _ _ _ _ | exact Kd.Q_nil _ _ _ _ _ | exact Kd.S_nil _ _ _ _ _, by first | exact Kd.R_nil _ _ _ _ _ | exact Kd.N_nil _ _ _ _ _ | exact Kd.V_nil _ _ _ _ _ | exact Kd.Q_nil _ _ _ _ _ | exact Kd.S_nil _ _ _ _ _, Zb⟩
       rw [if_neg c9] at H
       have c9b0 : decide ((rd l0 x10_1) < 0) = F := decide_eq_false c9
       clear c9
       by_cases c11 : (rd l0 x10_1) > 73048
       ·rw [if_pos c11] at H
        have c11b0 : decide (73048 < (rd l0 x10_1)) = T := decide_eq_true c11
        clear c11
        simp only [Option.some.injEq, Prod.mk.injEq] at H
        obtain ⟨rfl, rfl, rfl⟩ := H
        try go_wp2
        (try (rw [QaW wr]; generalize hq_ : World.drewN wr _ = wr; have n0_ : Aside0 (Below w.heap.size w wr) := ⟨by rw [← hq_]; exact (Zb)⟩; clear HB hq_; have HB := n0_; clear n0_))
        (try (rw [QaW wr]; generalize hq_ : World.drewN wr _ = wr; have n0_ : Aside0 (Below w.heap.size w wr) := ⟨by rw [← hq_]; exact (Zb)⟩; clear HB hq_; have HB := n0_; clear n0_))
        replace HB := Aside0.mk (Qab HB.out)
        have p624 : 0 ≤ (x10_1 : Int) := Ze
        have q624 : x10_1 < (l0.length : Int) := Ze
        obtain ⟨ad624, e624, hx624_0⟩ := Kd.at_int HR0.out x10_1 p624 q624
        have hw624_0 := hx624_0
        cases e624
        replace hx624_0 := Zx HB.out hx624_0
        replace p624 := eq_true p624
        replace q624 := eq_true q624
        have p625 : 0 ≤ (x10_1 : Int) := Ze
        have q625 : x10_1 < (l0.length : Int) := Ze
        obtain ⟨ad625, e625, hx625_0⟩ := Kd.at_int HR0.out x10_1 p625 q625
        have hw625_0 := hx625_0
        obtain rfl : ad624 = ad625 := (by injection e625)
        replace hx625_0 := Zx HB.out hx625_0
        replace p625 := eq_true p625
        replace q625 := eq_true q625
        refine start_ (n := 36) (S := fun w' => w'.cell? (ad624.add (x10_1).toNat) = some (.int .i64 (rd l0 x10_1)) ∧ w'.cell? (ad624.add (x10_1).toNat) = some (.int .i64 (rd l0 x10_1))) (ds := []) #[F, F, F, F, F, F, F, F, F, F, F, F, F, F, F, F, F, F, F, F, F, F, F, F, F, F, F, F, F, F, F, F, F, F, F, F] (by kernel_rfl) rfl rfl ⟨((HB.out.cell (World.block_lt_of_cell? w _ hw624_0)).trans hw624_0), ((HB.out.cell (World.block_lt_of_cell? w _ hw625_0)).trans hw625_0)⟩ (fun hHeld => ?_); refine Qa1 Qad.tab9 Qad.bits9 (fun HT_ HW_ => ?_)
        generalize wr.drew = w12 at HB hx624_0 hx625_0 hHeld ⊢
        refine pure_ (i := 0) (N := some 33) (v := ?_) (a' := ?_) #[T, F, F, F, F, F, F, F, F, F, F, F, F, F, F, F, F, F, F, F, F, F, F, F, F, F, F, F, F, F, F, F, F, F, F, F] rfl rfl (any_of HT_.out (by kernel_rfl)) (fun _ _ _ h => h) (Or.inl ⟨by rfl, ?_⟩) ?_ ?_
        rotate_left
        ·intro w'
         go_simp
         with_reducible rfl
        rotate_left
        ·simp only [Act.put, Zj, Zk, Zm, i64_w, i32_w]
         rfl
        refine pure_ (i := 1) (N := some 34) (v := ?_) (a' := ?_) #[T, T, F, F, F, F, F, F, F, F, F, F, F, F, F, F, F, F, F, F, F, F, F, F, F, F, F, F, F, F, F, F, F, F, F, F] rfl rfl (any_of HT_.out (by kernel_rfl)) (fun _ _ _ h => h) (Or.inl ⟨by rfl, ?_⟩) ?_ ?_
        rotate_left
        ·intro w'
         go_simp
         with_reducible rfl
        rotate_left
        ·simp only [Act.put, Zj, Zk, Zm, i64_w, i32_w]
         rfl
        refine pure_ (i := 2) (N := some 35) (v := ?_) (a' := ?_) #[T, T, T, F, F, F, F, F, F, F, F, F, F, F, F, F, F, F, F, F, F, F, F, F, F, F, F, F, F, F, F, F, F, F, F, F] rfl rfl (any_of HT_.out (by kernel_rfl)) (fun _ _ _ h => h) (Or.inl ⟨by rfl, ?_⟩) ?_ ?_
        rotate_left
        ·intro w'
         go_simp
         with_reducible rfl
        rotate_left
        ·simp only [Act.put, Zj, Zk, Zm, i64_w, i32_w]
         rfl
        refine take_ (i := 3) (N := some 36) (v := ?_) (a' := ?_) #[T, T, T, T, F, F, F, F, F, F, F, F, F, F, F, F, F, F, F, F, F, F, F, F, F, F, F, F, F, F, F, F, F, F, F, F] rfl rfl (QaH HT_.out HW_.out (by kernel_rfl)) (fun _ _ _ h => h) (Or.inl ⟨by rfl, ?_⟩) hHeld ?_ ?_
        rotate_left
        ·rintro w' ⟨s0, s1⟩
         go_simp
         with_reducible rfl
        rotate_left
        ·simp only [Act.put, Zj, Zk, Zm, i64_w, i32_w]
         rfl
        refine pure_ (i := 4) (N := some 37) (v := ?_) (a' := ?_) #[T, T, T, T, T, F, F, F, F, F, F, F, F, F, F, F, F, F, F, F, F, F, F, F, F, F, F, F, F, F, F, F, F, F, F, F] rfl rfl (any_of HT_.out (by kernel_rfl)) (fun _ _ _ h => h) (Or.inl ⟨by rfl, ?_⟩) ?_ ?_
        rotate_left
        ·intro w'
         go_simp
         with_reducible rfl
        rotate_left
        ·simp only [Act.put, Zj, Zk, Zm, i64_w, i32_w]
         rfl
        refine pure_ (i := 5) (N := some 38) (v := ?_) (a' := ?_) #[T, T, T, T, T, T, F, F, F, F, F, F, F, F, F, F, F, F, F, F, F, F, F, F, F, F, F, F, F, F, F, F, F, F, F, F] rfl rfl (any_of HT_.out (by kernel_rfl)) (fun _ _ _ h => h) (Or.inl ⟨by rfl, ?_⟩) ?_ ?_
        rotate_left
        ·intro w'
         go_simp
         with_reducible rfl
        rotate_left
        ·simp only [Act.put, Zj, Zk, Zm, i64_w, i32_w]
         rfl
        refine pure_ (i := 6) (N := some 39) (v := ?_) (a' := ?_) #[T, T, T, T, T, T, T, F, F, F, F, F, F, F, F, F, F, F, F, F, F, F, F, F, F, F, F, F, F, F, F, F, F, F, F, F] rfl rfl (any_of HT_.out (by kernel_rfl)) (fun _ _ _ h => h) (Or.inl ⟨by rfl, ?_⟩) ?_ ?_
        rotate_left
        ·intro w'
         go_simp
         with_reducible rfl
        rotate_left
        ·simp only [Act.put, Zj, Zk, Zm, i64_w, i32_w]
         rfl
        refine pure_ (i := 7) (N := some 40) (v := ?_) (a' := ?_) #[T, T, T, T, T, T, T, T, F, F, F, F, F, F, F, F, F, F, F, F, F, F, F, F, F, F, F, F, F, F, F, F, F, F, F, F] rfl rfl (any_of HT_.out (by kernel_rfl)) (fun _ _ _ h => h) (Or.inl ⟨by rfl, ?_⟩) ?_ ?_
        rotate_left
        ·intro w'
         go_simp
         with_reducible rfl
        rotate_left
        ·simp only [Act.put, Zj, Zk, Zm, i64_w, i32_w]
         rfl
        refine pure_ (i := 8) (N := some 41) (v := ?_) (a' := ?_) #[T, T, T, T, T, T, T, T, T, F, F, F, F, F, F, F, F, F, F, F, F, F, F, F, F, F, F, F, F, F, F, F, F, F, F, F] rfl rfl (any_of HT_.out (by kernel_rfl)) (fun _ _ _ h => h) (Or.inl ⟨by rfl, ?_⟩) ?_ ?_
        rotate_left
        ·intro w'
         go_simp
         with_reducible rfl
        rotate_left
        ·simp only [Act.put, Zj, Zk, Zm, i64_w, i32_w]
         rfl
        refine take_ (i := 9) (N := some 42) (v := ?_) (a' := ?_) #[T, T, T, T, T, T, T, T, T, T, F, F, F, F, F, F, F, F, F, F, F, F, F, F, F, F, F, F, F, F, F, F, F, F, F, F] rfl rfl (QaH HT_.out HW_.out (by kernel_rfl)) (fun _ _ _ h => h) (Or.inl ⟨by rfl, ?_⟩) hHeld ?_ ?_
        rotate_left
        ·rintro w' ⟨s0, s1⟩
         go_simp
         with_reducible rfl
        rotate_left
        ·simp only [Act.put, Zj, Zk, Zm, i64_w, i32_w]
         rfl
        refine pure_ (i := 10) (N := some 43) (v := ?_) (a' := ?_) #[T, T, T, T, T, T, T, T, T, T, T, F, F, F, F, F, F, F, F, F, F, F, F, F, F, F, F, F, F, F, F, F, F, F, F, F] rfl rfl (any_of HT_.out (by kernel_rfl)) (fun _ _ _ h => h) (Or.inl ⟨by rfl, ?_⟩) ?_ ?_
        rotate_left
        ·intro w'
         go_simp
         with_reducible rfl
        rotate_left
        ·simp only [Act.put, Zj, Zk, Zm, i64_w, i32_w]
         rfl
        refine pure_ (i := 11) (N := some 44) (v := ?_) (a' := ?_) #[T, T, T, T, T, T, T, T, T, T, T, T, F, F, F, F, F, F, F, F, F, F, F, F, F, F, F, F, F, F, F, F, F, F, F, F] rfl rfl (any_of HT_.out (by kernel_rfl)) (fun _ _ _ h => h) (Or.inl ⟨by rfl, ?_⟩) ?_ ?_
        rotate_left
        ·intro w'
         go_simp
         with_reducible rfl
        rotate_left
        ·simp only [Act.put, Zj, Zk, Zm, i64_w, i32_w]
         rfl
        refine pure_ (i := 12) (N := some 45) (v := ?_) (a' := ?_) #[T, T, T, T, T, T, T, T, T, T, T, T, T, F, F, F, F, F, F, F, F, F, F, F, F, F, F, F, F, F, F, F, F, F, F, F] rfl rfl (any_of HT_.out (by kernel_rfl)) (fun _ _ _ h => h) (Or.inl ⟨by rfl, ?_⟩) ?_ ?_
        rotate_left
        ·intro w'
         go_simp
         with_reducible rfl
        rotate_left
        ·simp only [Act.put, Zj, Zk, Zm, i64_w, i32_w]
         rfl
        refine pure_ (i := 13) (N := some 46) (v := undef) (a' := ?_) #[T, T, T, T, T, T, T, T, T, T, T, T, T, T, F, F, F, F, F, F, F, F, F, F, F, F, F, F, F, F, F, F, F, F, F, F] rfl rfl (any_of HT_.out (by kernel_rfl)) (fun _ _ _ h => h) (Or.inr ⟨by rfl, rfl⟩) ?_ ?_
        rotate_left
        ·simp only [Act.put, Zj, Zk, Zm, i64_w, i32_w]
         rfl
        refine pure_ (i := 14) (N := some 47) (v := undef) (a' := ?_) #[T, T, T, T, T, T, T, T, T, T, T, T, T, T, T, F, F, F, F, F, F, F, F, F, F, F, F, F, F, F, F, F, F, F, F, F] rfl rfl (any_of HT_.out (by kernel_rfl)) (fun _ _ _ h => h) (Or.inr ⟨by rfl, rfl⟩) ?_ ?_
        rotate_left
        ·simp only [Act.put, Zj, Zk, Zm, i64_w, i32_w]
         rfl
        refine pure_ (i := 15) (N := some 48) (v := undef) (a' := ?_) #[T, T, T, T, T, T, T, T, T, T, T, T, T, T, T, T, F, F, F, F, F, F, F, F, F, F, F, F, F, F, F, F, F, F, F, F] rfl rfl (any_of HT_.out (by kernel_rfl)) (fun _ _ _ h => h) (Or.inr ⟨by rfl, rfl⟩) ?_ ?_
        rotate_left
        ·simp only [Act.put, Zj, Zk, Zm, i64_w, i32_w]
         rfl
        refine pure_ (i := 16) (N := some 49) (v := undef) (a' := ?_) #[T, T, T, T, T, T, T, T, T, T, T, T, T, T, T, T, T, F, F, F, F, F, F, F, F, F, F, F, F, F, F, F, F, F, F, F] rfl rfl (any_of HT_.out (by kernel_rfl)) (fun _ _ _ h => h) (Or.inr ⟨by rfl, rfl⟩) ?_ ?_
        rotate_left
        ·simp only [Act.put, Zj, Zk, Zm, i64_w, i32_w]
         rfl
        refine pure_ (i := 17) (N := some 50) (v := undef) (a' := ?_) #[T, T, T, T, T, T, T, T, T, T, T, T, T, T, T, T, T, T, F, F, F, F, F, F, F, F, F, F, F, F, F, F, F, F, F, F] rfl rfl (any_of HT_.out (by kernel_rfl)) (fun _ _ _ h => h) (Or.inr ⟨by rfl, rfl⟩) ?_ ?_
        rotate_left
        ·simp only [Act.put, Zj, Zk, Zm, i64_w, i32_w]
         rfl
        refine pure_ (i := 18) (N := some 51) (v := undef) (a' := ?_) #[T, T, T, T, T, T, T, T, T, T, T, T, T, T, T, T, T, T, T, F, F, F, F, F, F, F, F, F, F, F, F, F, F, F, F, F] rfl rfl (any_of HT_.out (by kernel_rfl)) (fun _ _ _ h => h) (Or.inr ⟨by rfl, rfl⟩) ?_ ?_
        rotate_left
        ·simp only [Act.put, Zj, Zk, Zm, i64_w, i32_w]
         rfl
        refine pure_ (i := 19) (N := some 52) (v := undef) (a' := ?_) #[T, T, T, T, T, T, T, T, T, T, T, T, T, T, T, T, T, T, T, T, F, F, F, F, F, F, F, F, F, F, F, F, F, F, F, F] rfl rfl (any_of HT_.out (by kernel_rfl)) (fun _ _ _ h => h) (Or.inr ⟨by rfl, rfl⟩) ?_ ?_
        rotate_left
        ·simp only [Act.put, Zj, Zk, Zm, i64_w, i32_w]
         rfl
        refine pure_ (i := 20) (N := some 53) (v := undef) (a' := ?_) #[T, T, T, T, T, T, T, T, T, T, T, T, T, T, T, T, T, T, T, T, T, F, F, F, F, F, F, F, F, F, F, F, F, F, F, F] rfl rfl (any_of HT_.out (by kernel_rfl)) (fun _ _ _ h => h) (Or.inr ⟨by rfl, rfl⟩) ?_ ?_
        rotate_left
        ·simp only [Act.put, Zj, Zk, Zm, i64_w, i32_w]
         rfl
        refine pure_ (i := 21) (N := some 54) (v := undef) (a' := ?_) #[T, T, T, T, T, T, T, T, T, T, T, T, T, T, T, T, T, T, T, T, T, T, F, F, F, F, F, F, F, F, F, F, F, F, F, F] rfl rfl (any_of HT_.out (by kernel_rfl)) (fun _ _ _ h => h) (Or.inr ⟨by rfl, rfl⟩) ?_ ?_
        rotate_left
        ·simp only [Act.put, Zj, Zk, Zm, i64_w, i32_w]
         rfl
        refine pure_ (i := 22) (N := some 55) (v := undef) (a' := ?_) #[T, T, T, T, T, T, T, T, T, T, T, T, T, T, T, T, T, T, T, T, T, T, T, F, F, F, F, F, F, F, F, F, F, F, F, F] rfl rfl (any_of HT_.out (by kernel_rfl)) (fun _ _ _ h => h) (Or.inr ⟨by rfl, rfl⟩) ?_ ?_
        rotate_left
        ·simp only [Act.put, Zj, Zk, Zm, i64_w, i32_w]
         rfl
        refine pure_ (i := 23) (N := some 56) (v := undef) (a' := ?_) #[T, T, T, T, T, T, T, T, T, T, T, T, T, T, T, T, T, T, T, T, T, T, T, T, F, F, F, F, F, F, F, F, F, F, F, F] rfl rfl (any_of HT_.out (by kernel_rfl)) (fun _ _ _ h => h) (Or.inr ⟨by rfl, rfl⟩) ?_ ?_
        rotate_left
        ·simp only [Act.put, Zj, Zk, Zm, i64_w, i32_w]
         rfl
        refine pure_ (i := 24) (N := some 57) (v := undef) (a' := ?_) #[T, T, T, T, T, T, T, T, T, T, T, T, T, T, T, T, T, T, T, T, T, T, T, T, T, F, F, F, F, F, F, F, F, F, F, F] rfl rfl (any_of HT_.out (by kernel_rfl)) (fun _ _ _ h => h) (Or.inr ⟨by rfl, rfl⟩) ?_ ?_
        rotate_left
        ·simp only [Act.put, Zj, Zk, Zm, i64_w, i32_w]
         rfl
        refine pure_ (i := 25) (N := some 58) (v := undef) (a' := ?_) #[T, T, T, T, T, T, T, T, T, T, T, T, T, T, T, T, T, T, T, T, T, T, T, T, T, T, F, F, F, F, F, F, F, F, F, F] rfl rfl (any_of HT_.out (by kernel_rfl)) (fun _ _ _ h => h) (Or.inr ⟨by rfl, rfl⟩) ?_ ?_
        rotate_left
        ·simp only [Act.put, Zj, Zk, Zm, i64_w, i32_w]
         rfl
        refine pure_ (i := 26) (N := some 59) (v := undef) (a' := ?_) #[T, T, T, T, T, T, T, T, T, T, T, T, T, T, T, T, T, T, T, T, T, T, T, T, T, T, T, F, F, F, F, F, F, F, F, F] rfl rfl (any_of HT_.out (by kernel_rfl)) (fun _ _ _ h => h) (Or.inr ⟨by rfl, rfl⟩) ?_ ?_
        rotate_left
        ·simp only [Act.put, Zj, Zk, Zm, i64_w, i32_w]
         rfl
        refine pure_ (i := 27) (N := some 60) (v := ?_) (a' := ?_) #[T, T, T, T, T, T, T, T, T, T, T, T, T, T, T, T, T, T, T, T, T, T, T, T, T, T, T, T, F, F, F, F, F, F, F, F] rfl rfl (any_of HT_.out (by kernel_rfl)) (fun _ _ _ h => h) (Or.inl ⟨by rfl, ?_⟩) ?_ ?_
        rotate_left
        ·intro w'
         go_simp
         with_reducible rfl
        rotate_left
        ·simp only [Act.put, Zj, Zk, Zm, i64_w, i32_w]
         rfl
        refine pure_ (i := 28) (N := some 61) (v := ?_) (a' := ?_) #[T, T, T, T, T, T, T, T, T, T, T, T, T, T, T, T, T, T, T, T, T, T, T, T, T, T, T, T, T, F, F, F, F, F, F, F] rfl rfl (any_of HT_.out (by kernel_rfl)) (fun _ _ _ h => h) (Or.inl ⟨by rfl, ?_⟩) ?_ ?_
        rotate_left
        ·intro w'
         go_simp
         with_reducible rfl
        rotate_left
        ·simp only [Act.put, Zj, Zk, Zm, i64_w, i32_w]
         rfl
        refine pure_ (i := 29) (N := some 62) (v := undef) (a' := ?_) #[T, T, T, T, T, T, T, T, T, T, T, T, T, T, T, T, T, T, T, T, T, T, T, T, T, T, T, T, T, T, F, F, F, F, F, F] rfl rfl (any_of HT_.out (by kernel_rfl)) (fun _ _ _ h => h) (Or.inr ⟨by rfl, rfl⟩) ?_ ?_
        rotate_left
        ·simp only [Act.put, Zj, Zk, Zm, i64_w, i32_w]
         rfl
        refine pure_ (i := 30) (N := some 63) (v := undef) (a' := ?_) #[T, T, T, T, T, T, T, T, T, T, T, T, T, T, T, T, T, T, T, T, T, T, T, T, T, T, T, T, T, T, T, F, F, F, F, F] rfl rfl (any_of HT_.out (by kernel_rfl)) (fun _ _ _ h => h) (Or.inr ⟨by rfl, rfl⟩) ?_ ?_
        rotate_left
        ·simp only [Act.put, Zj, Zk, Zm, i64_w, i32_w]
         rfl
        refine pure_ (i := 31) (N := some 64) (v := undef) (a' := ?_) #[T, T, T, T, T, T, T, T, T, T, T, T, T, T, T, T, T, T, T, T, T, T, T, T, T, T, T, T, T, T, T, T, F, F, F, F] rfl rfl (any_of HT_.out (by kernel_rfl)) (fun _ _ _ h => h) (Or.inr ⟨by rfl, rfl⟩) ?_ ?_
        rotate_left
        ·simp only [Act.put, Zj, Zk, Zm, i64_w, i32_w]
         rfl
        refine pure_ (i := 32) (N := some 65) (v := undef) (a' := ?_) #[T, T, T, T, T, T, T, T, T, T, T, T, T, T, T, T, T, T, T, T, T, T, T, T, T, T, T, T, T, T, T, T, T, F, F, F] rfl rfl (any_of HT_.out (by kernel_rfl)) (fun _ _ _ h => h) (Or.inr ⟨by rfl, rfl⟩) ?_ ?_
        rotate_left
        ·simp only [Act.put, Zj, Zk, Zm, i64_w, i32_w]
         rfl
        refine pure_ (i := 33) (N := some 66) (v := undef) (a' := ?_) #[T, T, T, T, T, T, T, T, T, T, T, T, T, T, T, T, T, T, T, T, T, T, T, T, T, T, T, T, T, T, T, T, T, T, F, F] rfl rfl (any_of HT_.out (by kernel_rfl)) (fun _ _ _ h => h) (Or.inr ⟨by rfl, rfl⟩) ?_ ?_
        rotate_left
        ·simp only [Act.put, Zj, Zk, Zm, i64_w, i32_w]
         rfl
        refine pure_ (i := 34) (N := some 67) (v := undef) (a' := ?_) #[T, T, T, T, T, T, T, T, T, T, T, T, T, T, T, T, T, T, T, T, T, T, T, T, T, T, T, T, T, T, T, T, T, T, T, F] rfl rfl (any_of HT_.out (by kernel_rfl)) (fun _ _ _ h => h) (Or.inr ⟨by rfl, rfl⟩) ?_ ?_
        rotate_left
        ·simp only [Act.put, Zj, Zk, Zm, i64_w, i32_w]
         rfl
        refine pure_ (i := 35) (N := some 68) (v := ?_) (a' := ?_) #[T, T, T, T, T, T, T, T, T, T, T, T, T, T, T, T, T, T, T, T, T, T, T, T, T, T, T, T, T, T, T, T, T, T, T, T] rfl rfl (any_of HT_.out (by kernel_rfl)) (fun _ _ _ h => h) (Or.inl ⟨by rfl, ?_⟩) ?_ ?_
        rotate_left
        ·intro w'
         go_simp
         with_reducible rfl
        rotate_left
        ·simp only [Act.put, Zj, Zk, Zm, i64_w, i32_w]
         rfl
        refine done_ (Qa5 HT_.out (by kernel_rfl)) ?_
        try go_wp2
        go_ret3
        exact ⟨_, _, Zq, by first | exact Kd.R_nil _ _ _ _ _ | exact Kd.N_nil _ _ _ _ _ | exact Kd.V_nil _ _ _ _ _ | exact Kd.Q_nil _ _ _ _ _ | exact Kd.S_nil _ _ _ _ _, by first | exact Kd.R_nil _ _ _ _ _ | exact Kd.N_nil _ _ _ _ _ | exact Kd.V_nil _ _ _ _ _ | exact Kd.Q_nil _ _ _ _ _ | exact Kd.S_nil _ _ _ _ _, Zb⟩
       rw [if_neg c11] at H
       have c11b0 : decide (73048 < (rd l0 x10_1)) = F := decide_eq_false c11
       clear c11
       by_cases c13 : x10_1 > 0
       ·rw [if_pos c13] at H
        have c13b0 : decide (0 < x10_1) = T := decide_eq_true c13
        clear c13
        obtain ⟨ji14, hji14⟩ : ∃ j_ : Int, (wrap64 (x10_1 - 1)) = j_ := ⟨_, rfl⟩
        replace H : (if 0 ≤ (ji14) then (if (ji14) < (l0.length : Int) then (if (rd l0 x10_1) ≤ (rd l0 (ji14)) then (some (([] : List Int), ([] : List Int), 2)) else (if x10_1 < (l1.length : Int) then ((QaS.f (rd l1 x10_1)).bind fun t629 => (if t629 = T then (Qad.l0 k1 l0 l1 l2 (wrap64 (x10_1 + 1))) else (some (([] : List Int), ([] : List Int), 2)))) else (none))) else (none)) else (none)) = some (r1, r2, r3) := by first | (rw [hji14] at H; exact H) | (simp only [hji14] at H ⊢; exact H)
        have hji14w : (IntKind.i64.wrap (x10_1 - 1)) = ji14 := (i64_w _).trans hji14
        by_cases c15 : 0 ≤ (ji14)
        ·rw [if_pos c15] at H
         have c15b0 : decide (0 ≤ (ji14)) = T := decide_eq_true c15
         clear c15
         by_cases c16 : (ji14) < (l0.length : Int)
         ·rw [if_pos c16] at H
          have c16b0 : decide ((ji14) < (l0.length : Int)) = T := decide_eq_true c16
          clear c16
          by_cases c17 : (rd l0 x10_1) ≤ (rd l0 (ji14))
          ·rw [if_pos c17] at H
           have c17b0 : decide ((rd l0 x10_1) ≤ (rd l0 (ji14))) = T := decide_eq_true c17
           clear c17
           simp only [Option.some.injEq, Prod.mk.injEq] at H
           obtain ⟨rfl, rfl, rfl⟩ := H
           try go_wp2
           (try (rw [QaW wr]; generalize hq_ : World.drewN wr _ = wr; have n0_ : Aside0 (Below w.heap.size w wr) := ⟨by rw [← hq_]; exact (Zb)⟩; clear HB hq_; have HB := n0_; clear n0_))
           (try (rw [QaW wr]; generalize hq_ : World.drewN wr _ = wr; have n0_ : Aside0 (Below w.heap.size w wr) := ⟨by rw [← hq_]; exact (Zb)⟩; clear HB hq_; have HB := n0_; clear n0_))
           replace HB := Aside0.mk (Qab HB.out)
           have p624 : 0 ≤ (x10_1 : Int) := Ze
           have q624 : x10_1 < (l0.length : Int) := Ze
           obtain ⟨ad624, e624, hx624_0⟩ := Kd.at_int HR0.out x10_1 p624 q624
           have hw624_0 := hx624_0
           cases e624
           replace hx624_0 := Zx HB.out hx624_0
           replace p624 := eq_true p624
           replace q624 := eq_true q624
           have p625 : 0 ≤ (x10_1 : Int) := Ze
           have q625 : x10_1 < (l0.length : Int) := Ze
           obtain ⟨ad625, e625, hx625_0⟩ := Kd.at_int HR0.out x10_1 p625 q625
           have hw625_0 := hx625_0
           obtain rfl : ad624 = ad625 := (by injection e625)
           replace hx625_0 := Zx HB.out hx625_0
           replace p625 := eq_true p625
           replace q625 := eq_true q625
           have p626 : 0 ≤ (x10_1 : Int) := Ze
           have q626 : x10_1 < (l0.length : Int) := Ze
           obtain ⟨ad626, e626, hx626_0⟩ := Kd.at_int HR0.out x10_1 p626 q626
           have hw626_0 := hx626_0
           obtain rfl : ad624 = ad626 := (by injection e626)
           replace hx626_0 := Zx HB.out hx626_0
           replace p626 := eq_true p626
           replace q626 := eq_true q626
           have p627 : 0 ≤ ((ji14) : Int) := Ze
           have q627 : (ji14) < (l0.length : Int) := Ze
           obtain ⟨ad627, e627, hx627_0⟩ := Kd.at_int HR0.out (ji14) p627 q627
           have hw627_0 := hx627_0
           obtain rfl : ad624 = ad627 := (by injection e627)
           replace hx627_0 := Zx HB.out hx627_0
           replace p627 := eq_true p627
           replace q627 := eq_true q627
           refine start_ (n := 36) (S := fun w' => w'.cell? (ad624.add (x10_1).toNat) = some (.int .i64 (rd l0 x10_1)) ∧ w'.cell? (ad624.add (x10_1).toNat) = some (.int .i64 (rd l0 x10_1)) ∧ w'.cell? (ad624.add (x10_1).toNat) = some (.int .i64 (rd l0 x10_1)) ∧ w'.cell? (ad624.add ((ji14)).toNat) = some (.int .i64 (rd l0 (ji14)))) (ds := []) #[F, F, F, F, F, F, F, F, F, F, F, F, F, F, F, F, F, F, F, F, F, F, F, F, F, F, F, F, F, F, F, F, F, F, F, F] (by kernel_rfl) rfl rfl ⟨((HB.out.cell (World.block_lt_of_cell? w _ hw624_0)).trans hw624_0), ((HB.out.cell (World.block_lt_of_cell? w _ hw625_0)).trans hw625_0), ((HB.out.cell (World.block_lt_of_cell? w _ hw626_0)).trans hw626_0), ((HB.out.cell (World.block_lt_of_cell? w _ hw627_0)).trans hw627_0)⟩ (fun hHeld => ?_); refine Qa1 Qad.tab9 Qad.bits9 (fun HT_ HW_ => ?_)
           generalize wr.drew = w18 at HB hx624_0 hx625_0 hx626_0 hx627_0 hHeld ⊢
           refine pure_ (i := 0) (N := some 33) (v := ?_) (a' := ?_) #[T, F, F, F, F, F, F, F, F, F, F, F, F, F, F, F, F, F, F, F, F, F, F, F, F, F, F, F, F, F, F, F, F, F, F, F] rfl rfl (any_of HT_.out (by kernel_rfl)) (fun _ _ _ h => h) (Or.inl ⟨by rfl, ?_⟩) ?_ ?_
           rotate_left
           ·intro w'
            go_simp
            with_reducible rfl
           rotate_left
           ·simp only [Act.put, Zj, Zk, Zm, i64_w, i32_w]
            rfl
           refine pure_ (i := 1) (N := some 34) (v := ?_) (a' := ?_) #[T, T, F, F, F, F, F, F, F, F, F, F, F, F, F, F, F, F, F, F, F, F, F, F, F, F, F, F, F, F, F, F, F, F, F, F] rfl rfl (any_of HT_.out (by kernel_rfl)) (fun _ _ _ h => h) (Or.inl ⟨by rfl, ?_⟩) ?_ ?_
           rotate_left
           ·intro w'
            go_simp
            with_reducible rfl
           rotate_left
           ·simp only [Act.put, Zj, Zk, Zm, i64_w, i32_w]
            rfl
           refine pure_ (i := 2) (N := some 35) (v := ?_) (a' := ?_) #[T, T, T, F, F, F, F, F, F, F, F, F, F, F, F, F, F, F, F, F, F, F, F, F, F, F, F, F, F, F, F, F, F, F, F, F] rfl rfl (any_of HT_.out (by kernel_rfl)) (fun _ _ _ h => h) (Or.inl ⟨by rfl, ?_⟩) ?_ ?_
           rotate_left
           ·intro w'
            go_simp
            with_reducible rfl
           rotate_left
           ·simp only [Act.put, Zj, Zk, Zm, i64_w, i32_w]
            rfl
           refine take_ (i := 3) (N := some 36) (v := ?_) (a' := ?_) #[T, T, T, T, F, F, F, F, F, F, F, F, F, F, F, F, F, F, F, F, F, F, F, F, F, F, F, F, F, F, F, F, F, F, F, F] rfl rfl (QaH HT_.out HW_.out (by kernel_rfl)) (fun _ _ _ h => h) (Or.inl ⟨by rfl, ?_⟩) hHeld ?_ ?_
           rotate_left
           ·rintro w' ⟨s0, s1, s2, s3⟩
            go_simp
            with_reducible rfl
           rotate_left
           ·simp only [Act.put, Zj, Zk, Zm, i64_w, i32_w]
            rfl
           refine pure_ (i := 4) (N := some 37) (v := ?_) (a' := ?_) #[T, T, T, T, T, F, F, F, F, F, F, F, F, F, F, F, F, F, F, F, F, F, F, F, F, F, F, F, F, F, F, F, F, F, F, F] rfl rfl (any_of HT_.out (by kernel_rfl)) (fun _ _ _ h => h) (Or.inl ⟨by rfl, ?_⟩) ?_ ?_
           rotate_left
           ·intro w'
            go_simp
            with_reducible rfl
           rotate_left
           ·simp only [Act.put, Zj, Zk, Zm, i64_w, i32_w]
            rfl
           refine pure_ (i := 5) (N := some 38) (v := ?_) (a' := ?_) #[T, T, T, T, T, T, F, F, F, F, F, F, F, F, F, F, F, F, F, F, F, F, F, F, F, F, F, F, F, F, F, F, F, F, F, F] rfl rfl (any_of HT_.out (by kernel_rfl)) (fun _ _ _ h => h) (Or.inl ⟨by rfl, ?_⟩) ?_ ?_
           rotate_left
           ·intro w'
            go_simp
            with_reducible rfl
           rotate_left
           ·simp only [Act.put, Zj, Zk, Zm, i64_w, i32_w]
            rfl
           refine pure_ (i := 6) (N := some 39) (v := ?_) (a' := ?_) #[T, T, T, T, T, T, T, F, F, F, F, F, F, F, F, F, F, F, F, F, F, F, F, F, F, F, F, F, F, F, F, F, F, F, F, F] rfl rfl (any_of HT_.out (by kernel_rfl)) (fun _ _ _ h => h) (Or.inl ⟨by rfl, ?_⟩) ?_ ?_
           rotate_left
           ·intro w'
            go_simp
            with_reducible rfl
           rotate_left
           ·simp only [Act.put, Zj, Zk, Zm, i64_w, i32_w]
            rfl
           refine pure_ (i := 7) (N := some 40) (v := ?_) (a' := ?_) #[T, T, T, T, T, T, T, T, F, F, F, F, F, F, F, F, F, F, F, F, F, F, F, F, F, F, F, F, F, F, F, F, F, F, F, F] rfl rfl (any_of HT_.out (by kernel_rfl)) (fun _ _ _ h => h) (Or.inl ⟨by rfl, ?_⟩) ?_ ?_
           rotate_left
           ·intro w'
            go_simp
            with_reducible rfl
           rotate_left
           ·simp only [Act.put, Zj, Zk, Zm, i64_w, i32_w]
            rfl
           refine pure_ (i := 8) (N := some 41) (v := ?_) (a' := ?_) #[T, T, T, T, T, T, T, T, T, F, F, F, F, F, F, F, F, F, F, F, F, F, F, F, F, F, F, F, F, F, F, F, F, F, F, F] rfl rfl (any_of HT_.out (by kernel_rfl)) (fun _ _ _ h => h) (Or.inl ⟨by rfl, ?_⟩) ?_ ?_
           rotate_left
           ·intro w'
            go_simp
            with_reducible rfl
           rotate_left
           ·simp only [Act.put, Zj, Zk, Zm, i64_w, i32_w]
            rfl
           refine take_ (i := 9) (N := some 42) (v := ?_) (a' := ?_) #[T, T, T, T, T, T, T, T, T, T, F, F, F, F, F, F, F, F, F, F, F, F, F, F, F, F, F, F, F, F, F, F, F, F, F, F] rfl rfl (QaH HT_.out HW_.out (by kernel_rfl)) (fun _ _ _ h => h) (Or.inl ⟨by rfl, ?_⟩) hHeld ?_ ?_
           rotate_left
           ·rintro w' ⟨s0, s1, s2, s3⟩
            go_simp
            with_reducible rfl
           rotate_left
           ·simp only [Act.put, Zj, Zk, Zm, i64_w, i32_w]
            rfl
           refine pure_ (i := 10) (N := some 43) (v := ?_) (a' := ?_) #[T, T, T, T, T, T, T, T, T, T, T, F, F, F, F, F, F, F, F, F, F, F, F, F, F, F, F, F, F, F, F, F, F, F, F, F] rfl rfl (any_of HT_.out (by kernel_rfl)) (fun _ _ _ h => h) (Or.inl ⟨by rfl, ?_⟩) ?_ ?_
           rotate_left
           ·intro w'
            go_simp
            with_reducible rfl
           rotate_left
           ·simp only [Act.put, Zj, Zk, Zm, i64_w, i32_w]
            rfl
           refine pure_ (i := 11) (N := some 44) (v := ?_) (a' := ?_) #[T, T, T, T, T, T, T, T, T, T, T, T, F, F, F, F, F, F, F, F, F, F, F, F, F, F, F, F, F, F, F, F, F, F, F, F] rfl rfl (any_of HT_.out (by kernel_rfl)) (fun _ _ _ h => h) (Or.inl ⟨by rfl, ?_⟩) ?_ ?_
           rotate_left
           ·intro w'
            go_simp
            with_reducible rfl
           rotate_left
           ·simp only [Act.put, Zj, Zk, Zm, i64_w, i32_w]
            rfl
           refine pure_ (i := 12) (N := some 45) (v := ?_) (a' := ?_) #[T, T, T, T, T, T, T, T, T, T, T, T, T, F, F, F, F, F, F, F, F, F, F, F, F, F, F, F, F, F, F, F, F, F, F, F] rfl rfl (any_of HT_.out (by kernel_rfl)) (fun _ _ _ h => h) (Or.inl ⟨by rfl, ?_⟩) ?_ ?_
           rotate_left
           ·intro w'
            go_simp
            with_reducible rfl
           rotate_left
           ·simp only [Act.put, Zj, Zk, Zm, i64_w, i32_w]
            rfl
           refine pure_ (i := 13) (N := some 46) (v := ?_) (a' := ?_) #[T, T, T, T, T, T, T, T, T, T, T, T, T, T, F, F, F, F, F, F, F, F, F, F, F, F, F, F, F, F, F, F, F, F, F, F] rfl rfl (any_of HT_.out (by kernel_rfl)) (fun _ _ _ h => h) (Or.inl ⟨by rfl, ?_⟩) ?_ ?_
           rotate_left
           ·intro w'
            go_simp
            with_reducible rfl
           rotate_left
           ·simp only [Act.put, Zj, Zk, Zm, i64_w, i32_w]
            rfl
           refine pure_ (i := 14) (N := some 47) (v := ?_) (a' := ?_) #[T, T, T, T, T, T, T, T, T, T, T, T, T, T, T, F, F, F, F, F, F, F, F, F, F, F, F, F, F, F, F, F, F, F, F, F] rfl rfl (any_of HT_.out (by kernel_rfl)) (fun _ _ _ h => h) (Or.inl ⟨by rfl, ?_⟩) ?_ ?_
           rotate_left
           ·intro w'
            go_simp
            with_reducible rfl
           rotate_left
           ·simp only [Act.put, Zj, Zk, Zm, i64_w, i32_w]
            rfl
           refine pure_ (i := 15) (N := some 48) (v := ?_) (a' := ?_) #[T, T, T, T, T, T, T, T, T, T, T, T, T, T, T, T, F, F, F, F, F, F, F, F, F, F, F, F, F, F, F, F, F, F, F, F] rfl rfl (any_of HT_.out (by kernel_rfl)) (fun _ _ _ h => h) (Or.inl ⟨by rfl, ?_⟩) ?_ ?_
           rotate_left
           ·intro w'
            go_simp
            with_reducible rfl
           rotate_left
           ·simp only [Act.put, Zj, Zk, Zm, i64_w, i32_w]
            rfl
           refine pure_ (i := 16) (N := some 49) (v := ?_) (a' := ?_) #[T, T, T, T, T, T, T, T, T, T, T, T, T, T, T, T, T, F, F, F, F, F, F, F, F, F, F, F, F, F, F, F, F, F, F, F] rfl rfl (any_of HT_.out (by kernel_rfl)) (fun _ _ _ h => h) (Or.inl ⟨by rfl, ?_⟩) ?_ ?_
           rotate_left
           ·intro w'
            go_simp
            with_reducible rfl
           rotate_left
           ·simp only [Act.put, Zj, Zk, Zm, i64_w, i32_w]
            rfl
           refine pure_ (i := 17) (N := some 50) (v := ?_) (a' := ?_) #[T, T, T, T, T, T, T, T, T, T, T, T, T, T, T, T, T, T, F, F, F, F, F, F, F, F, F, F, F, F, F, F, F, F, F, F] rfl rfl (any_of HT_.out (by kernel_rfl)) (fun _ _ _ h => h) (Or.inl ⟨by rfl, ?_⟩) ?_ ?_
           rotate_left
           ·intro w'
            go_simp
            with_reducible rfl
           rotate_left
           ·simp only [Act.put, Zj, Zk, Zm, i64_w, i32_w]
            rfl
           refine pure_ (i := 18) (N := some 51) (v := ?_) (a' := ?_) #[T, T, T, T, T, T, T, T, T, T, T, T, T, T, T, T, T, T, T, F, F, F, F, F, F, F, F, F, F, F, F, F, F, F, F, F] rfl rfl (any_of HT_.out (by kernel_rfl)) (fun _ _ _ h => h) (Or.inl ⟨by rfl, ?_⟩) ?_ ?_
           rotate_left
           ·intro w'
            go_simp
            with_reducible rfl
           rotate_left
           ·simp only [Act.put, Zj, Zk, Zm, i64_w, i32_w]
            rfl
           refine pure_ (i := 20) (N := some 53) (v := ?_) (a' := ?_) #[T, T, T, T, T, T, T, T, T, T, T, T, T, T, T, T, T, T, T, F, T, F, F, F, F, F, F, F, F, F, F, F, F, F, F, F] rfl rfl (any_of HT_.out (by kernel_rfl)) (fun _ _ _ h => h) (Or.inl ⟨by rfl, ?_⟩) ?_ ?_
           rotate_left
           ·intro w'
            go_simp
            with_reducible rfl
           rotate_left
           ·simp only [Act.put, Zj, Zk, Zm, i64_w, i32_w]
            rfl
           refine pure_ (i := 21) (N := some 54) (v := ?_) (a' := ?_) #[T, T, T, T, T, T, T, T, T, T, T, T, T, T, T, T, T, T, T, F, T, T, F, F, F, F, F, F, F, F, F, F, F, F, F, F] rfl rfl (any_of HT_.out (by kernel_rfl)) (fun _ _ _ h => h) (Or.inl ⟨by rfl, ?_⟩) ?_ ?_
           rotate_left
           ·intro w'
            go_simp
            with_reducible rfl
           rotate_left
           ·simp only [Act.put, Zj, Zk, Zm, i64_w, i32_w]
            rfl
           refine pure_ (i := 22) (N := some 55) (v := ?_) (a' := ?_) #[T, T, T, T, T, T, T, T, T, T, T, T, T, T, T, T, T, T, T, F, T, T, T, F, F, F, F, F, F, F, F, F, F, F, F, F] rfl rfl (any_of HT_.out (by kernel_rfl)) (fun _ _ _ h => h) (Or.inl ⟨by rfl, ?_⟩) ?_ ?_
           rotate_left
           ·intro w'
            go_simp
            with_reducible rfl
           rotate_left
           ·simp only [Act.put, Zj, Zk, Zm, i64_w, i32_w]
            rfl
           refine pure_ (i := 23) (N := some 56) (v := ?_) (a' := ?_) #[T, T, T, T, T, T, T, T, T, T, T, T, T, T, T, T, T, T, T, F, T, T, T, T, F, F, F, F, F, F, F, F, F, F, F, F] rfl rfl (any_of HT_.out (by kernel_rfl)) (fun _ _ _ h => h) (Or.inl ⟨by rfl, ?_⟩) ?_ ?_
           rotate_left
           ·intro w'
            go_simp
            with_reducible rfl
           rotate_left
           ·simp only [Act.put, Zj, Zk, Zm, i64_w, i32_w]
            rfl
           refine take_ (i := 19) (N := some 52) (v := ?_) (a' := ?_) #[T, T, T, T, T, T, T, T, T, T, T, T, T, T, T, T, T, T, T, T, T, T, T, T, F, F, F, F, F, F, F, F, F, F, F, F] rfl rfl (QaH HT_.out HW_.out (by kernel_rfl)) (fun _ _ _ h => h) (Or.inl ⟨by rfl, ?_⟩) hHeld ?_ ?_
           rotate_left
           ·rintro w' ⟨s0, s1, s2, s3⟩
            go_simp
            with_reducible rfl
           rotate_left
           ·simp only [Act.put, Zj, Zk, Zm, i64_w, i32_w]
            rfl
           refine take_ (i := 24) (N := some 57) (v := ?_) (a' := ?_) #[T, T, T, T, T, T, T, T, T, T, T, T, T, T, T, T, T, T, T, T, T, T, T, T, T, F, F, F, F, F, F, F, F, F, F, F] rfl rfl (QaH HT_.out HW_.out (by kernel_rfl)) (fun _ _ _ h => h) (Or.inl ⟨by rfl, ?_⟩) hHeld ?_ ?_
           rotate_left
           ·rintro w' ⟨s0, s1, s2, s3⟩
            go_simp
            with_reducible rfl
           rotate_left
           ·simp only [Act.put, Zj, Zk, Zm, i64_w, i32_w]
            rfl
           refine pure_ (i := 25) (N := some 58) (v := ?_) (a' := ?_) #[T, T, T, T, T, T, T, T, T, T, T, T, T, T, T, T, T, T, T, T, T, T, T, T, T, T, F, F, F, F, F, F, F, F, F, F] rfl rfl (any_of HT_.out (by kernel_rfl)) (fun _ _ _ h => h) (Or.inl ⟨by rfl, ?_⟩) ?_ ?_
           rotate_left
           ·intro w'
            go_simp
            with_reducible rfl
           rotate_left
           ·simp only [Act.put, Zj, Zk, Zm, i64_w, i32_w]
            rfl
           refine pure_ (i := 26) (N := some 59) (v := ?_) (a' := ?_) #[T, T, T, T, T, T, T, T, T, T, T, T, T, T, T, T, T, T, T, T, T, T, T, T, T, T, T, F, F, F, F, F, F, F, F, F] rfl rfl (any_of HT_.out (by kernel_rfl)) (fun _ _ _ h => h) (Or.inl ⟨by rfl, ?_⟩) ?_ ?_
           rotate_left
           ·intro w'
            go_simp
            with_reducible rfl
           rotate_left
           ·simp only [Act.put, Zj, Zk, Zm, i64_w, i32_w]
            rfl
           refine pure_ (i := 27) (N := some 60) (v := ?_) (a' := ?_) #[T, T, T, T, T, T, T, T, T, T, T, T, T, T, T, T, T, T, T, T, T, T, T, T, T, T, T, T, F, F, F, F, F, F, F, F] rfl rfl (any_of HT_.out (by kernel_rfl)) (fun _ _ _ h => h) (Or.inl ⟨by rfl, ?_⟩) ?_ ?_
           rotate_left
           ·intro w'
            go_simp
            with_reducible rfl
           rotate_left
           ·simp only [Act.put, Zj, Zk, Zm, i64_w, i32_w]
            rfl
           refine pure_ (i := 28) (N := some 61) (v := ?_) (a' := ?_) #[T, T, T, T, T, T, T, T, T, T, T, T, T, T, T, T, T, T, T, T, T, T, T, T, T, T, T, T, T, F, F, F, F, F, F, F] rfl rfl (any_of HT_.out (by kernel_rfl)) (fun _ _ _ h => h) (Or.inl ⟨by rfl, ?_⟩) ?_ ?_
           rotate_left
           ·intro w'
            go_simp
            with_reducible rfl
           rotate_left
           ·simp only [Act.put, Zj, Zk, Zm, i64_w, i32_w]
            rfl
           refine pure_ (i := 29) (N := some 62) (v := undef) (a' := ?_) #[T, T, T, T, T, T, T, T, T, T, T, T, T, T, T, T, T, T, T, T, T, T, T, T, T, T, T, T, T, T, F, F, F, F, F, F] rfl rfl (any_of HT_.out (by kernel_rfl)) (fun _ _ _ h => h) (Or.inr ⟨by rfl, rfl⟩) ?_ ?_
           rotate_left
           ·simp only [Act.put, Zj, Zk, Zm, i64_w, i32_w]
            rfl
           refine pure_ (i := 30) (N := some 63) (v := undef) (a' := ?_) #[T, T, T, T, T, T, T, T, T, T, T, T, T, T, T, T, T, T, T, T, T, T, T, T, T, T, T, T, T, T, T, F, F, F, F, F] rfl rfl (any_of HT_.out (by kernel_rfl)) (fun _ _ _ h => h) (Or.inr ⟨by rfl, rfl⟩) ?_ ?_
           rotate_left
           ·simp only [Act.put, Zj, Zk, Zm, i64_w, i32_w]
            rfl
           refine pure_ (i := 31) (N := some 64) (v := undef) (a' := ?_) #[T, T, T, T, T, T, T, T, T, T, T, T, T, T, T, T, T, T, T, T, T, T, T, T, T, T, T, T, T, T, T, T, F, F, F, F] rfl rfl (any_of HT_.out (by kernel_rfl)) (fun _ _ _ h => h) (Or.inr ⟨by rfl, rfl⟩) ?_ ?_
           rotate_left
           ·simp only [Act.put, Zj, Zk, Zm, i64_w, i32_w]
            rfl
           refine pure_ (i := 32) (N := some 65) (v := undef) (a' := ?_) #[T, T, T, T, T, T, T, T, T, T, T, T, T, T, T, T, T, T, T, T, T, T, T, T, T, T, T, T, T, T, T, T, T, F, F, F] rfl rfl (any_of HT_.out (by kernel_rfl)) (fun _ _ _ h => h) (Or.inr ⟨by rfl, rfl⟩) ?_ ?_
           rotate_left
           ·simp only [Act.put, Zj, Zk, Zm, i64_w, i32_w]
            rfl
           refine pure_ (i := 33) (N := some 66) (v := undef) (a' := ?_) #[T, T, T, T, T, T, T, T, T, T, T, T, T, T, T, T, T, T, T, T, T, T, T, T, T, T, T, T, T, T, T, T, T, T, F, F] rfl rfl (any_of HT_.out (by kernel_rfl)) (fun _ _ _ h => h) (Or.inr ⟨by rfl, rfl⟩) ?_ ?_
           rotate_left
           ·simp only [Act.put, Zj, Zk, Zm, i64_w, i32_w]
            rfl
           refine pure_ (i := 34) (N := some 67) (v := undef) (a' := ?_) #[T, T, T, T, T, T, T, T, T, T, T, T, T, T, T, T, T, T, T, T, T, T, T, T, T, T, T, T, T, T, T, T, T, T, T, F] rfl rfl (any_of HT_.out (by kernel_rfl)) (fun _ _ _ h => h) (Or.inr ⟨by rfl, rfl⟩) ?_ ?_
           rotate_left
           ·simp only [Act.put, Zj, Zk, Zm, i64_w, i32_w]
            rfl
           refine pure_ (i := 35) (N := some 68) (v := ?_) (a' := ?_) #[T, T, T, T, T, T, T, T, T, T, T, T, T, T, T, T, T, T, T, T, T, T, T, T, T, T, T, T, T, T, T, T, T, T, T, T] rfl rfl (any_of HT_.out (by kernel_rfl)) (fun _ _ _ h => h) (Or.inl ⟨by rfl, ?_⟩) ?_ ?_
           rotate_left
           ·intro w'
            go_simp
            with_reducible rfl
           rotate_left
           ·simp only [Act.put, Zj, Zk, Zm, i64_w, i32_w]
            rfl
           refine done_ (Qa5 HT_.out (by kernel_rfl)) ?_
           try go_wp2
           go_ret3
           exact ⟨_, _, by first | rfl | (simp [Qaj, Qak] <;> rfl) | (simp only [← hji14]; first | rfl | (simp [Qaj, Qak] <;> rfl)) | (simp [*, Qaj, Qak] <;> rfl), by first | exact Kd.R_nil _ _ _ _ _ | exact Kd.N_nil _ _ _ _ _ | exact Kd.V_nil _ _ _ _ _ | exact Kd.Q_nil _ _ _ _ _ | exact Kd.S_nil _ _ _ _ _, by first | exact Kd.R_nil _ _ _ _ _ | exact Kd.N_nil _ _ _ _ _ | exact Kd.V_nil _ _ _ _ _ | exact Kd.Q_nil _ _ _ _ _ | exact Kd.S_nil _ _ _ _ _, Zb⟩
          rw [if_neg c17] at H
          have c17b0 : decide ((rd l0 x10_1) ≤ (rd l0 (ji14))) = F := decide_eq_false c17
          clear c17
          by_cases c19 : x10_1 < (l1.length : Int)
          ·rw [if_pos c19] at H
           have c19b0 : decide (x10_1 < (l1.length : Int)) = T := decide_eq_true c19
           clear c19
           replace H := Option.bind_eq_some_iff.mp H
           obtain ⟨t629, A200, H⟩ := H
           replace H : (if t629 = T then (Qad.l0 k1 l0 l1 l2 (wrap64 (x10_1 + 1))) else (some (([] : List Int), ([] : List Int), 2))) = some (r1, r2, r3) := H
           have A20 := Aside0.mk A200
           clear A200
           try go_wp2
           (try (rw [QaW wr]; generalize hq_ : World.drewN wr _ = wr; have n0_ : Aside0 (Below w.heap.size w wr) := ⟨by rw [← hq_]; exact (Zb)⟩; clear HB hq_; have HB := n0_; clear n0_))
           (try (rw [QaW wr]; generalize hq_ : World.drewN wr _ = wr; have n0_ : Aside0 (Below w.heap.size w wr) := ⟨by rw [← hq_]; exact (Zb)⟩; clear HB hq_; have HB := n0_; clear n0_))
           replace HB := Aside0.mk (Qab HB.out)
           have p624 : 0 ≤ (x10_1 : Int) := Ze
           have q624 : x10_1 < (l0.length : Int) := Ze
           obtain ⟨ad624, e624, hx624_0⟩ := Kd.at_int HR0.out x10_1 p624 q624
           have hw624_0 := hx624_0
           cases e624
           replace hx624_0 := Zx HB.out hx624_0
           replace p624 := eq_true p624
           replace q624 := eq_true q624
           have p625 : 0 ≤ (x10_1 : Int) := Ze
           have q625 : x10_1 < (l0.length : Int) := Ze
           obtain ⟨ad625, e625, hx625_0⟩ := Kd.at_int HR0.out x10_1 p625 q625
           have hw625_0 := hx625_0
           obtain rfl : ad624 = ad625 := (by injection e625)
           replace hx625_0 := Zx HB.out hx625_0
           replace p625 := eq_true p625
           replace q625 := eq_true q625
           have p626 : 0 ≤ (x10_1 : Int) := Ze
           have q626 : x10_1 < (l0.length : Int) := Ze
           obtain ⟨ad626, e626, hx626_0⟩ := Kd.at_int HR0.out x10_1 p626 q626
           have hw626_0 := hx626_0
           obtain rfl : ad624 = ad626 := (by injection e626)
           replace hx626_0 := Zx HB.out hx626_0
           replace p626 := eq_true p626
           replace q626 := eq_true q626
           have p627 : 0 ≤ ((ji14) : Int) := Ze
           have q627 : (ji14) < (l0.length : Int) := Ze
           obtain ⟨ad627, e627, hx627_0⟩ := Kd.at_int HR0.out (ji14) p627 q627
           have hw627_0 := hx627_0
           obtain rfl : ad624 = ad627 := (by injection e627)
           replace hx627_0 := Zx HB.out hx627_0
           replace p627 := eq_true p627
           replace q627 := eq_true q627
           have p628 : 0 ≤ (x10_1 : Int) := Ze
           have q628 : x10_1 < (l1.length : Int) := Ze
           obtain ⟨ad628, e628, hx628_0⟩ := Kd.at_int HR1.out x10_1 p628 q628
           have hw628_0 := hx628_0
           cases e628
           replace hx628_0 := Zx HB.out hx628_0
           replace p628 := eq_true p628
           replace q628 := eq_true q628
           refine start_ (n := 36) (S := fun w' => w'.cell? (ad624.add (x10_1).toNat) = some (.int .i64 (rd l0 x10_1)) ∧ w'.cell? (ad624.add (x10_1).toNat) = some (.int .i64 (rd l0 x10_1)) ∧ w'.cell? (ad624.add (x10_1).toNat) = some (.int .i64 (rd l0 x10_1)) ∧ w'.cell? (ad624.add ((ji14)).toNat) = some (.int .i64 (rd l0 (ji14))) ∧ w'.cell? (ad628.add (x10_1).toNat) = some (.int .i64 (rd l1 x10_1))) (ds := []) #[F, F, F, F, F, F, F, F, F, F, F, F, F, F, F, F, F, F, F, F, F, F, F, F, F, F, F, F, F, F, F, F, F, F, F, F] (by kernel_rfl) rfl rfl ⟨((HB.out.cell (World.block_lt_of_cell? w _ hw624_0)).trans hw624_0), ((HB.out.cell (World.block_lt_of_cell? w _ hw625_0)).trans hw625_0), ((HB.out.cell (World.block_lt_of_cell? w _ hw626_0)).trans hw626_0), ((HB.out.cell (World.block_lt_of_cell? w _ hw627_0)).trans hw627_0), ((HB.out.cell (World.block_lt_of_cell? w _ hw628_0)).trans hw628_0)⟩ (fun hHeld => ?_); refine Qa1 Qad.tab9 Qad.bits9 (fun HT_ HW_ => ?_)
           generalize wr.drew = w21 at HB hx624_0 hx625_0 hx626_0 hx627_0 hx628_0 hHeld ⊢
           refine pure_ (i := 0) (N := some 33) (v := ?_) (a' := ?_) #[T, F, F, F, F, F, F, F, F, F, F, F, F, F, F, F, F, F, F, F, F, F, F, F, F, F, F, F, F, F, F, F, F, F, F, F] rfl rfl (any_of HT_.out (by kernel_rfl)) (fun _ _ _ h => h) (Or.inl ⟨by rfl, ?_⟩) ?_ ?_
           rotate_left
           ·intro w'
            go_simp
            with_reducible rfl
           rotate_left
           ·simp only [Act.put, Zj, Zk, Zm, i64_w, i32_w]
            rfl
           refine pure_ (i := 1) (N := some 34) (v := ?_) (a' := ?_) #[T, T, F, F, F, F, F, F, F, F, F, F, F, F, F, F, F, F, F, F, F, F, F, F, F, F, F, F, F, F, F, F, F, F, F, F] rfl rfl (any_of HT_.out (by kernel_rfl)) (fun _ _ _ h => h) (Or.inl ⟨by rfl, ?_⟩) ?_ ?_
           rotate_left
           ·intro w'
            go_simp
            with_reducible rfl
           rotate_left
           ·simp only [Act.put, Zj, Zk, Zm, i64_w, i32_w]
            rfl
           refine pure_ (i := 2) (N := some 35) (v := ?_) (a' := ?_) #[T, T, T, F, F, F, F, F, F, F, F, F, F, F, F, F, F, F, F, F, F, F, F, F, F, F, F, F, F, F, F, F, F, F, F, F] rfl rfl (any_of HT_.out (by kernel_rfl)) (fun _ _ _ h => h) (Or.inl ⟨by rfl, ?_⟩) ?_ ?_
           rotate_left
           ·intro w'
            go_simp
            with_reducible rfl
           rotate_left
           ·simp only [Act.put, Zj, Zk, Zm, i64_w, i32_w]
            rfl
           refine take_ (i := 3) (N := some 36) (v := ?_) (a' := ?_) #[T, T, T, T, F, F, F, F, F, F, F, F, F, F, F, F, F, F, F, F, F, F, F, F, F, F, F, F, F, F, F, F, F, F, F, F] rfl rfl (QaH HT_.out HW_.out (by kernel_rfl)) (fun _ _ _ h => h) (Or.inl ⟨by rfl, ?_⟩) hHeld ?_ ?_
           rotate_left
           ·rintro w' ⟨s0, s1, s2, s3, s4⟩
            go_simp
            with_reducible rfl
           rotate_left
           ·simp only [Act.put, Zj, Zk, Zm, i64_w, i32_w]
            rfl
           refine pure_ (i := 4) (N := some 37) (v := ?_) (a' := ?_) #[T, T, T, T, T, F, F, F, F, F, F, F, F, F, F, F, F, F, F, F, F, F, F, F, F, F, F, F, F, F, F, F, F, F, F, F] rfl rfl (any_of HT_.out (by kernel_rfl)) (fun _ _ _ h => h) (Or.inl ⟨by rfl, ?_⟩) ?_ ?_
           rotate_left
           ·intro w'
            go_simp
            with_reducible rfl
           rotate_left
           ·simp only [Act.put, Zj, Zk, Zm, i64_w, i32_w]
            rfl
           refine pure_ (i := 5) (N := some 38) (v := ?_) (a' := ?_) #[T, T, T, T, T, T, F, F, F, F, F, F, F, F, F, F, F, F, F, F, F, F, F, F, F, F, F, F, F, F, F, F, F, F, F, F] rfl rfl (any_of HT_.out (by kernel_rfl)) (fun _ _ _ h => h) (Or.inl ⟨by rfl, ?_⟩) ?_ ?_
           rotate_left
           ·intro w'
            go_simp
            with_reducible rfl
           rotate_left
           ·simp only [Act.put, Zj, Zk, Zm, i64_w, i32_w]
            rfl
           refine pure_ (i := 6) (N := some 39) (v := ?_) (a' := ?_) #[T, T, T, T, T, T, T, F, F, F, F, F, F, F, F, F, F, F, F, F, F, F, F, F, F, F, F, F, F, F, F, F, F, F, F, F] rfl rfl (any_of HT_.out (by kernel_rfl)) (fun _ _ _ h => h) (Or.inl ⟨by rfl, ?_⟩) ?_ ?_
           rotate_left
           ·intro w'
            go_simp
            with_reducible rfl
           rotate_left
           ·simp only [Act.put, Zj, Zk, Zm, i64_w, i32_w]
            rfl
           refine pure_ (i := 7) (N := some 40) (v := ?_) (a' := ?_) #[T, T, T, T, T, T, T, T, F, F, F, F, F, F, F, F, F, F, F, F, F, F, F, F, F, F, F, F, F, F, F, F, F, F, F, F] rfl rfl (any_of HT_.out (by kernel_rfl)) (fun _ _ _ h => h) (Or.inl ⟨by rfl, ?_⟩) ?_ ?_
           rotate_left
           ·intro w'
            go_simp
            with_reducible rfl
           rotate_left
           ·simp only [Act.put, Zj, Zk, Zm, i64_w, i32_w]
            rfl
           refine pure_ (i := 8) (N := some 41) (v := ?_) (a' := ?_) #[T, T, T, T, T, T, T, T, T, F, F, F, F, F, F, F, F, F, F, F, F, F, F, F, F, F, F, F, F, F, F, F, F, F, F, F] rfl rfl (any_of HT_.out (by kernel_rfl)) (fun _ _ _ h => h) (Or.inl ⟨by rfl, ?_⟩) ?_ ?_
           rotate_left
           ·intro w'
            go_simp
            with_reducible rfl
           rotate_left
           ·simp only [Act.put, Zj, Zk, Zm, i64_w, i32_w]
            rfl
           refine take_ (i := 9) (N := some 42) (v := ?_) (a' := ?_) #[T, T, T, T, T, T, T, T, T, T, F, F, F, F, F, F, F, F, F, F, F, F, F, F, F, F, F, F, F, F, F, F, F, F, F, F] rfl rfl (QaH HT_.out HW_.out (by kernel_rfl)) (fun _ _ _ h => h) (Or.inl ⟨by rfl, ?_⟩) hHeld ?_ ?_
           rotate_left
           ·rintro w' ⟨s0, s1, s2, s3, s4⟩
            go_simp
            with_reducible rfl
           rotate_left
           ·simp only [Act.put, Zj, Zk, Zm, i64_w, i32_w]
            rfl
           refine pure_ (i := 10) (N := some 43) (v := ?_) (a' := ?_) #[T, T, T, T, T, T, T, T, T, T, T, F, F, F, F, F, F, F, F, F, F, F, F, F, F, F, F, F, F, F, F, F, F, F, F, F] rfl rfl (any_of HT_.out (by kernel_rfl)) (fun _ _ _ h => h) (Or.inl ⟨by rfl, ?_⟩) ?_ ?_
           rotate_left
           ·intro w'
            go_simp
            with_reducible rfl
           rotate_left
           ·simp only [Act.put, Zj, Zk, Zm, i64_w, i32_w]
            rfl
           refine pure_ (i := 11) (N := some 44) (v := ?_) (a' := ?_) #[T, T, T, T, T, T, T, T, T, T, T, T, F, F, F, F, F, F, F, F, F, F, F, F, F, F, F, F, F, F, F, F, F, F, F, F] rfl rfl (any_of HT_.out (by kernel_rfl)) (fun _ _ _ h => h) (Or.inl ⟨by rfl, ?_⟩) ?_ ?_
           rotate_left
           ·intro w'
            go_simp
            with_reducible rfl
           rotate_left
           ·simp only [Act.put, Zj, Zk, Zm, i64_w, i32_w]
            rfl
           refine pure_ (i := 12) (N := some 45) (v := ?_) (a' := ?_) #[T, T, T, T, T, T, T, T, T, T, T, T, T, F, F, F, F, F, F, F, F, F, F, F, F, F, F, F, F, F, F, F, F, F, F, F] rfl rfl (any_of HT_.out (by kernel_rfl)) (fun _ _ _ h => h) (Or.inl ⟨by rfl, ?_⟩) ?_ ?_
           rotate_left
           ·intro w'
            go_simp
            with_reducible rfl
           rotate_left
           ·simp only [Act.put, Zj, Zk, Zm, i64_w, i32_w]
            rfl
           refine pure_ (i := 13) (N := some 46) (v := ?_) (a' := ?_) #[T, T, T, T, T, T, T, T, T, T, T, T, T, T, F, F, F, F, F, F, F, F, F, F, F, F, F, F, F, F, F, F, F, F, F, F] rfl rfl (any_of HT_.out (by kernel_rfl)) (fun _ _ _ h => h) (Or.inl ⟨by rfl, ?_⟩) ?_ ?_
           rotate_left
           ·intro w'
            go_simp
            with_reducible rfl
           rotate_left
           ·simp only [Act.put, Zj, Zk, Zm, i64_w, i32_w]
            rfl
           refine pure_ (i := 14) (N := some 47) (v := ?_) (a' := ?_) #[T, T, T, T, T, T, T, T, T, T, T, T, T, T, T, F, F, F, F, F, F, F, F, F, F, F, F, F, F, F, F, F, F, F, F, F] rfl rfl (any_of HT_.out (by kernel_rfl)) (fun _ _ _ h => h) (Or.inl ⟨by rfl, ?_⟩) ?_ ?_
           rotate_left
           ·intro w'
            go_simp
            with_reducible rfl
           rotate_left
           ·simp only [Act.put, Zj, Zk, Zm, i64_w, i32_w]
            rfl
           refine pure_ (i := 15) (N := some 48) (v := ?_) (a' := ?_) #[T, T, T, T, T, T, T, T, T, T, T, T, T, T, T, T, F, F, F, F, F, F, F, F, F, F, F, F, F, F, F, F, F, F, F, F] rfl rfl (any_of HT_.out (by kernel_rfl)) (fun _ _ _ h => h) (Or.inl ⟨by rfl, ?_⟩) ?_ ?_
           rotate_left
           ·intro w'
            go_simp
            with_reducible rfl
           rotate_left
           ·simp only [Act.put, Zj, Zk, Zm, i64_w, i32_w]
            rfl
           refine pure_ (i := 16) (N := some 49) (v := ?_) (a' := ?_) #[T, T, T, T, T, T, T, T, T, T, T, T, T, T, T, T, T, F, F, F, F, F, F, F, F, F, F, F, F, F, F, F, F, F, F, F] rfl rfl (any_of HT_.out (by kernel_rfl)) (fun _ _ _ h => h) (Or.inl ⟨by rfl, ?_⟩) ?_ ?_
           rotate_left
           ·intro w'
            go_simp
            with_reducible rfl
           rotate_left
           ·simp only [Act.put, Zj, Zk, Zm, i64_w, i32_w]
            rfl
           refine pure_ (i := 17) (N := some 50) (v := ?_) (a' := ?_) #[T, T, T, T, T, T, T, T, T, T, T, T, T, T, T, T, T, T, F, F, F, F, F, F, F, F, F, F, F, F, F, F, F, F, F, F] rfl rfl (any_of HT_.out (by kernel_rfl)) (fun _ _ _ h => h) (Or.inl ⟨by rfl, ?_⟩) ?_ ?_
           rotate_left
           ·intro w'
            go_simp
            with_reducible rfl
           rotate_left
           ·simp only [Act.put, Zj, Zk, Zm, i64_w, i32_w]
            rfl
           refine pure_ (i := 18) (N := some 51) (v := ?_) (a' := ?_) #[T, T, T, T, T, T, T, T, T, T, T, T, T, T, T, T, T, T, T, F, F, F, F, F, F, F, F, F, F, F, F, F, F, F, F, F] rfl rfl (any_of HT_.out (by kernel_rfl)) (fun _ _ _ h => h) (Or.inl ⟨by rfl, ?_⟩) ?_ ?_
           rotate_left
           ·intro w'
            go_simp
            with_reducible rfl
           rotate_left
           ·simp only [Act.put, Zj, Zk, Zm, i64_w, i32_w]
            rfl
           refine pure_ (i := 20) (N := some 53) (v := ?_) (a' := ?_) #[T, T, T, T, T, T, T, T, T, T, T, T, T, T, T, T, T, T, T, F, T, F, F, F, F, F, F, F, F, F, F, F, F, F, F, F] rfl rfl (any_of HT_.out (by kernel_rfl)) (fun _ _ _ h => h) (Or.inl ⟨by rfl, ?_⟩) ?_ ?_
           rotate_left
           ·intro w'
            go_simp
            with_reducible rfl
           rotate_left
           ·simp only [Act.put, Zj, Zk, Zm, i64_w, i32_w]
            rfl
           refine pure_ (i := 21) (N := some 54) (v := ?_) (a' := ?_) #[T, T, T, T, T, T, T, T, T, T, T, T, T, T, T, T, T, T, T, F, T, T, F, F, F, F, F, F, F, F, F, F, F, F, F, F] rfl rfl (any_of HT_.out (by kernel_rfl)) (fun _ _ _ h => h) (Or.inl ⟨by rfl, ?_⟩) ?_ ?_
           rotate_left
           ·intro w'
            go_simp
            with_reducible rfl
           rotate_left
           ·simp only [Act.put, Zj, Zk, Zm, i64_w, i32_w]
            rfl
           refine pure_ (i := 22) (N := some 55) (v := ?_) (a' := ?_) #[T, T, T, T, T, T, T, T, T, T, T, T, T, T, T, T, T, T, T, F, T, T, T, F, F, F, F, F, F, F, F, F, F, F, F, F] rfl rfl (any_of HT_.out (by kernel_rfl)) (fun _ _ _ h => h) (Or.inl ⟨by rfl, ?_⟩) ?_ ?_
           rotate_left
           ·intro w'
            go_simp
            with_reducible rfl
           rotate_left
           ·simp only [Act.put, Zj, Zk, Zm, i64_w, i32_w]
            rfl
           refine pure_ (i := 23) (N := some 56) (v := ?_) (a' := ?_) #[T, T, T, T, T, T, T, T, T, T, T, T, T, T, T, T, T, T, T, F, T, T, T, T, F, F, F, F, F, F, F, F, F, F, F, F] rfl rfl (any_of HT_.out (by kernel_rfl)) (fun _ _ _ h => h) (Or.inl ⟨by rfl, ?_⟩) ?_ ?_
           rotate_left
           ·intro w'
            go_simp
            with_reducible rfl
           rotate_left
           ·simp only [Act.put, Zj, Zk, Zm, i64_w, i32_w]
            rfl
           refine take_ (i := 19) (N := some 52) (v := ?_) (a' := ?_) #[T, T, T, T, T, T, T, T, T, T, T, T, T, T, T, T, T, T, T, T, T, T, T, T, F, F, F, F, F, F, F, F, F, F, F, F] rfl rfl (QaH HT_.out HW_.out (by kernel_rfl)) (fun _ _ _ h => h) (Or.inl ⟨by rfl, ?_⟩) hHeld ?_ ?_
           rotate_left
           ·rintro w' ⟨s0, s1, s2, s3, s4⟩
            go_simp
            with_reducible rfl
           rotate_left
           ·simp only [Act.put, Zj, Zk, Zm, i64_w, i32_w]
            rfl
           refine take_ (i := 24) (N := some 57) (v := ?_) (a' := ?_) #[T, T, T, T, T, T, T, T, T, T, T, T, T, T, T, T, T, T, T, T, T, T, T, T, T, F, F, F, F, F, F, F, F, F, F, F] rfl rfl (QaH HT_.out HW_.out (by kernel_rfl)) (fun _ _ _ h => h) (Or.inl ⟨by rfl, ?_⟩) hHeld ?_ ?_
           rotate_left
           ·rintro w' ⟨s0, s1, s2, s3, s4⟩
            go_simp
            with_reducible rfl
           rotate_left
           ·simp only [Act.put, Zj, Zk, Zm, i64_w, i32_w]
            rfl
           refine pure_ (i := 25) (N := some 58) (v := ?_) (a' := ?_) #[T, T, T, T, T, T, T, T, T, T, T, T, T, T, T, T, T, T, T, T, T, T, T, T, T, T, F, F, F, F, F, F, F, F, F, F] rfl rfl (any_of HT_.out (by kernel_rfl)) (fun _ _ _ h => h) (Or.inl ⟨by rfl, ?_⟩) ?_ ?_
           rotate_left
           ·intro w'
            go_simp
            with_reducible rfl
           rotate_left
           ·simp only [Act.put, Zj, Zk, Zm, i64_w, i32_w]
            rfl
           refine pure_ (i := 26) (N := some 59) (v := ?_) (a' := ?_) #[T, T, T, T, T, T, T, T, T, T, T, T, T, T, T, T, T, T, T, T, T, T, T, T, T, T, T, F, F, F, F, F, F, F, F, F] rfl rfl (any_of HT_.out (by kernel_rfl)) (fun _ _ _ h => h) (Or.inl ⟨by rfl, ?_⟩) ?_ ?_
           rotate_left
           ·intro w'
            go_simp
            with_reducible rfl
           rotate_left
           ·simp only [Act.put, Zj, Zk, Zm, i64_w, i32_w]
            rfl
           refine pure_ (i := 27) (N := some 60) (v := ?_) (a' := ?_) #[T, T, T, T, T, T, T, T, T, T, T, T, T, T, T, T, T, T, T, T, T, T, T, T, T, T, T, T, F, F, F, F, F, F, F, F] rfl rfl (any_of HT_.out (by kernel_rfl)) (fun _ _ _ h => h) (Or.inl ⟨by rfl, ?_⟩) ?_ ?_
           rotate_left
           ·intro w'
            go_simp
            with_reducible rfl
           rotate_left
           ·simp only [Act.put, Zj, Zk, Zm, i64_w, i32_w]
            rfl
           refine pure_ (i := 28) (N := some 61) (v := ?_) (a' := ?_) #[T, T, T, T, T, T, T, T, T, T, T, T, T, T, T, T, T, T, T, T, T, T, T, T, T, T, T, T, T, F, F, F, F, F, F, F] rfl rfl (any_of HT_.out (by kernel_rfl)) (fun _ _ _ h => h) (Or.inl ⟨by rfl, ?_⟩) ?_ ?_
           rotate_left
           ·intro w'
            go_simp
            with_reducible rfl
           rotate_left
           ·simp only [Act.put, Zj, Zk, Zm, i64_w, i32_w]
            rfl
           refine pure_ (i := 29) (N := some 62) (v := ?_) (a' := ?_) #[T, T, T, T, T, T, T, T, T, T, T, T, T, T, T, T, T, T, T, T, T, T, T, T, T, T, T, T, T, T, F, F, F, F, F, F] rfl rfl (any_of HT_.out (by kernel_rfl)) (fun _ _ _ h => h) (Or.inl ⟨by rfl, ?_⟩) ?_ ?_
           rotate_left
           ·intro w'
            go_simp
            with_reducible rfl
           rotate_left
           ·simp only [Act.put, Zj, Zk, Zm, i64_w, i32_w]
            rfl
           refine pure_ (i := 30) (N := some 63) (v := ?_) (a' := ?_) #[T, T, T, T, T, T, T, T, T, T, T, T, T, T, T, T, T, T, T, T, T, T, T, T, T, T, T, T, T, T, T, F, F, F, F, F] rfl rfl (any_of HT_.out (by kernel_rfl)) (fun _ _ _ h => h) (Or.inl ⟨by rfl, ?_⟩) ?_ ?_
           rotate_left
           ·intro w'
            go_simp
            with_reducible rfl
           rotate_left
           ·simp only [Act.put, Zj, Zk, Zm, i64_w, i32_w]
            rfl
           refine pure_ (i := 31) (N := some 64) (v := ?_) (a' := ?_) #[T, T, T, T, T, T, T, T, T, T, T, T, T, T, T, T, T, T, T, T, T, T, T, T, T, T, T, T, T, T, T, T, F, F, F, F] rfl rfl (any_of HT_.out (by kernel_rfl)) (fun _ _ _ h => h) (Or.inl ⟨by rfl, ?_⟩) ?_ ?_
           rotate_left
           ·intro w'
            go_simp
            with_reducible rfl
           rotate_left
           ·simp only [Act.put, Zj, Zk, Zm, i64_w, i32_w]
            rfl
           refine take_ (i := 32) (N := some 65) (v := ?_) (a' := ?_) #[T, T, T, T, T, T, T, T, T, T, T, T, T, T, T, T, T, T, T, T, T, T, T, T, T, T, T, T, T, T, T, T, T, F, F, F] rfl rfl (QaH HT_.out HW_.out (by kernel_rfl)) (fun _ _ _ h => h) (Or.inl ⟨by rfl, ?_⟩) hHeld ?_ ?_
           rotate_left
           ·rintro w' ⟨s0, s1, s2, s3, s4⟩
            go_simp
            with_reducible rfl
           rotate_left
           ·simp only [Act.put, Zj, Zk, Zm, i64_w, i32_w]
            rfl
           refine one_ (i := 33) (N := some 66) #[T, T, T, T, T, T, T, T, T, T, T, T, T, T, T, T, T, T, T, T, T, T, T, T, T, T, T, T, T, T, T, T, T, T, F, F] rfl rfl (one_of HT_.out (by kernel_rfl)) (by decide) (fun K hK => ?_)
           refine goes_ Try.func64 (by kernel_rfl) rfl #[.int .i64 (rd l1 x10_1)] (by rfl) rfl rfl (Zl) ?_
           with_reducible refine (QaS.calls (rd l1 x10_1) t629 _ A20.out).mono ?_
           rintro e w' ⟨rfl, ⟨nd, rfl⟩⟩
           refine ⟨_, rfl, ?_⟩
           refine hK.out _ _ ⟨((HB.out.cell (World.block_lt_of_cell? w _ hw624_0)).trans hw624_0), ((HB.out.cell (World.block_lt_of_cell? w _ hw625_0)).trans hw625_0), ((HB.out.cell (World.block_lt_of_cell? w _ hw626_0)).trans hw626_0), ((HB.out.cell (World.block_lt_of_cell? w _ hw627_0)).trans hw627_0), ((HB.out.cell (World.block_lt_of_cell? w _ hw628_0)).trans hw628_0)⟩ (fun hHeld => ?_)
           clear hK K
           refine norm_ (a' := ?_) ?_ ?_
           rotate_left
           ·show Act.put _ (some 66) _ = _
            simp only [Act.put, Zj, Zk, Zm, i64_w, i32_w]
            rfl
           refine pure_ (i := 34) (N := some 67) (v := ?_) (a' := ?_) #[T, T, T, T, T, T, T, T, T, T, T, T, T, T, T, T, T, T, T, T, T, T, T, T, T, T, T, T, T, T, T, T, T, T, T, F] rfl rfl (any_of HT_.out (by kernel_rfl)) (fun _ _ _ h => h) (Or.inl ⟨by rfl, ?_⟩) ?_ ?_
           rotate_left
           ·intro w'
            go_simp
            with_reducible rfl
           rotate_left
           ·simp only [Act.put, Zj, Zk, Zm, i64_w, i32_w]
            rfl
           refine pure_ (i := 35) (N := some 68) (v := ?_) (a' := ?_) #[T, T, T, T, T, T, T, T, T, T, T, T, T, T, T, T, T, T, T, T, T, T, T, T, T, T, T, T, T, T, T, T, T, T, T, T] rfl rfl (any_of HT_.out (by kernel_rfl)) (fun _ _ _ h => h) (Or.inl ⟨by rfl, ?_⟩) ?_ ?_
           rotate_left
           ·intro w'
            go_simp
            with_reducible rfl
           rotate_left
           ·simp only [Act.put, Zj, Zk, Zm, i64_w, i32_w]
            rfl
           refine done_ (Qa5 HT_.out (by kernel_rfl)) ?_
           go_upto_if 68 with (fail)
           by_cases c22 : t629 = T
           ·subst c22
            have H1 : (Qad.l0 k1 l0 l1 l2 (wrap64 (x10_1 + 1))) = some (r1, r2, r3) := by rw [if_pos rfl] at H; exact H
            clear H
            have H := H1
            clear H1
            have H' := Aside0.mk H
            clear H
            go_wp2
            go_roundg k1
            case measure => have := HK1.out; omega
            case rel => exact ⟨(wrap64 (x10_1 + 1)), (Zs), H', ⟨by have := HK1.out; omega⟩, ⟨Zb⟩⟩
           replace c22 := Bool.eq_false_iff.mpr c22
           subst c22
           have H1 : (some (([] : List Int), ([] : List Int), 2)) = some (r1, r2, r3) := by rw [if_neg (show ¬ (F = T) by decide)] at H; exact H
           clear H
           have H := H1
           clear H1
           simp only [Option.some.injEq, Prod.mk.injEq] at H
           obtain ⟨rfl, rfl, rfl⟩ := H
           go_wp2
           go_ret3
           exact ⟨_, _, by first | rfl | (simp [Qaj, Qak] <;> rfl) | (simp only [← hji14]; first | rfl | (simp [Qaj, Qak] <;> rfl)) | (simp [*, Qaj, Qak] <;> rfl), by first | exact Kd.R_nil _ _ _ _ _ | exact Kd.N_nil _ _ _ _ _ | exact Kd.V_nil _ _ _ _ _ | exact Kd.Q_nil _ _ _ _ _ | exact Kd.S_nil _ _ _ _ _, by first | exact Kd.R_nil _ _ _ _ _ | exact Kd.N_nil _ _ _ _ _ | exact Kd.V_nil _ _ _ _ _ | exact Kd.Q_nil _ _ _ _ _ | exact Kd.S_nil _ _ _ _ _, Zb⟩
          rw [if_neg c19] at H
          exact absurd H (by simp)
         rw [if_neg c16] at H
         exact absurd H (by simp)
        rw [if_neg c15] at H
        exact absurd H (by simp)
       rw [if_neg c13] at H
       have c13b0 : decide (0 < x10_1) = F := decide_eq_false c13
       clear c13
       by_cases c23 : x10_1 < (l1.length : Int)
       ·rw [if_pos c23] at H
        have c23b0 : decide (x10_1 < (l1.length : Int)) = T := decide_eq_true c23
        clear c23
        replace H := Option.bind_eq_some_iff.mp H
        obtain ⟨t631, A240, H⟩ := H
        replace H : (if t631 = T then (Qad.l0 k1 l0 l1 l2 (wrap64 (x10_1 + 1))) else (some (([] : List Int), ([] : List Int), 2))) = some (r1, r2, r3) := H
        have A24 := Aside0.mk A240
        clear A240
        try go_wp2
        (try (rw [QaW wr]; generalize hq_ : World.drewN wr _ = wr; have n0_ : Aside0 (Below w.heap.size w wr) := ⟨by rw [← hq_]; exact (Zb)⟩; clear HB hq_; have HB := n0_; clear n0_))
        (try (rw [QaW wr]; generalize hq_ : World.drewN wr _ = wr; have n0_ : Aside0 (Below w.heap.size w wr) := ⟨by rw [← hq_]; exact (Zb)⟩; clear HB hq_; have HB := n0_; clear n0_))
        replace HB := Aside0.mk (Qab HB.out)
        have p624 : 0 ≤ (x10_1 : Int) := Ze
        have q624 : x10_1 < (l0.length : Int) := Ze
        obtain ⟨ad624, e624, hx624_0⟩ := Kd.at_int HR0.out x10_1 p624 q624
        have hw624_0 := hx624_0
        cases e624
        replace hx624_0 := Zx HB.out hx624_0
        replace p624 := eq_true p624
        replace q624 := eq_true q624
        have p625 : 0 ≤ (x10_1 : Int) := Ze
        have q625 : x10_1 < (l0.length : Int) := Ze
        obtain ⟨ad625, e625, hx625_0⟩ := Kd.at_int HR0.out x10_1 p625 q625
        have hw625_0 := hx625_0
        obtain rfl : ad624 = ad625 := (by injection e625)
        replace hx625_0 := Zx HB.out hx625_0
        replace p625 := eq_true p625
        replace q625 := eq_true q625
        have p630 : 0 ≤ (x10_1 : Int) := Ze
        have q630 : x10_1 < (l1.length : Int) := Ze
        obtain ⟨ad630, e630, hx630_0⟩ := Kd.at_int HR1.out x10_1 p630 q630
        have hw630_0 := hx630_0
        cases e630
        replace hx630_0 := Zx HB.out hx630_0
        replace p630 := eq_true p630
        replace q630 := eq_true q630
        refine start_ (n := 36) (S := fun w' => w'.cell? (ad624.add (x10_1).toNat) = some (.int .i64 (rd l0 x10_1)) ∧ w'.cell? (ad624.add (x10_1).toNat) = some (.int .i64 (rd l0 x10_1)) ∧ w'.cell? (ad630.add (x10_1).toNat) = some (.int .i64 (rd l1 x10_1))) (ds := []) #[F, F, F, F, F, F, F, F, F, F, F, F, F, F, F, F, F, F, F, F, F, F, F, F, F, F, F, F, F, F, F, F, F, F, F, F] (by kernel_rfl) rfl rfl ⟨((HB.out.cell (World.block_lt_of_cell? w _ hw624_0)).trans hw624_0), ((HB.out.cell (World.block_lt_of_cell? w _ hw625_0)).trans hw625_0), ((HB.out.cell (World.block_lt_of_cell? w _ hw630_0)).trans hw630_0)⟩ (fun hHeld => ?_); refine Qa1 Qad.tab9 Qad.bits9 (fun HT_ HW_ => ?_)
        generalize wr.drew = w25 at HB hx624_0 hx625_0 hx630_0 hHeld ⊢
        refine pure_ (i := 0) (N := some 33) (v := ?_) (a' := ?_) #[T, F, F, F, F, F, F, F, F, F, F, F, F, F, F, F, F, F, F, F, F, F, F, F, F, F, F, F, F, F, F, F, F, F, F, F] rfl rfl (any_of HT_.out (by kernel_rfl)) (fun _ _ _ h => h) (Or.inl ⟨by rfl, ?_⟩) ?_ ?_
        rotate_left
        ·intro w'
         go_simp
         with_reducible rfl
        rotate_left
        ·simp only [Act.put, Zj, Zk, Zm, i64_w, i32_w]
         rfl
        refine pure_ (i := 1) (N := some 34) (v := ?_) (a' := ?_) #[T, T, F, F, F, F, F, F, F, F, F, F, F, F, F, F, F, F, F, F, F, F, F, F, F, F, F, F, F, F, F, F, F, F, F, F] rfl rfl (any_of HT_.out (by kernel_rfl)) (fun _ _ _ h => h) (Or.inl ⟨by rfl, ?_⟩) ?_ ?_
        rotate_left
        ·intro w'
         go_simp
         with_reducible rfl
        rotate_left
        ·simp only [Act.put, Zj, Zk, Zm, i64_w, i32_w]
         rfl
        refine pure_ (i := 2) (N := some 35) (v := ?_) (a' := ?_) #[T, T, T, F, F, F, F, F, F, F, F, F, F, F, F, F, F, F, F, F, F, F, F, F, F, F, F, F, F, F, F, F, F, F, F, F] rfl rfl (any_of HT_.out (by kernel_rfl)) (fun _ _ _ h => h) (Or.inl ⟨by rfl, ?_⟩) ?_ ?_
        rotate_left
        ·intro w'
         go_simp
         with_reducible rfl
        rotate_left
        ·simp only [Act.put, Zj, Zk, Zm, i64_w, i32_w]
         rfl
        refine take_ (i := 3) (N := some 36) (v := ?_) (a' := ?_) #[T, T, T, T, F, F, F, F, F, F, F, F, F, F, F, F, F, F, F, F, F, F, F, F, F, F, F, F, F, F, F, F, F, F, F, F] rfl rfl (QaH HT_.out HW_.out (by kernel_rfl)) (fun _ _ _ h => h) (Or.inl ⟨by rfl, ?_⟩) hHeld ?_ ?_
        rotate_left
        ·rintro w' ⟨s0, s1, s2⟩
         go_simp
         with_reducible rfl
        rotate_left
        ·simp only [Act.put, Zj, Zk, Zm, i64_w, i32_w]
         rfl
        refine pure_ (i := 4) (N := some 37) (v := ?_) (a' := ?_) #[T, T, T, T, T, F, F, F, F, F, F, F, F, F, F, F, F, F, F, F, F, F, F, F, F, F, F, F, F, F, F, F, F, F, F, F] rfl rfl (any_of HT_.out (by kernel_rfl)) (fun _ _ _ h => h) (Or.inl ⟨by rfl, ?_⟩) ?_ ?_
        rotate_left
        ·intro w'
         go_simp
         with_reducible rfl
        rotate_left
        ·simp only [Act.put, Zj, Zk, Zm, i64_w, i32_w]
         rfl
        refine pure_ (i := 5) (N := some 38) (v := ?_) (a' := ?_) #[T, T, T, T, T, T, F, F, F, F, F, F, F, F, F, F, F, F, F, F, F, F, F, F, F, F, F, F, F, F, F, F, F, F, F, F] rfl rfl (any_of HT_.out (by kernel_rfl)) (fun _ _ _ h => h) (Or.inl ⟨by rfl, ?_⟩) ?_ ?_
        rotate_left
        ·intro w'
         go_simp
         with_reducible rfl
        rotate_left
        ·simp only [Act.put, Zj, Zk, Zm, i64_w, i32_w]
         rfl
        refine pure_ (i := 6) (N := some 39) (v := ?_) (a' := ?_) #[T, T, T, T, T, T, T, F, F, F, F, F, F, F, F, F, F, F, F, F, F, F, F, F, F, F, F, F, F, F, F, F, F, F, F, F] rfl rfl (any_of HT_.out (by kernel_rfl)) (fun _ _ _ h => h) (Or.inl ⟨by rfl, ?_⟩) ?_ ?_
        rotate_left
        ·intro w'
         go_simp
         with_reducible rfl
        rotate_left
        ·simp only [Act.put, Zj, Zk, Zm, i64_w, i32_w]
         rfl
        refine pure_ (i := 7) (N := some 40) (v := ?_) (a' := ?_) #[T, T, T, T, T, T, T, T, F, F, F, F, F, F, F, F, F, F, F, F, F, F, F, F, F, F, F, F, F, F, F, F, F, F, F, F] rfl rfl (any_of HT_.out (by kernel_rfl)) (fun _ _ _ h => h) (Or.inl ⟨by rfl, ?_⟩) ?_ ?_
        rotate_left
        ·intro w'
         go_simp
         with_reducible rfl
        rotate_left
        ·simp only [Act.put, Zj, Zk, Zm, i64_w, i32_w]
         rfl
        refine pure_ (i := 8) (N := some 41) (v := ?_) (a' := ?_) #[T, T, T, T, T, T, T, T, T, F, F, F, F, F, F, F, F, F, F, F, F, F, F, F, F, F, F, F, F, F, F, F, F, F, F, F] rfl rfl (any_of HT_.out (by kernel_rfl)) (fun _ _ _ h => h) (Or.inl ⟨by rfl, ?_⟩) ?_ ?_
        rotate_left
        ·intro w'
         go_simp
         with_reducible rfl
        rotate_left
        ·simp only [Act.put, Zj, Zk, Zm, i64_w, i32_w]
         rfl
        refine take_ (i := 9) (N := some 42) (v := ?_) (a' := ?_) #[T, T, T, T, T, T, T, T, T, T, F, F, F, F, F, F, F, F, F, F, F, F, F, F, F, F, F, F, F, F, F, F, F, F, F, F] rfl rfl (QaH HT_.out HW_.out (by kernel_rfl)) (fun _ _ _ h => h) (Or.inl ⟨by rfl, ?_⟩) hHeld ?_ ?_
        rotate_left
        ·rintro w' ⟨s0, s1, s2⟩
         go_simp
         with_reducible rfl
        rotate_left
        ·simp only [Act.put, Zj, Zk, Zm, i64_w, i32_w]
         rfl
        refine pure_ (i := 10) (N := some 43) (v := ?_) (a' := ?_) #[T, T, T, T, T, T, T, T, T, T, T, F, F, F, F, F, F, F, F, F, F, F, F, F, F, F, F, F, F, F, F, F, F, F, F, F] rfl rfl (any_of HT_.out (by kernel_rfl)) (fun _ _ _ h => h) (Or.inl ⟨by rfl, ?_⟩) ?_ ?_
        rotate_left
        ·intro w'
         go_simp
         with_reducible rfl
        rotate_left
        ·simp only [Act.put, Zj, Zk, Zm, i64_w, i32_w]
         rfl
        refine pure_ (i := 11) (N := some 44) (v := ?_) (a' := ?_) #[T, T, T, T, T, T, T, T, T, T, T, T, F, F, F, F, F, F, F, F, F, F, F, F, F, F, F, F, F, F, F, F, F, F, F, F] rfl rfl (any_of HT_.out (by kernel_rfl)) (fun _ _ _ h => h) (Or.inl ⟨by rfl, ?_⟩) ?_ ?_
        rotate_left
        ·intro w'
         go_simp
         with_reducible rfl
        rotate_left
        ·simp only [Act.put, Zj, Zk, Zm, i64_w, i32_w]
         rfl
        refine pure_ (i := 12) (N := some 45) (v := ?_) (a' := ?_) #[T, T, T, T, T, T, T, T, T, T, T, T, T, F, F, F, F, F, F, F, F, F, F, F, F, F, F, F, F, F, F, F, F, F, F, F] rfl rfl (any_of HT_.out (by kernel_rfl)) (fun _ _ _ h => h) (Or.inl ⟨by rfl, ?_⟩) ?_ ?_
        rotate_left
        ·intro w'
         go_simp
         with_reducible rfl
        rotate_left
        ·simp only [Act.put, Zj, Zk, Zm, i64_w, i32_w]
         rfl
        refine pure_ (i := 13) (N := some 46) (v := ?_) (a' := ?_) #[T, T, T, T, T, T, T, T, T, T, T, T, T, T, F, F, F, F, F, F, F, F, F, F, F, F, F, F, F, F, F, F, F, F, F, F] rfl rfl (any_of HT_.out (by kernel_rfl)) (fun _ _ _ h => h) (Or.inl ⟨by rfl, ?_⟩) ?_ ?_
        rotate_left
        ·intro w'
         go_simp
         with_reducible rfl
        rotate_left
        ·simp only [Act.put, Zj, Zk, Zm, i64_w, i32_w]
         rfl
        refine pure_ (i := 14) (N := some 47) (v := ?_) (a' := ?_) #[T, T, T, T, T, T, T, T, T, T, T, T, T, T, T, F, F, F, F, F, F, F, F, F, F, F, F, F, F, F, F, F, F, F, F, F] rfl rfl (any_of HT_.out (by kernel_rfl)) (fun _ _ _ h => h) (Or.inl ⟨by rfl, ?_⟩) ?_ ?_
        rotate_left
        ·intro w'
         go_simp
         with_reducible rfl
        rotate_left
        ·simp only [Act.put, Zj, Zk, Zm, i64_w, i32_w]
         rfl
        refine pure_ (i := 15) (N := some 48) (v := ?_) (a' := ?_) #[T, T, T, T, T, T, T, T, T, T, T, T, T, T, T, T, F, F, F, F, F, F, F, F, F, F, F, F, F, F, F, F, F, F, F, F] rfl rfl (any_of HT_.out (by kernel_rfl)) (fun _ _ _ h => h) (Or.inl ⟨by rfl, ?_⟩) ?_ ?_
        rotate_left
        ·intro w'
         go_simp
         with_reducible rfl
        rotate_left
        ·simp only [Act.put, Zj, Zk, Zm, i64_w, i32_w]
         rfl
        refine pure_ (i := 16) (N := some 49) (v := undef) (a' := ?_) #[T, T, T, T, T, T, T, T, T, T, T, T, T, T, T, T, T, F, F, F, F, F, F, F, F, F, F, F, F, F, F, F, F, F, F, F] rfl rfl (any_of HT_.out (by kernel_rfl)) (fun _ _ _ h => h) (Or.inr ⟨by rfl, rfl⟩) ?_ ?_
        rotate_left
        ·simp only [Act.put, Zj, Zk, Zm, i64_w, i32_w]
         rfl
        refine pure_ (i := 17) (N := some 50) (v := undef) (a' := ?_) #[T, T, T, T, T, T, T, T, T, T, T, T, T, T, T, T, T, T, F, F, F, F, F, F, F, F, F, F, F, F, F, F, F, F, F, F] rfl rfl (any_of HT_.out (by kernel_rfl)) (fun _ _ _ h => h) (Or.inr ⟨by rfl, rfl⟩) ?_ ?_
        rotate_left
        ·simp only [Act.put, Zj, Zk, Zm, i64_w, i32_w]
         rfl
        refine pure_ (i := 18) (N := some 51) (v := undef) (a' := ?_) #[T, T, T, T, T, T, T, T, T, T, T, T, T, T, T, T, T, T, T, F, F, F, F, F, F, F, F, F, F, F, F, F, F, F, F, F] rfl rfl (any_of HT_.out (by kernel_rfl)) (fun _ _ _ h => h) (Or.inr ⟨by rfl, rfl⟩) ?_ ?_
        rotate_left
        ·simp only [Act.put, Zj, Zk, Zm, i64_w, i32_w]
         rfl
        refine pure_ (i := 19) (N := some 52) (v := undef) (a' := ?_) #[T, T, T, T, T, T, T, T, T, T, T, T, T, T, T, T, T, T, T, T, F, F, F, F, F, F, F, F, F, F, F, F, F, F, F, F] rfl rfl (any_of HT_.out (by kernel_rfl)) (fun _ _ _ h => h) (Or.inr ⟨by rfl, rfl⟩) ?_ ?_
        rotate_left
        ·simp only [Act.put, Zj, Zk, Zm, i64_w, i32_w]
         rfl
        refine pure_ (i := 20) (N := some 53) (v := undef) (a' := ?_) #[T, T, T, T, T, T, T, T, T, T, T, T, T, T, T, T, T, T, T, T, T, F, F, F, F, F, F, F, F, F, F, F, F, F, F, F] rfl rfl (any_of HT_.out (by kernel_rfl)) (fun _ _ _ h => h) (Or.inr ⟨by rfl, rfl⟩) ?_ ?_
        rotate_left
        ·simp only [Act.put, Zj, Zk, Zm, i64_w, i32_w]
         rfl
        refine pure_ (i := 21) (N := some 54) (v := undef) (a' := ?_) #[T, T, T, T, T, T, T, T, T, T, T, T, T, T, T, T, T, T, T, T, T, T, F, F, F, F, F, F, F, F, F, F, F, F, F, F] rfl rfl (any_of HT_.out (by kernel_rfl)) (fun _ _ _ h => h) (Or.inr ⟨by rfl, rfl⟩) ?_ ?_
        rotate_left
        ·simp only [Act.put, Zj, Zk, Zm, i64_w, i32_w]
         rfl
        refine pure_ (i := 22) (N := some 55) (v := undef) (a' := ?_) #[T, T, T, T, T, T, T, T, T, T, T, T, T, T, T, T, T, T, T, T, T, T, T, F, F, F, F, F, F, F, F, F, F, F, F, F] rfl rfl (any_of HT_.out (by kernel_rfl)) (fun _ _ _ h => h) (Or.inr ⟨by rfl, rfl⟩) ?_ ?_
        rotate_left
        ·simp only [Act.put, Zj, Zk, Zm, i64_w, i32_w]
         rfl
        refine pure_ (i := 23) (N := some 56) (v := undef) (a' := ?_) #[T, T, T, T, T, T, T, T, T, T, T, T, T, T, T, T, T, T, T, T, T, T, T, T, F, F, F, F, F, F, F, F, F, F, F, F] rfl rfl (any_of HT_.out (by kernel_rfl)) (fun _ _ _ h => h) (Or.inr ⟨by rfl, rfl⟩) ?_ ?_
        rotate_left
        ·simp only [Act.put, Zj, Zk, Zm, i64_w, i32_w]
         rfl
        refine pure_ (i := 24) (N := some 57) (v := undef) (a' := ?_) #[T, T, T, T, T, T, T, T, T, T, T, T, T, T, T, T, T, T, T, T, T, T, T, T, T, F, F, F, F, F, F, F, F, F, F, F] rfl rfl (any_of HT_.out (by kernel_rfl)) (fun _ _ _ h => h) (Or.inr ⟨by rfl, rfl⟩) ?_ ?_
        rotate_left
        ·simp only [Act.put, Zj, Zk, Zm, i64_w, i32_w]
         rfl
        refine pure_ (i := 25) (N := some 58) (v := undef) (a' := ?_) #[T, T, T, T, T, T, T, T, T, T, T, T, T, T, T, T, T, T, T, T, T, T, T, T, T, T, F, F, F, F, F, F, F, F, F, F] rfl rfl (any_of HT_.out (by kernel_rfl)) (fun _ _ _ h => h) (Or.inr ⟨by rfl, rfl⟩) ?_ ?_
        rotate_left
        ·simp only [Act.put, Zj, Zk, Zm, i64_w, i32_w]
         rfl
        refine pure_ (i := 26) (N := some 59) (v := ?_) (a' := ?_) #[T, T, T, T, T, T, T, T, T, T, T, T, T, T, T, T, T, T, T, T, T, T, T, T, T, T, T, F, F, F, F, F, F, F, F, F] rfl rfl (any_of HT_.out (by kernel_rfl)) (fun _ _ _ h => h) (Or.inl ⟨by rfl, ?_⟩) ?_ ?_
        rotate_left
        ·intro w'
         go_simp
         with_reducible rfl
        rotate_left
        ·simp only [Act.put, Zj, Zk, Zm, i64_w, i32_w]
         rfl
        refine pure_ (i := 27) (N := some 60) (v := ?_) (a' := ?_) #[T, T, T, T, T, T, T, T, T, T, T, T, T, T, T, T, T, T, T, T, T, T, T, T, T, T, T, T, F, F, F, F, F, F, F, F] rfl rfl (any_of HT_.out (by kernel_rfl)) (fun _ _ _ h => h) (Or.inl ⟨by rfl, ?_⟩) ?_ ?_
        rotate_left
        ·intro w'
         go_simp
         with_reducible rfl
        rotate_left
        ·simp only [Act.put, Zj, Zk, Zm, i64_w, i32_w]
         rfl
        refine pure_ (i := 28) (N := some 61) (v := ?_) (a' := ?_) #[T, T, T, T, T, T, T, T, T, T, T, T, T, T, T, T, T, T, T, T, T, T, T, T, T, T, T, T, T, F, F, F, F, F, F, F] rfl rfl (any_of HT_.out (by kernel_rfl)) (fun _ _ _ h => h) (Or.inl ⟨by rfl, ?_⟩) ?_ ?_
        rotate_left
        ·intro w'
         go_simp
         with_reducible rfl
        rotate_left
        ·simp only [Act.put, Zj, Zk, Zm, i64_w, i32_w]
         rfl
        refine pure_ (i := 29) (N := some 62) (v := ?_) (a' := ?_) #[T, T, T, T, T, T, T, T, T, T, T, T, T, T, T, T, T, T, T, T, T, T, T, T, T, T, T, T, T, T, F, F, F, F, F, F] rfl rfl (any_of HT_.out (by kernel_rfl)) (fun _ _ _ h => h) (Or.inl ⟨by rfl, ?_⟩) ?_ ?_
        rotate_left
        ·intro w'
         go_simp
         with_reducible rfl
        rotate_left
        ·simp only [Act.put, Zj, Zk, Zm, i64_w, i32_w]
         rfl
        refine pure_ (i := 30) (N := some 63) (v := ?_) (a' := ?_) #[T, T, T, T, T, T, T, T, T, T, T, T, T, T, T, T, T, T, T, T, T, T, T, T, T, T, T, T, T, T, T, F, F, F, F, F] rfl rfl (any_of HT_.out (by kernel_rfl)) (fun _ _ _ h => h) (Or.inl ⟨by rfl, ?_⟩) ?_ ?_
        rotate_left
        ·intro w'
         go_simp
         with_reducible rfl
        rotate_left
        ·simp only [Act.put, Zj, Zk, Zm, i64_w, i32_w]
         rfl
        refine pure_ (i := 31) (N := some 64) (v := ?_) (a' := ?_) #[T, T, T, T, T, T, T, T, T, T, T, T, T, T, T, T, T, T, T, T, T, T, T, T, T, T, T, T, T, T, T, T, F, F, F, F] rfl rfl (any_of HT_.out (by kernel_rfl)) (fun _ _ _ h => h) (Or.inl ⟨by rfl, ?_⟩) ?_ ?_
        rotate_left
        ·intro w'
         go_simp
         with_reducible rfl
        rotate_left
        ·simp only [Act.put, Zj, Zk, Zm, i64_w, i32_w]
         rfl
        refine take_ (i := 32) (N := some 65) (v := ?_) (a' := ?_) #[T, T, T, T, T, T, T, T, T, T, T, T, T, T, T, T, T, T, T, T, T, T, T, T, T, T, T, T, T, T, T, T, T, F, F, F] rfl rfl (QaH HT_.out HW_.out (by kernel_rfl)) (fun _ _ _ h => h) (Or.inl ⟨by rfl, ?_⟩) hHeld ?_ ?_
        rotate_left
        ·rintro w' ⟨s0, s1, s2⟩
         go_simp
         with_reducible rfl
        rotate_left
        ·simp only [Act.put, Zj, Zk, Zm, i64_w, i32_w]
         rfl
        refine one_ (i := 33) (N := some 66) #[T, T, T, T, T, T, T, T, T, T, T, T, T, T, T, T, T, T, T, T, T, T, T, T, T, T, T, T, T, T, T, T, T, T, F, F] rfl rfl (one_of HT_.out (by kernel_rfl)) (by decide) (fun K hK => ?_)
        refine goes_ Try.func64 (by kernel_rfl) rfl #[.int .i64 (rd l1 x10_1)] (by rfl) rfl rfl (Zl) ?_
        with_reducible refine (QaS.calls (rd l1 x10_1) t631 _ A24.out).mono ?_
        rintro e w' ⟨rfl, ⟨nd, rfl⟩⟩
        refine ⟨_, rfl, ?_⟩
        refine hK.out _ _ ⟨((HB.out.cell (World.block_lt_of_cell? w _ hw624_0)).trans hw624_0), ((HB.out.cell (World.block_lt_of_cell? w _ hw625_0)).trans hw625_0), ((HB.out.cell (World.block_lt_of_cell? w _ hw630_0)).trans hw630_0)⟩ (fun hHeld => ?_)
        clear hK K
        refine norm_ (a' := ?_) ?_ ?_
        rotate_left
        ·show Act.put _ (some 66) _ = _
         simp only [Act.put, Zj, Zk, Zm, i64_w, i32_w]
         rfl
        refine pure_ (i := 34) (N := some 67) (v := ?_) (a' := ?_) #[T, T, T, T, T, T, T, T, T, T, T, T, T, T, T, T, T, T, T, T, T, T, T, T, T, T, T, T, T, T, T, T, T, T, T, F] rfl rfl (any_of HT_.out (by kernel_rfl)) (fun _ _ _ h => h) (Or.inl ⟨by rfl, ?_⟩) ?_ ?_
        rotate_left
        ·intro w'
         go_simp
         with_reducible rfl
        rotate_left
        ·simp only [Act.put, Zj, Zk, Zm, i64_w, i32_w]
         rfl
        refine pure_ (i := 35) (N := some 68) (v := ?_) (a' := ?_) #[T, T, T, T, T, T, T, T, T, T, T, T, T, T, T, T, T, T, T, T, T, T, T, T, T, T, T, T, T, T, T, T, T, T, T, T] rfl rfl (any_of HT_.out (by kernel_rfl)) (fun _ _ _ h => h) (Or.inl ⟨by rfl, ?_⟩) ?_ ?_
        rotate_left
        ·intro w'
         go_simp
         with_reducible rfl
        rotate_left
        ·simp only [Act.put, Zj, Zk, Zm, i64_w, i32_w]
         rfl
        refine done_ (Qa5 HT_.out (by kernel_rfl)) ?_
        go_upto_if 68 with (fail)
        by_cases c26 : t631 = T
        ·subst c26
         have H1 : (Qad.l0 k1 l0 l1 l2 (wrap64 (x10_1 + 1))) = some (r1, r2, r3) := by rw [if_pos rfl] at H; exact H
         clear H
         have H := H1
         clear H1
         have H' := Aside0.mk H
         clear H
         go_wp2
         go_roundg k1
         case measure => have := HK1.out; omega
         case rel => exact ⟨(wrap64 (x10_1 + 1)), (Zs), H', ⟨by have := HK1.out; omega⟩, ⟨Zb⟩⟩
        replace c26 := Bool.eq_false_iff.mpr c26
        subst c26
        have H1 : (some (([] : List Int), ([] : List Int), 2)) = some (r1, r2, r3) := by rw [if_neg (show ¬ (F = T) by decide)] at H; exact H
        clear H
        have H := H1
        clear H1
        simp only [Option.some.injEq, Prod.mk.injEq] at H
        obtain ⟨rfl, rfl, rfl⟩ := H
        go_wp2
        go_ret3
        exact ⟨_, _, Zq, by first | exact Kd.R_nil _ _ _ _ _ | exact Kd.N_nil _ _ _ _ _ | exact Kd.V_nil _ _ _ _ _ | exact Kd.Q_nil _ _ _ _ _ | exact Kd.S_nil _ _ _ _ _, by first | exact Kd.R_nil _ _ _ _ _ | exact Kd.N_nil _ _ _ _ _ | exact Kd.V_nil _ _ _ _ _ | exact Kd.Q_nil _ _ _ _ _ | exact Kd.S_nil _ _ _ _ _, Zb⟩
       rw [if_neg c23] at H
       exact absurd H (by simp)
      rw [if_neg c8] at H
      exact absurd H (by simp)
     rw [if_neg c7] at H
     have c7b0 : decide (x10_1 < (l0.length : Int)) = F := decide_eq_false c7
     clear c7
     (try simp only [c7b0])
     by_cases c27 : ([] : List Int).length + l1.length < 17592186044416
     ·rw [if_pos c27] at H
      have LMc27 := Aside0.mk c27
      clear c27
      obtain ⟨y632, hy632⟩ : ∃ y_ : List Int, y_ = (([] : List Int) ++ l1) := ⟨_, rfl⟩
      replace H : (Qad.l1 k1 l0 l2 y632 ([] : List Int) 0) = some (r1, r2, r3) := by first | (rw [hy632]; with_reducible exact H) | (have H2_ := (Option.bind_some _ _).symm.trans H; rw [hy632]; with_reducible exact H2_) | (have H2_ := (Option.bind_some _ _).symm.trans H; with_reducible exact H2_) | with_reducible exact H | (rw [hy632]; exact H) | exact H
      have Ny632 := Aside0.mk hy632
      clear hy632
      have H' := Aside0.mk H
      clear H
      go_wp2_with (first | ((with_reducible refine Qbh (b := .append) (xs := #[.tmp 69, .tmp 70]) rfl ?_); at_builtin; refine Kd.R_append_rows (Kd.int .i64) (w0 := w) w.heap.size rfl (.tmp 69) (.tmp 70) 46 3 (.int .i64 0) 8 rfl Try.underlying46 info3 rfl (by decide) (by omega) (.slice none 0 0) ([] : List Int) l1 _ _ _ (fun _ => True) (fun _ => False) rfl rfl ?aO ?aR (fun _ _ h => h) (fun _ h => h.elim) ?aF ?aB ?aS ?aL ?_; (case aR => exact Zv (Kd.C_below HR1.out HB.out)); (case aB => exact (Zb)); (case aF => exact (fun _ _ => trivial)); (case aO => exact ((Kd.R_nil _ _ _ _ (fun _ => True)))); (case aS => exact (Qay (Zb))); (case aL => have := LMc27.out; omega); intro v633 w28 ho hb hg hat; rw [← Ny632.out] at ho; have HO634 := Aside0.mk (ho); replace HB := Aside0.mk (hb); clear ho hb hg hat))
      go_loopg [12, 13] k1 (fun kq v12 v13 w' => ∃ (x11_2 : List Int) (x12_2 : List Int) (x13_2 : Int), v13 = .int .i64 x13_2 ∧ Aside0 (Qad.l1 kq l0 l2 x11_2 x12_2 x13_2 = some (r1, r2, r3)) ∧ Aside0 (kq ≤ k1) ∧ Aside0 (Kd.R (Kd.int .i64) 3 w' w.heap.size (fun k_ => some k_ ≠ (v12 : Value).ownBlock) v633 x11_2) ∧ Aside0 (Kd.R (Kd.int .i64) 3 w' w.heap.size (fun k_ => some k_ ≠ (v633 : Value).ownBlock) v12 x12_2) ∧ Aside0 (Below w.heap.size w w'))
      case atStart => exact ⟨(y632), (([] : List Int)), (0), (Zs), H', ⟨Nat.le_refl _⟩, ⟨by (with_reducible repeat (first | apply Kd.R_alloc | apply Kd.R_drewN | apply Kd.R_drew)); exact Kd.R_mono HO634.out (fun _ hk => (by simp [Value.ownBlock]))⟩, ⟨by first | exact Kd.R_nil _ _ _ _ _ | exact Kd.N_nil _ _ _ _ _ | exact Kd.V_nil _ _ _ _ _ | exact Kd.Q_nil _ _ _ _ _ | exact Kd.S_nil _ _ _ _ _⟩, ⟨Zb⟩⟩
      case round =>
       clear H'
       try clear c1
       try clear c2
       try clear p2
       try clear c6
       try clear p6
       try clear q6
       try clear hx6
       try clear c7
       try clear c7b0
       try clear c8
       try clear c13
       try clear c13b0
       try clear c15
       try clear c16
       try clear c19
       try clear c22
       try clear c23
       try clear c23b0
       try clear c26
       try clear c27
       try clear hx624_0
       try clear hx625_0
       try clear hx630_0
       try clear p624
       try clear p625
       try clear p630
       try clear q624
       try clear q625
       try clear q630
       obtain ⟨x11_2, x12_2, x13_2, rfl, HA, HK2, HO_11, HO_12, HB⟩ := hrel
       cases gk with
       | zero => exact absurd HA.out (by simp [Qad.l1])
       | succ k2 =>
        have H := HA.out
        clear HA
        simp only [Qad.l1] at H
        by_cases c29 : x13_2 < (l2.length : Int)
        ·rw [if_pos c29] at H
         have c29b0 : decide (x13_2 < (l2.length : Int)) = T := decide_eq_true c29
         clear c29
         (try simp only [c29b0])
         by_cases c30 : 0 ≤ x13_2
         ·rw [if_pos c30] at H
          have c30b0 : decide (0 ≤ x13_2) = T := decide_eq_true c30
          clear c30
          replace H := Option.bind_eq_some_iff.mp H
          obtain ⟨t636, A310, H⟩ := H
          replace H : ((Qas.f k2 l0 ((rd_T91 l2 x13_2).f1)).bind fun t638 => (if t636 ≥ 0 then (Qad.j2 k2 l0 l2 x11_2 x12_2 x13_2 t636 t638 0 (decide (t638 ≥ 0))) else (Qad.j2 k2 l0 l2 x11_2 x12_2 x13_2 t636 t638 0 F))) = some (r1, r2, r3) := H
          have A31 := Aside0.mk A310
          clear A310
          replace H := Option.bind_eq_some_iff.mp H
          obtain ⟨t638, A320, H⟩ := H
          replace H : (if t636 ≥ 0 then (Qad.j2 k2 l0 l2 x11_2 x12_2 x13_2 t636 t638 0 (decide (t638 ≥ 0))) else (Qad.j2 k2 l0 l2 x11_2 x12_2 x13_2 t636 t638 0 F)) = some (r1, r2, r3) := H
          have A32 := Aside0.mk A320
          clear A320
          have HC33 := Aside0.mk H
          clear H
          try go_wp2
          (try (rw [QaW wr]; generalize hq_ : World.drewN wr _ = wr; have n0_ : Aside0 (Kd.R (Kd.int .i64) 3 wr w.heap.size (fun k_ => some k_ ≠ (u12 : Value).ownBlock) v633 x11_2) := ⟨by rw [← hq_]; exact (Zr HO_11.out)⟩; have n1_ : Aside0 (Kd.R (Kd.int .i64) 3 wr w.heap.size (fun k_ => some k_ ≠ (v633 : Value).ownBlock) u12 x12_2) := ⟨by rw [← hq_]; exact (Zr HO_12.out)⟩; have n2_ : Aside0 (Below w.heap.size w wr) := ⟨by rw [← hq_]; exact (Zb)⟩; clear HO_11 HO_12 HB hq_; have HO_11 := n0_; have HO_12 := n1_; have HB := n2_; clear n0_ n1_ n2_))
          (try (rw [QaW wr]; generalize hq_ : World.drewN wr _ = wr; have n0_ : Aside0 (Kd.R (Kd.int .i64) 3 wr w.heap.size (fun k_ => some k_ ≠ (u12 : Value).ownBlock) v633 x11_2) := ⟨by rw [← hq_]; exact (Zr HO_11.out)⟩; have n1_ : Aside0 (Kd.R (Kd.int .i64) 3 wr w.heap.size (fun k_ => some k_ ≠ (v633 : Value).ownBlock) u12 x12_2) := ⟨by rw [← hq_]; exact (Zr HO_12.out)⟩; have n2_ : Aside0 (Below w.heap.size w wr) := ⟨by rw [← hq_]; exact (Zb)⟩; clear HO_11 HO_12 HB hq_; have HO_11 := n0_; have HO_12 := n1_; have HB := n2_; clear n0_ n1_ n2_))
          replace HO_11 := Aside0.mk (Kd.R_drew HO_11.out)
          replace HO_12 := Aside0.mk (Kd.R_drew HO_12.out)
          replace HB := Aside0.mk (Qab HB.out)
          have p635 : 0 ≤ (x13_2 : Int) := Ze
          have q635 : x13_2 < (l2.length : Int) := Ze
          obtain ⟨ad635, e635, hx635_0, hx635_1, hx635_2⟩ := at_T91 HR2.out x13_2 p635 q635
          have hw635_2 := hx635_2
          have hw635_1 := hx635_1
          have hw635_0 := hx635_0
          cases e635
          replace hx635_0 := Zx HB.out hx635_0
          replace hx635_1 := Zx HB.out hx635_1
          replace hx635_2 := Zx HB.out hx635_2
          replace p635 := eq_true p635
          replace q635 := eq_true q635
          have p637 : 0 ≤ (x13_2 : Int) := Ze
          have q637 : x13_2 < (l2.length : Int) := Ze
          obtain ⟨ad637, e637, hx637_0, hx637_1, hx637_2⟩ := at_T91 HR2.out x13_2 p637 q637
          have hw637_2 := hx637_2
          have hw637_1 := hx637_1
          have hw637_0 := hx637_0
          obtain rfl : ad635 = ad637 := (by injection e637)
          replace hx637_0 := Zx HB.out hx637_0
          replace hx637_1 := Zx HB.out hx637_1
          replace hx637_2 := Zx HB.out hx637_2
          replace p637 := eq_true p637
          replace q637 := eq_true q637
          refine start_ (n := 16) (S := fun w' => w'.cell? (ad635.add ((x13_2).toNat * 3)) = some (.int .i64 ((rd_T91 l2 x13_2).f0)) ∧ w'.cell? ⟨(ad635.add ((x13_2).toNat * 3)).block, (ad635.add ((x13_2).toNat * 3)).off + 1, none⟩ = some (.int .i64 ((rd_T91 l2 x13_2).f1)) ∧ w'.cell? ⟨(ad635.add ((x13_2).toNat * 3)).block, (ad635.add ((x13_2).toNat * 3)).off + 2, none⟩ = some (.int .i64 ((rd_T91 l2 x13_2).f2)) ∧ w'.cell? (ad635.add ((x13_2).toNat * 3)) = some (.int .i64 ((rd_T91 l2 x13_2).f0)) ∧ w'.cell? ⟨(ad635.add ((x13_2).toNat * 3)).block, (ad635.add ((x13_2).toNat * 3)).off + 1, none⟩ = some (.int .i64 ((rd_T91 l2 x13_2).f1)) ∧ w'.cell? ⟨(ad635.add ((x13_2).toNat * 3)).block, (ad635.add ((x13_2).toNat * 3)).off + 2, none⟩ = some (.int .i64 ((rd_T91 l2 x13_2).f2))) (ds := []) #[F, F, F, F, F, F, F, F, F, F, F, F, F, F, F, F] (by kernel_rfl) rfl rfl ⟨((HB.out.cell (World.block_lt_of_cell? w _ hw635_0)).trans hw635_0), ((HB.out.cell (World.block_lt_of_cell? w _ hw635_1)).trans hw635_1), ((HB.out.cell (World.block_lt_of_cell? w _ hw635_2)).trans hw635_2), ((HB.out.cell (World.block_lt_of_cell? w _ hw637_0)).trans hw637_0), ((HB.out.cell (World.block_lt_of_cell? w _ hw637_1)).trans hw637_1), ((HB.out.cell (World.block_lt_of_cell? w _ hw637_2)).trans hw637_2)⟩ (fun hHeld => ?_); refine Qa1 Qad.tab16 Qad.bits16 (fun HT_ HW_ => ?_)
          generalize wr.drew = w34 at HO_11 HO_12 HB hx635_0 hx635_1 hx635_2 hx637_0 hx637_1 hx637_2 hHeld ⊢
          refine pure_ (i := 0) (N := some 78) (v := ?_) (a' := ?_) #[T, F, F, F, F, F, F, F, F, F, F, F, F, F, F, F] rfl rfl (any_of HT_.out (by kernel_rfl)) (fun _ _ _ h => h) (Or.inl ⟨by rfl, ?_⟩) ?_ ?_
          rotate_left
          ·intro w'
           go_simp
           with_reducible rfl
          rotate_left
          ·simp only [Act.put, Zj, Zk, Zm, i64_w, i32_w]
           rfl
          refine pure_ (i := 1) (N := some 79) (v := ?_) (a' := ?_) #[T, T, F, F, F, F, F, F, F, F, F, F, F, F, F, F] rfl rfl (any_of HT_.out (by kernel_rfl)) (fun _ _ _ h => h) (Or.inl ⟨by rfl, ?_⟩) ?_ ?_
          rotate_left
          ·intro w'
           go_simp
           with_reducible rfl
          rotate_left
          ·simp only [Act.put, Zj, Zk, Zm, i64_w, i32_w]
           rfl
          refine pure_ (i := 2) (N := some 80) (v := ?_) (a' := ?_) #[T, T, T, F, F, F, F, F, F, F, F, F, F, F, F, F] rfl rfl (any_of HT_.out (by kernel_rfl)) (fun _ _ _ h => h) (Or.inl ⟨by rfl, ?_⟩) ?_ ?_
          rotate_left
          ·intro w'
           go_simp
           with_reducible rfl
          rotate_left
          ·simp only [Act.put, Zj, Zk, Zm, i64_w, i32_w]
           rfl
          refine pure_ (i := 3) (N := some 81) (v := ?_) (a' := ?_) #[T, T, T, T, F, F, F, F, F, F, F, F, F, F, F, F] rfl rfl (any_of HT_.out (by kernel_rfl)) (fun _ _ _ h => h) (Or.inl ⟨by rfl, ?_⟩) ?_ ?_
          rotate_left
          ·intro w'
           go_simp
           with_reducible rfl
          rotate_left
          ·simp only [Act.put, Zj, Zk, Zm, i64_w, i32_w]
           rfl
          refine pure_ (i := 4) (N := some 82) (v := ?_) (a' := ?_) #[T, T, T, T, T, F, F, F, F, F, F, F, F, F, F, F] rfl rfl (any_of HT_.out (by kernel_rfl)) (fun _ _ _ h => h) (Or.inl ⟨by rfl, ?_⟩) ?_ ?_
          rotate_left
          ·intro w'
           go_simp
           with_reducible rfl
          rotate_left
          ·simp only [Act.put, Zj, Zk, Zm, i64_w, i32_w]
           rfl
          refine pure_ (i := 7) (N := some 85) (v := ?_) (a' := ?_) #[T, T, T, T, T, F, F, T, F, F, F, F, F, F, F, F] rfl rfl (any_of HT_.out (by kernel_rfl)) (fun _ _ _ h => h) (Or.inl ⟨by rfl, ?_⟩) ?_ ?_
          rotate_left
          ·intro w'
           go_simp
           with_reducible rfl
          rotate_left
          ·simp only [Act.put, Zj, Zk, Zm, i64_w, i32_w]
           rfl
          refine pure_ (i := 8) (N := some 86) (v := ?_) (a' := ?_) #[T, T, T, T, T, F, F, T, T, F, F, F, F, F, F, F] rfl rfl (any_of HT_.out (by kernel_rfl)) (fun _ _ _ h => h) (Or.inl ⟨by rfl, ?_⟩) ?_ ?_
          rotate_left
          ·intro w'
           go_simp
           with_reducible rfl
          rotate_left
          ·simp only [Act.put, Zj, Zk, Zm, i64_w, i32_w]
           rfl
          refine pure_ (i := 9) (N := some 87) (v := ?_) (a' := ?_) #[T, T, T, T, T, F, F, T, T, T, F, F, F, F, F, F] rfl rfl (any_of HT_.out (by kernel_rfl)) (fun _ _ _ h => h) (Or.inl ⟨by rfl, ?_⟩) ?_ ?_
          rotate_left
          ·intro w'
           go_simp
           with_reducible rfl
          rotate_left
          ·simp only [Act.put, Zj, Zk, Zm, i64_w, i32_w]
           rfl
          refine pure_ (i := 10) (N := some 88) (v := ?_) (a' := ?_) #[T, T, T, T, T, F, F, T, T, T, T, F, F, F, F, F] rfl rfl (any_of HT_.out (by kernel_rfl)) (fun _ _ _ h => h) (Or.inl ⟨by rfl, ?_⟩) ?_ ?_
          rotate_left
          ·intro w'
           go_simp
           with_reducible rfl
          rotate_left
          ·simp only [Act.put, Zj, Zk, Zm, i64_w, i32_w]
           rfl
          refine pure_ (i := 11) (N := some 89) (v := ?_) (a' := ?_) #[T, T, T, T, T, F, F, T, T, T, T, T, F, F, F, F] rfl rfl (any_of HT_.out (by kernel_rfl)) (fun _ _ _ h => h) (Or.inl ⟨by rfl, ?_⟩) ?_ ?_
          rotate_left
          ·intro w'
           go_simp
           with_reducible rfl
          rotate_left
          ·simp only [Act.put, Zj, Zk, Zm, i64_w, i32_w]
           rfl
          refine take_ (i := 5) (N := some 83) (v := ?_) (a' := ?_) #[T, T, T, T, T, T, F, T, T, T, T, T, F, F, F, F] rfl rfl (QaH HT_.out HW_.out (by kernel_rfl)) (fun _ _ _ h => h) (Or.inl ⟨by rfl, ?_⟩) hHeld ?_ ?_
          rotate_left
          ·rintro w' ⟨s0, s1, s2, s3, s4, s5⟩
           go_simp
           with_reducible rfl
          rotate_left
          ·simp only [Act.put, Zj, Zk, Zm, i64_w, i32_w]
           rfl
          refine take_ (i := 12) (N := some 90) (v := ?_) (a' := ?_) #[T, T, T, T, T, T, F, T, T, T, T, T, T, F, F, F] rfl rfl (QaH HT_.out HW_.out (by kernel_rfl)) (fun _ _ _ h => h) (Or.inl ⟨by rfl, ?_⟩) hHeld ?_ ?_
          rotate_left
          ·rintro w' ⟨s0, s1, s2, s3, s4, s5⟩
           go_simp
           with_reducible rfl
          rotate_left
          ·simp only [Act.put, Zj, Zk, Zm, i64_w, i32_w]
           rfl
          refine one_ (i := 6) (N := some 84) #[T, T, T, T, T, T, T, T, T, T, T, T, T, F, F, F] rfl rfl (one_of HT_.out (by kernel_rfl)) (by decide) (fun K hK => ?_)
          refine goes_ Try.func65 (by kernel_rfl) rfl #[.slice A0 l0.length c0, .int .i64 ((rd_T91 l2 x13_2).f0)] (by rfl) rfl rfl (Zl) ?_
          with_reducible refine (Qas.calls k2 _ _ l0 ((rd_T91 l2 x13_2).f0) t636 _ ?side1 ?side2 A31.out).mono ?_
          (case side1 => exact Zv (Kd.C_below HR0.out HB.out))
          (case side2 => exact HC0.out)
          rintro e w' ⟨rfl, ⟨nd, rfl⟩⟩
          refine ⟨_, rfl, ?_⟩
          refine hK.out _ _ ⟨((HB.out.cell (World.block_lt_of_cell? w _ hw635_0)).trans hw635_0), ((HB.out.cell (World.block_lt_of_cell? w _ hw635_1)).trans hw635_1), ((HB.out.cell (World.block_lt_of_cell? w _ hw635_2)).trans hw635_2), ((HB.out.cell (World.block_lt_of_cell? w _ hw637_0)).trans hw637_0), ((HB.out.cell (World.block_lt_of_cell? w _ hw637_1)).trans hw637_1), ((HB.out.cell (World.block_lt_of_cell? w _ hw637_2)).trans hw637_2)⟩ (fun hHeld => ?_)
          clear hK K
          refine norm_ (a' := ?_) ?_ ?_
          rotate_left
          ·show Act.put _ (some 84) _ = _
           simp only [Act.put, Zj, Zk, Zm, i64_w, i32_w]
           rfl
          refine one_ (i := 13) (N := some 91) #[T, T, T, T, T, T, T, T, T, T, T, T, T, T, F, F] rfl rfl (one_of HT_.out (by kernel_rfl)) (by decide) (fun K hK => ?_)
          refine goes_ Try.func65 (by kernel_rfl) rfl #[.slice A0 l0.length c0, .int .i64 ((rd_T91 l2 x13_2).f1)] (by rfl) rfl rfl (Zl) ?_
          with_reducible refine (Qas.calls k2 _ _ l0 ((rd_T91 l2 x13_2).f1) t638 _ ?side1 ?side2 A32.out).mono ?_
          (case side1 => exact Zv (Kd.C_below HR0.out (Zb)))
          (case side2 => exact HC0.out)
          rintro e w' ⟨rfl, ⟨nd, rfl⟩⟩
          refine ⟨_, rfl, ?_⟩
          refine hK.out _ _ ⟨((HB.out.cell (World.block_lt_of_cell? w _ hw635_0)).trans hw635_0), ((HB.out.cell (World.block_lt_of_cell? w _ hw635_1)).trans hw635_1), ((HB.out.cell (World.block_lt_of_cell? w _ hw635_2)).trans hw635_2), ((HB.out.cell (World.block_lt_of_cell? w _ hw637_0)).trans hw637_0), ((HB.out.cell (World.block_lt_of_cell? w _ hw637_1)).trans hw637_1), ((HB.out.cell (World.block_lt_of_cell? w _ hw637_2)).trans hw637_2)⟩ (fun hHeld => ?_)
          clear hK K
          refine norm_ (a' := ?_) ?_ ?_
          rotate_left
          ·show Act.put _ (some 91) _ = _
           simp only [Act.put, Zj, Zk, Zm, i64_w, i32_w]
           rfl
          refine pure_ (i := 14) (N := some 14) (v := ?_) (a' := ?_) #[T, T, T, T, T, T, T, T, T, T, T, T, T, T, T, F] rfl rfl (any_of HT_.out (by kernel_rfl)) (fun _ _ _ h => h) (Or.inl ⟨by rfl, ?_⟩) ?_ ?_
          rotate_left
          ·intro w'
           go_simp
           with_reducible rfl
          rotate_left
          ·simp only [Act.put, Zj, Zk, Zm, i64_w, i32_w]
           rfl
          refine pure_ (i := 15) (N := some 15) (v := ?_) (a' := ?_) #[T, T, T, T, T, T, T, T, T, T, T, T, T, T, T, T] rfl rfl (any_of HT_.out (by kernel_rfl)) (fun _ _ _ h => h) (Or.inl ⟨by rfl, ?_⟩) ?_ ?_
          rotate_left
          ·intro w'
           go_simp
           with_reducible rfl
          rotate_left
          ·simp only [Act.put, Zj, Zk, Zm, i64_w, i32_w]
           rfl
          refine done_ (Qa5 HT_.out (by kernel_rfl)) ?_
          go_upto_region 18 with (fail)
          go_cut [97] (fun v97 wc => ∃ (kq : Nat) (x97_32 : Bool), v97 = .bool x97_32 ∧ Aside0 (Qad.j2 kq l0 l2 x11_2 x12_2 x13_2 t636 t638 0 x97_32 = some (r1, r2, r3)) ∧ Aside0 (kq ≤ k2) ∧ Aside0 (Kd.R (Kd.int .i64) 3 wc w.heap.size (fun k_ => some k_ ≠ (u12 : Value).ownBlock) v633 x11_2) ∧ Aside0 (Kd.R (Kd.int .i64) 3 wc w.heap.size (fun k_ => some k_ ≠ (v633 : Value).ownBlock) u12 x12_2) ∧ Aside0 (Below w.heap.size w wc))
          case first =>
           have H := HC33.out
           clear HC33
           by_cases c35 : t636 ≥ 0
           ·rw [if_pos c35] at H
            have c35b0 : decide (0 ≤ t636) = T := decide_eq_true c35
            clear c35
            have H' := Aside0.mk H
            clear H
            go_wp2
            go_meet
            case rel => exact ⟨_, (decide (t638 ≥ 0)), (Zs), H', ⟨by have := HK1.out; have := HK2.out; first | omega | exact Nat.le_refl _⟩, ⟨Zr HO_11.out⟩, ⟨Zr HO_12.out⟩, ⟨Zb⟩⟩
           rw [if_neg c35] at H
           have c35b0 : decide (0 ≤ t636) = F := decide_eq_false c35
           clear c35
           have H' := Aside0.mk H
           clear H
           go_wp2
           go_meet
           case rel => exact ⟨_, (F), (Zs), H', ⟨by have := HK1.out; have := HK2.out; first | omega | exact Nat.le_refl _⟩, ⟨Zr HO_11.out⟩, ⟨Zr HO_12.out⟩, ⟨Zb⟩⟩
          case rest =>
           clear HC33
           try clear c1
           try clear c2
           try clear p2
           try clear c3
           try clear c6
           try clear p6
           try clear q6
           try clear hx6
           try clear c7
           try clear c7b0
           try clear c8
           try clear c13
           try clear c13b0
           try clear c15
           try clear c16
           try clear c19
           try clear c22
           try clear c23
           try clear c23b0
           try clear c26
           try clear c27
           try clear c29
           try clear c29b0
           try clear c30
           try clear c30b0
           try clear c35
           try clear c35b0
           try clear hx624_0
           try clear hx625_0
           try clear hx630_0
           try clear hx635_0
           try clear hx635_1
           try clear hx635_2
           try clear hx637_0
           try clear hx637_1
           try clear hx637_2
           try clear p2
           try clear p6
           try clear p624
           try clear p625
           try clear p630
           try clear p635
           try clear p637
           try clear q6
           try clear q624
           try clear q625
           try clear q630
           try clear q635
           try clear q637
           obtain ⟨kq, x97_32, rfl, HA, HJ32, HO_11, HO_12, HB⟩ := hcut
           cases kq with
           | zero => exact absurd HA.out (by simp [Qad.j2])
           | succ kj32 =>
            have H := HA.out
            clear HA
            simp only [Qad.j2] at H
            by_cases c36 : x97_32 = T
            ·subst c36
             have H1 : (if 0 ≤ t636 then (if t636 < (x11_2.length : Int) then (if 0 ≤ t638 then (if t638 < (x11_2.length : Int) then ((Qam.f kj32 (rd x11_2 t636) (rd x11_2 t638)).bind fun t641 => ((QaL.f (rd x11_2 t636) t641).bind fun t643 => ((some (x11_2.set (t636 : Int).toNat t643 : List Int)).bind fun y644 => ((QaL.f (rd y644 t638) t641).bind fun t646 => (if x12_2.length < 17592186044416 then (Qad.l1 kj32 l0 l2 (y644.set (t638 : Int).toNat t646) (x12_2 ++ [t641]) (wrap64 (x13_2 + 1))) else (none)))))) else (none)) else (none)) else (none)) else (none)) = some (r1, r2, r3) := by rw [if_pos rfl] at H; exact H
             clear H
             have H := H1
             clear H1
             by_cases c37 : 0 ≤ t636
             ·rw [if_pos c37] at H
              have c37b0 : decide (0 ≤ t636) = T := decide_eq_true c37
              clear c37
              (try simp only [c37b0])
              by_cases c38 : t636 < (x11_2.length : Int)
              ·rw [if_pos c38] at H
               have c38b0 : decide (t636 < (x11_2.length : Int)) = T := decide_eq_true c38
               clear c38
               by_cases c39 : 0 ≤ t638
               ·rw [if_pos c39] at H
                have c39b0 : decide (0 ≤ t638) = T := decide_eq_true c39
                clear c39
                by_cases c40 : t638 < (x11_2.length : Int)
                ·rw [if_pos c40] at H
                 have c40b0 : decide (t638 < (x11_2.length : Int)) = T := decide_eq_true c40
                 clear c40
                 replace H := Option.bind_eq_some_iff.mp H
                 obtain ⟨t641, A410, H⟩ := H
                 replace H : ((QaL.f (rd x11_2 t636) t641).bind fun t643 => ((some (x11_2.set (t636 : Int).toNat t643 : List Int)).bind fun y644 => ((QaL.f (rd y644 t638) t641).bind fun t646 => (if x12_2.length < 17592186044416 then (Qad.l1 kj32 l0 l2 (y644.set (t638 : Int).toNat t646) (x12_2 ++ [t641]) (wrap64 (x13_2 + 1))) else (none))))) = some (r1, r2, r3) := H
                 have A41 := Aside0.mk A410
                 clear A410
                 replace H := Option.bind_eq_some_iff.mp H
                 obtain ⟨t643, A420, H⟩ := H
                 replace H : ((some (x11_2.set (t636 : Int).toNat t643 : List Int)).bind fun y644 => ((QaL.f (rd y644 t638) t641).bind fun t646 => (if x12_2.length < 17592186044416 then (Qad.l1 kj32 l0 l2 (y644.set (t638 : Int).toNat t646) (x12_2 ++ [t641]) (wrap64 (x13_2 + 1))) else (none)))) = some (r1, r2, r3) := H
                 have A42 := Aside0.mk A420
                 clear A420
                 obtain ⟨y644, hy644⟩ : ∃ y_ : List Int, y_ = (x11_2.set (t636 : Int).toNat t643) := ⟨_, rfl⟩
                 replace H : ((QaL.f (rd y644 t638) t641).bind fun t646 => (if x12_2.length < 17592186044416 then (Qad.l1 kj32 l0 l2 (y644.set (t638 : Int).toNat t646) (x12_2 ++ [t641]) (wrap64 (x13_2 + 1))) else (none))) = some (r1, r2, r3) := by first | (rw [hy644]; with_reducible exact H) | (have H2_ := (Option.bind_some _ _).symm.trans H; rw [hy644]; with_reducible exact H2_) | (have H2_ := (Option.bind_some _ _).symm.trans H; with_reducible exact H2_) | with_reducible exact H | (rw [hy644]; exact H) | exact H
                 have Ny644 := Aside0.mk hy644
                 clear hy644
                 replace H := Option.bind_eq_some_iff.mp H
                 obtain ⟨t646, A440, H⟩ := H
                 replace H : (if x12_2.length < 17592186044416 then (Qad.l1 kj32 l0 l2 (y644.set (t638 : Int).toNat t646) (x12_2 ++ [t641]) (wrap64 (x13_2 + 1))) else (none)) = some (r1, r2, r3) := H
                 have A44 := Aside0.mk A440
                 clear A440
                 obtain ⟨y647, hy647⟩ : ∃ y_ : List Int, y_ = (y644.set (t638 : Int).toNat t646) := ⟨_, rfl⟩
                 replace H : (if x12_2.length < 17592186044416 then (Qad.l1 kj32 l0 l2 y647 (x12_2 ++ [t641]) (wrap64 (x13_2 + 1))) else (none)) = some (r1, r2, r3) := by first | (rw [hy647]; with_reducible exact H) | (have H2_ := (Option.bind_some _ _).symm.trans H; rw [hy647]; with_reducible exact H2_) | (have H2_ := (Option.bind_some _ _).symm.trans H; with_reducible exact H2_) | with_reducible exact H | (rw [hy647]; exact H) | exact H
                 have Ny647 := Aside0.mk hy647
                 clear hy647
                 by_cases c46 : x12_2.length < 17592186044416
                 ·rw [if_pos c46] at H
                  have LMc46 := Aside0.mk c46
                  clear c46
                  obtain ⟨y648, hy648⟩ : ∃ y_ : List Int, y_ = (x12_2 ++ [t641]) := ⟨_, rfl⟩
                  replace H : (Qad.l1 kj32 l0 l2 y647 y648 (wrap64 (x13_2 + 1))) = some (r1, r2, r3) := by first | (rw [hy648]; with_reducible exact H) | (have H2_ := (Option.bind_some _ _).symm.trans H; rw [hy648]; with_reducible exact H2_) | (have H2_ := (Option.bind_some _ _).symm.trans H; with_reducible exact H2_) | with_reducible exact H | (rw [hy648]; exact H) | exact H
                  have Ny648 := Aside0.mk hy648
                  clear hy648
                  have H' := Aside0.mk H
                  clear H
                  try go_wp2
                  (try (rw [QaW wc]; generalize hq_ : World.drewN wc _ = wc; have n0_ : Aside0 (Kd.R (Kd.int .i64) 3 wc w.heap.size (fun k_ => some k_ ≠ (u12 : Value).ownBlock) v633 x11_2) := ⟨by rw [← hq_]; exact (Zr HO_11.out)⟩; have n1_ : Aside0 (Kd.R (Kd.int .i64) 3 wc w.heap.size (fun k_ => some k_ ≠ (v633 : Value).ownBlock) u12 x12_2) := ⟨by rw [← hq_]; exact (Zr HO_12.out)⟩; have n2_ : Aside0 (Below w.heap.size w wc) := ⟨by rw [← hq_]; exact (Zb)⟩; clear HO_11 HO_12 HB hq_; have HO_11 := n0_; have HO_12 := n1_; have HB := n2_; clear n0_ n1_ n2_))
                  (try (rw [QaW wc]; generalize hq_ : World.drewN wc _ = wc; have n0_ : Aside0 (Kd.R (Kd.int .i64) 3 wc w.heap.size (fun k_ => some k_ ≠ (u12 : Value).ownBlock) v633 x11_2) := ⟨by rw [← hq_]; exact (Zr HO_11.out)⟩; have n1_ : Aside0 (Kd.R (Kd.int .i64) 3 wc w.heap.size (fun k_ => some k_ ≠ (v633 : Value).ownBlock) u12 x12_2) := ⟨by rw [← hq_]; exact (Zr HO_12.out)⟩; have n2_ : Aside0 (Below w.heap.size w wc) := ⟨by rw [← hq_]; exact (Zb)⟩; clear HO_11 HO_12 HB hq_; have HO_11 := n0_; have HO_12 := n1_; have HB := n2_; clear n0_ n1_ n2_))
                  replace HO_11 := Aside0.mk (Kd.R_drew HO_11.out)
                  replace HO_12 := Aside0.mk (Kd.R_drew HO_12.out)
                  replace HB := Aside0.mk (Qab HB.out)
                  obtain ⟨Ao48, co48, eo48⟩ := Kd.R_slice HO_11.out
                  (first | subst eo48 | (injection eo48 with f1_ f2_ f3_; have f4_ := f1_.symm; have f5_ := f3_.symm; clear f1_ f2_ f3_; subst f4_; subst f5_))
                  have p639 : 0 ≤ (t636 : Int) := Ze
                  have q639 : t636 < (x11_2.length : Int) := Ze
                  obtain ⟨ad639, e639, hx639_0⟩ := Kd.at_int (Kd.R_reads' HO_11.out).2.2 t636 p639 q639
                  cases e639
                  replace p639 := eq_true p639
                  replace q639 := eq_true q639
                  have p640 : 0 ≤ (t638 : Int) := Ze
                  have q640 : t638 < (x11_2.length : Int) := Ze
                  obtain ⟨ad640, e640, hx640_0⟩ := Kd.at_int (Kd.R_reads' HO_11.out).2.2 t638 p640 q640
                  obtain rfl : ad639 = ad640 := (by injection e640)
                  replace p640 := eq_true p640
                  replace q640 := eq_true q640
                  refine start_ (n := 10) (S := fun w' => w'.cell? (ad639.add (t636).toNat) = some (.int .i64 (rd x11_2 t636)) ∧ w'.cell? (ad639.add (t638).toNat) = some (.int .i64 (rd x11_2 t638))) (ds := []) #[F, F, F, F, F, F, F, F, F, F] (by kernel_rfl) rfl rfl ⟨hx639_0, hx640_0⟩ (fun hHeld => ?_); refine Qa1 Qad.tab19 Qad.bits19 (fun HT_ HW_ => ?_)
                  generalize wc.drew = w47 at HO_11 HO_12 HB hx639_0 hx640_0 hHeld ⊢
                  refine pure_ (i := 0) (N := some 98) (v := ?_) (a' := ?_) #[T, F, F, F, F, F, F, F, F, F] rfl rfl (any_of HT_.out (by kernel_rfl)) (fun _ _ _ h => h) (Or.inl ⟨by rfl, ?_⟩) ?_ ?_
                  rotate_left
                  ·intro w'
                   go_simp
                   with_reducible rfl
                  rotate_left
                  ·simp only [Act.put, Zj, Zk, Zm, i64_w, i32_w]
                   rfl
                  refine pure_ (i := 1) (N := some 99) (v := ?_) (a' := ?_) #[T, T, F, F, F, F, F, F, F, F] rfl rfl (any_of HT_.out (by kernel_rfl)) (fun _ _ _ h => h) (Or.inl ⟨by rfl, ?_⟩) ?_ ?_
                  rotate_left
                  ·intro w'
                   go_simp
                   with_reducible rfl
                  rotate_left
                  ·simp only [Act.put, Zj, Zk, Zm, i64_w, i32_w]
                   rfl
                  refine pure_ (i := 2) (N := some 100) (v := ?_) (a' := ?_) #[T, T, T, F, F, F, F, F, F, F] rfl rfl (any_of HT_.out (by kernel_rfl)) (fun _ _ _ h => h) (Or.inl ⟨by rfl, ?_⟩) ?_ ?_
                  rotate_left
                  ·intro w'
                   go_simp
                   with_reducible rfl
                  rotate_left
                  ·simp only [Act.put, Zj, Zk, Zm, i64_w, i32_w]
                   rfl
                  refine pure_ (i := 4) (N := some 102) (v := ?_) (a' := ?_) #[T, T, T, F, T, F, F, F, F, F] rfl rfl (any_of HT_.out (by kernel_rfl)) (fun _ _ _ h => h) (Or.inl ⟨by rfl, ?_⟩) ?_ ?_
                  rotate_left
                  ·intro w'
                   go_simp
                   with_reducible rfl
                  rotate_left
                  ·simp only [Act.put, Zj, Zk, Zm, i64_w, i32_w]
                   rfl
                  refine pure_ (i := 5) (N := some 103) (v := ?_) (a' := ?_) #[T, T, T, F, T, T, F, F, F, F] rfl rfl (any_of HT_.out (by kernel_rfl)) (fun _ _ _ h => h) (Or.inl ⟨by rfl, ?_⟩) ?_ ?_
                  rotate_left
                  ·intro w'
                   go_simp
                   with_reducible rfl
                  rotate_left
                  ·simp only [Act.put, Zj, Zk, Zm, i64_w, i32_w]
                   rfl
                  refine pure_ (i := 6) (N := some 104) (v := ?_) (a' := ?_) #[T, T, T, F, T, T, T, F, F, F] rfl rfl (any_of HT_.out (by kernel_rfl)) (fun _ _ _ h => h) (Or.inl ⟨by rfl, ?_⟩) ?_ ?_
                  rotate_left
                  ·intro w'
                   go_simp
                   with_reducible rfl
                  rotate_left
                  ·simp only [Act.put, Zj, Zk, Zm, i64_w, i32_w]
                   rfl
                  refine take_ (i := 3) (N := some 101) (v := ?_) (a' := ?_) #[T, T, T, T, T, T, T, F, F, F] rfl rfl (QaH HT_.out HW_.out (by kernel_rfl)) (fun _ _ _ h => h) (Or.inl ⟨by rfl, ?_⟩) hHeld ?_ ?_
                  rotate_left
                  ·rintro w' ⟨s0, s1⟩
                   go_simp
                   with_reducible rfl
                  rotate_left
                  ·simp only [Act.put, Zj, Zk, Zm, i64_w, i32_w]
                   rfl
                  refine take_ (i := 7) (N := some 105) (v := ?_) (a' := ?_) #[T, T, T, T, T, T, T, T, F, F] rfl rfl (QaH HT_.out HW_.out (by kernel_rfl)) (fun _ _ _ h => h) (Or.inl ⟨by rfl, ?_⟩) hHeld ?_ ?_
                  rotate_left
                  ·rintro w' ⟨s0, s1⟩
                   go_simp
                   with_reducible rfl
                  rotate_left
                  ·simp only [Act.put, Zj, Zk, Zm, i64_w, i32_w]
                   rfl
                  refine one_ (i := 8) (N := some 106) #[T, T, T, T, T, T, T, T, T, F] rfl rfl (one_of HT_.out (by kernel_rfl)) (by decide) (fun K hK => ?_)
                  refine goes_ Try.func66 (by kernel_rfl) rfl #[.int .i64 (rd x11_2 t636), .int .i64 (rd x11_2 t638)] (by rfl) rfl rfl (Zl) ?_
                  with_reducible refine (Qam.calls kj32 (rd x11_2 t636) (rd x11_2 t638) t641 _ A41.out).mono ?_
                  rintro e w' ⟨rfl, ⟨nd, rfl⟩⟩
                  refine ⟨_, rfl, ?_⟩
                  refine hK.out _ _ ⟨hHeld.1, hHeld.2⟩ (fun hHeld => ?_)
                  clear hK K
                  refine norm_ (a' := ?_) ?_ ?_
                  rotate_left
                  ·show Act.put _ (some 106) _ = _
                   simp only [Act.put, Zj, Zk, Zm, i64_w, i32_w]
                   rfl
                  refine pure_ (i := 9) (N := some 16) (v := ?_) (a' := ?_) #[T, T, T, T, T, T, T, T, T, T] rfl rfl (any_of HT_.out (by kernel_rfl)) (fun _ _ _ h => h) (Or.inl ⟨by rfl, ?_⟩) ?_ ?_
                  rotate_left
                  ·intro w'
                   go_simp
                   with_reducible rfl
                  rotate_left
                  ·simp only [Act.put, Zj, Zk, Zm, i64_w, i32_w]
                   rfl
                  refine done_ (Qa5 HT_.out (by kernel_rfl)) ?_
                  have p642 : 0 ≤ (t636 : Int) := Ze
                  have q642 : t636 < (x11_2.length : Int) := Ze
                  obtain ⟨ad642, e642, hx642_0⟩ := Kd.at_int (Kd.R_reads' HO_11.out).2.2 t636 p642 q642
                  obtain rfl : ad639 = ad642 := (by injection e642)
                  replace p642 := eq_true p642
                  replace q642 := eq_true q642
                  try go_wp2_with (first | ((with_reducible refine Qat (f := 67) rfl ?_); refine goesL_ (some 114) rfl rfl Try.func67 (by kernel_rfl) rfl #[.int .i64 (rd x11_2 t636), .int .i64 t641] rfl (Zl) ?_; (with_reducible refine (QaL.calls (rd x11_2 t636) t641 t643 _ A42.out).mono ?_); rintro e w' ⟨rfl, ⟨nd, rfl⟩⟩; refine ⟨_, rfl, ?_⟩; (try (rw [QaW w47]; generalize hq_ : World.drewN w47 _ = w47; have n0_ : Aside0 (Kd.R (Kd.int .i64) 3 w47 w.heap.size (fun k_ => some k_ ≠ (u12 : Value).ownBlock) (.slice (some ad639) x11_2.length co48) x11_2) := ⟨by rw [← hq_]; exact (Zr HO_11.out)⟩; have n1_ : Aside0 (Kd.R (Kd.int .i64) 3 w47 w.heap.size (fun k_ => some k_ ≠ (.slice (some ad639) x11_2.length co48 : Value).ownBlock) u12 x12_2) := ⟨by rw [← hq_]; exact (Zr HO_12.out)⟩; have n2_ : Aside0 (Below w.heap.size w w47) := ⟨by rw [← hq_]; exact (Zb)⟩; clear HO_11 HO_12 HB hq_; have HO_11 := n0_; have HO_12 := n1_; have HB := n2_; clear n0_ n1_ n2_)); (try (rw [QaW w47]; generalize hq_ : World.drewN w47 _ = w47; have n0_ : Aside0 (Kd.R (Kd.int .i64) 3 w47 w.heap.size (fun k_ => some k_ ≠ (u12 : Value).ownBlock) (.slice (some ad639) x11_2.length co48) x11_2) := ⟨by rw [← hq_]; exact (Zr HO_11.out)⟩; have n1_ : Aside0 (Kd.R (Kd.int .i64) 3 w47 w.heap.size (fun k_ => some k_ ≠ (.slice (some ad639) x11_2.length co48 : Value).ownBlock) u12 x12_2) := ⟨by rw [← hq_]; exact (Zr HO_12.out)⟩; have n2_ : Aside0 (Below w.heap.size w w47) := ⟨by rw [← hq_]; exact (Zb)⟩; clear HO_11 HO_12 HB hq_; have HO_11 := n0_; have HO_12 := n1_; have HB := n2_; clear n0_ n1_ n2_)); have p43 : 0 ≤ (t636 : Int) := Ze; have q43 : (t636 : Int) < ((x11_2.length : Int) : Int) := Ze; obtain ⟨go43, co43, eo43, gb43, gl43, cl43, HG43⟩ := Kd.R_form HO_11.out (by omega); (first | cases eo43 | (injection eo43 with ea_ en_ ec_; (first | subst ea_ | (injection ea_ with ea_; subst ea_)); subst ec_; clear en_)); have GB43 := Aside0.mk gb43; have GG43 := Aside0.mk HG43; clear gb43 gl43 HG43; (first | simp only [Qa0] at hx639_0 | skip); (first | simp only [Qa0] at hx640_0 | skip); (first | simp only [Qa0] at hx642_0 | skip); obtain ⟨hx43_0, hf43_0⟩ := Kd.R_celln 0 HO_11.out (t636 : Int) p43 q43; replace p43 := eq_true p43; replace q43 := eq_true q43; obtain ⟨hy49_, hz49_⟩ := Kd.R_celln 0 HO_11.out (t636 : Int) (Ze) (Ze); have HP49 := Kd.R_putg HO_11.out (t636 : Int) t643) | ((with_reducible refine Qbl (t := 3) (p := 115) rfl ?_); refine Qbe (t := 3) (p := 115) (v := ?vo_w50) (w1 := (w47.setCell ⟨go43, (t636 : Int).toNat, none⟩ (.int .i64 t643))) ?hg ?ho ?hn ?hr ?_; (case ho => rfl); (case hg => rfl); (case hn => rfl); (case hr => first | (go_simp; done) | (go_simp; rfl)); intro w50 hw; have hg : w47.grownBy w50 (some go43) := (by rw [hw]; exact HP49.2); have hp_ : Kd.R (Kd.int .i64) 3 w50 w.heap.size (fun k_ => some k_ ≠ (u12 : Value).ownBlock) (.slice (some ⟨go43, 0, none⟩) x11_2.length co48) y644 := (by rw [hw, Ny644.out]; exact HP49.1); clear HP49; replace HO_11 := Aside0.mk (hp_); replace HO_12 := Aside0.mk (Kd.R_after (v := (.slice (some ⟨go43, 0, none⟩) x11_2.length co48)) (v1 := (.slice (some ⟨go43, 0, none⟩) x11_2.length co48)) (ok := (fun _ => True)) (by (with_reducible repeat (first | apply Kd.R_alloc | apply Kd.R_drewN | apply Kd.R_drew)); exact Kd.R_mono HO_12.out (fun _ hk => ⟨trivial, hk⟩)) hg (.inl rfl)); replace HB := Aside0.mk ((by rw [hw]; exact QaQ (HB.out) GB43.out : Below w.heap.size w w50)); clear hg hw hp_; have p645 : 0 ≤ (t638 : Int) := Ze; have q645 : t638 < (y644.length : Int) := (by have h_ : (t638 : Int) < ((x11_2.length : Int) : Int) := Ze; first | (have e_ := (Kd.R_reads' HO_11.out).1; omega) | simpa only [Ny644.out, List.length_set] using h_); have ql645 : ((t638 : Int) < ((x11_2.length : Int) : Int)) = True := eq_true (Ze); obtain ⟨ad645, e645, hx645_0⟩ := Kd.at_int (Kd.R_reads' HO_11.out).2.2 t638 p645 q645; obtain rfl : (⟨go43, 0, none⟩ : Addr) = ad645 := (by injection e645); (first | simp only [Qa0] at hx645_0 | simp only [add_at] at hx645_0 | simp only [Addr.add, Nat.zero_add] at hx645_0 | skip); replace p645 := eq_true p645; replace q645 := eq_true q645) | ((with_reducible refine Qat (f := 67) rfl ?_); refine goesL_ (some 123) rfl rfl Try.func67 (by kernel_rfl) rfl #[.int .i64 (rd y644 t638), .int .i64 t641] rfl (Zl) ?_; (with_reducible refine (QaL.calls (rd y644 t638) t641 t646 _ A44.out).mono ?_); rintro e w' ⟨rfl, ⟨nd, rfl⟩⟩; refine ⟨_, rfl, ?_⟩; (try (rw [QaW w50]; generalize hq_ : World.drewN w50 _ = w50; have n0_ : Aside0 (Kd.R (Kd.int .i64) 3 w50 w.heap.size (fun k_ => some k_ ≠ (u12 : Value).ownBlock) (.slice (some ⟨go43, 0, none⟩) x11_2.length co48) y644) := ⟨by rw [← hq_]; exact (Zr HO_11.out)⟩; have n1_ : Aside0 (Kd.R (Kd.int .i64) 3 w50 w.heap.size (fun k_ => some k_ ≠ (.slice (some ⟨go43, 0, none⟩) x11_2.length co48 : Value).ownBlock) u12 x12_2) := ⟨by rw [← hq_]; exact (by (with_reducible repeat (first | apply Kd.R_alloc | apply Kd.R_drewN | apply Kd.R_drew)); (first | exact Kd.R_mono HO_12.out (fun _ hk => hk.2) | exact HO_12.out))⟩; have n2_ : Aside0 (Below w.heap.size w w50) := ⟨by rw [← hq_]; exact (Zb)⟩; clear HO_11 HO_12 HB hq_; have HO_11 := n0_; have HO_12 := n1_; have HB := n2_; clear n0_ n1_ n2_)); (try (rw [QaW w50]; generalize hq_ : World.drewN w50 _ = w50; have n0_ : Aside0 (Kd.R (Kd.int .i64) 3 w50 w.heap.size (fun k_ => some k_ ≠ (u12 : Value).ownBlock) (.slice (some ⟨go43, 0, none⟩) x11_2.length co48) y644) := ⟨by rw [← hq_]; exact (Zr HO_11.out)⟩; have n1_ : Aside0 (Kd.R (Kd.int .i64) 3 w50 w.heap.size (fun k_ => some k_ ≠ (.slice (some ⟨go43, 0, none⟩) x11_2.length co48 : Value).ownBlock) u12 x12_2) := ⟨by rw [← hq_]; exact (by (with_reducible repeat (first | apply Kd.R_alloc | apply Kd.R_drewN | apply Kd.R_drew)); (first | exact Kd.R_mono HO_12.out (fun _ hk => hk.2) | exact HO_12.out))⟩; have n2_ : Aside0 (Below w.heap.size w w50) := ⟨by rw [← hq_]; exact (Zb)⟩; clear HO_11 HO_12 HB hq_; have HO_11 := n0_; have HO_12 := n1_; have HB := n2_; clear n0_ n1_ n2_)); have p45 : 0 ≤ (t638 : Int) := Ze; have q45 : (t638 : Int) < ((x11_2.length : Int) : Int) := Ze; obtain ⟨hx45_0, hf45_0⟩ := Kd.R_celln 0 HO_11.out (t638 : Int) p45 q45; replace p45 := eq_true p45; replace q45 := eq_true q45; obtain ⟨hy51_, hz51_⟩ := Kd.R_celln 0 HO_11.out (t638 : Int) (Ze) (Ze); have HP51 := Kd.R_putg HO_11.out (t638 : Int) t646) | ((with_reducible refine Qbl (t := 3) (p := 124) rfl ?_); refine Qbe (t := 3) (p := 124) (v := ?vo_w52) (w1 := (w50.setCell ⟨go43, (t638 : Int).toNat, none⟩ (.int .i64 t646))) ?hg ?ho ?hn ?hr ?_; (case ho => rfl); (case hg => rfl); (case hn => rfl); (case hr => first | (go_simp; done) | (go_simp; rfl)); intro w52 hw; have hg : w50.grownBy w52 (some go43) := (by rw [hw]; exact HP51.2); have hp_ : Kd.R (Kd.int .i64) 3 w52 w.heap.size (fun k_ => some k_ ≠ (u12 : Value).ownBlock) (.slice (some ⟨go43, 0, none⟩) x11_2.length co48) y647 := (by rw [hw, Ny647.out]; exact HP51.1); clear HP51; replace HO_11 := Aside0.mk (hp_); replace HO_12 := Aside0.mk (Kd.R_after (v := (.slice (some ⟨go43, 0, none⟩) x11_2.length co48)) (v1 := (.slice (some ⟨go43, 0, none⟩) x11_2.length co48)) (ok := (fun _ => True)) (by (with_reducible repeat (first | apply Kd.R_alloc | apply Kd.R_drewN | apply Kd.R_drew)); (first | exact HO_12.out | exact Kd.R_mono HO_12.out (fun _ hk => ⟨trivial, hk⟩))) hg (.inl rfl)); replace HB := Aside0.mk ((by rw [hw]; exact QaQ (HB.out) GB43.out : Below w.heap.size w w52)); clear hg hw hp_) | ((with_reducible refine Qbh (b := .append) (xs := #[.tmp 125, .tmp 127]) rfl ?_); at_builtin; refine Kd.R_append (Kd.int .i64) (w0 := w) w.heap.size rfl (.tmp 125) (.tmp 127) 46 3 (.int .i64 0) 8 rfl Try.underlying46 info3 rfl (by decide) (by omega) u12 x12_2 t641 [.int .i64 t641] (fun k_ => some k_ ≠ (.slice (some ⟨go43, 0, none⟩) x11_2.length co48 : Value).ownBlock) (fun _ => False) rfl rfl ?aP (fun _ hk => hk.elim) ?aF ?aO ?aB ?aS ?aL ?_; (case aP => exact rfl); (case aB => exact (Zb)); (case aF => exact (fun k_ hk => Kd.fresh' (Kd.R_lt (Zr HO_11.out)) k_ hk)); (case aO => exact (by (with_reducible repeat (first | apply Kd.R_alloc | apply Kd.R_drewN | apply Kd.R_drew)); (first | exact Kd.R_mono HO_12.out (fun _ hk => hk.2) | exact HO_12.out))); (case aS => exact (Qay (Zb))); (case aL => have := LMc46.out; omega); intro v649 w53 ho hb hg hat; rw [← Ny648.out] at ho; have HO650 := Aside0.mk (ho); replace HO_11 := Aside0.mk (Kd.R_after (ok := (fun _ => True)) (by (with_reducible repeat (first | apply Kd.R_alloc | apply Kd.R_drewN | apply Kd.R_drew)); exact Kd.R_mono HO_11.out (fun _ hk => ⟨trivial, hk⟩)) hg hat); replace HB := Aside0.mk (hb); clear HO_12; clear ho hb hg hat))
                  go_roundg kj32
                  case measure => have := HK1.out; have := HK2.out; have := HJ32.out; omega
                  case rel => exact ⟨(y647), (y648), (wrap64 (x13_2 + 1)), (Zs), H', ⟨by have := HK1.out; have := HK2.out; have := HJ32.out; omega⟩, ⟨by (with_reducible repeat (first | apply Kd.R_alloc | apply Kd.R_drewN | apply Kd.R_drew)); exact Kd.R_mono HO_11.out (fun _ hk => hk.2)⟩, ⟨Zr HO650.out⟩, ⟨Zb⟩⟩
                 rw [if_neg c46] at H
                 exact absurd H (by simp)
                rw [if_neg c40] at H
                exact absurd H (by simp)
               rw [if_neg c39] at H
               exact absurd H (by simp)
              rw [if_neg c38] at H
              exact absurd H (by simp)
             rw [if_neg c37] at H
             exact absurd H (by simp)
            replace c36 := Bool.eq_false_iff.mpr c36
            subst c36
            have H1 : (if x12_2.length < 17592186044416 then (Qad.l1 kj32 l0 l2 x11_2 (x12_2 ++ [0]) (wrap64 (x13_2 + 1))) else (none)) = some (r1, r2, r3) := by rw [if_neg (show ¬ (F = T) by decide)] at H; exact H
            clear H
            have H := H1
            clear H1
            by_cases c54 : x12_2.length < 17592186044416
            ·rw [if_pos c54] at H
             have LMc54 := Aside0.mk c54
             clear c54
             obtain ⟨y651, hy651⟩ : ∃ y_ : List Int, y_ = (x12_2 ++ [0]) := ⟨_, rfl⟩
             replace H : (Qad.l1 kj32 l0 l2 x11_2 y651 (wrap64 (x13_2 + 1))) = some (r1, r2, r3) := by first | (rw [hy651]; with_reducible exact H) | (have H2_ := (Option.bind_some _ _).symm.trans H; rw [hy651]; with_reducible exact H2_) | (have H2_ := (Option.bind_some _ _).symm.trans H; with_reducible exact H2_) | with_reducible exact H | (rw [hy651]; exact H) | exact H
             have Ny651 := Aside0.mk hy651
             clear hy651
             have H' := Aside0.mk H
             clear H
             go_wp2_with (first | ((with_reducible refine Qbh (b := .append) (xs := #[.tmp 125, .tmp 127]) rfl ?_); at_builtin; refine Kd.R_append (Kd.int .i64) (w0 := w) w.heap.size rfl (.tmp 125) (.tmp 127) 46 3 (.int .i64 0) 8 rfl Try.underlying46 info3 rfl (by decide) (by omega) u12 x12_2 0 [.int .i64 0] (fun k_ => some k_ ≠ (v633 : Value).ownBlock) (fun _ => False) rfl rfl ?aP (fun _ hk => hk.elim) ?aF ?aO ?aB ?aS ?aL ?_; (case aP => exact rfl); (case aB => exact (Zb)); (case aF => exact (fun k_ hk => Kd.fresh' (Kd.R_lt (Zr HO_11.out)) k_ hk)); (case aO => exact (Zr HO_12.out)); (case aS => exact (Qay (Zb))); (case aL => have := LMc54.out; omega); intro v652 w55 ho hb hg hat; rw [← Ny651.out] at ho; have HO653 := Aside0.mk (ho); replace HO_11 := Aside0.mk (Kd.R_after (ok := (fun _ => True)) (by (with_reducible repeat (first | apply Kd.R_alloc | apply Kd.R_drewN | apply Kd.R_drew)); exact Kd.R_mono HO_11.out (fun _ hk => ⟨trivial, hk⟩)) hg hat); replace HB := Aside0.mk (hb); clear HO_12; clear ho hb hg hat))
             go_roundg kj32
             case measure => have := HK1.out; have := HK2.out; have := HJ32.out; omega
             case rel => exact ⟨(x11_2), (y651), (wrap64 (x13_2 + 1)), (Zs), H', ⟨by have := HK1.out; have := HK2.out; have := HJ32.out; omega⟩, ⟨by (with_reducible repeat (first | apply Kd.R_alloc | apply Kd.R_drewN | apply Kd.R_drew)); exact Kd.R_mono HO_11.out (fun _ hk => hk.2)⟩, ⟨Zr HO653.out⟩, ⟨Zb⟩⟩
            rw [if_neg c54] at H
            exact absurd H (by simp)
         rw [if_neg c30] at H
         exact absurd H (by simp)
        rw [if_neg c29] at H
        have c29b0 : decide (x13_2 < (l2.length : Int)) = F := decide_eq_false c29
        clear c29
        (try simp only [c29b0])
        simp only [Option.some.injEq, Prod.mk.injEq] at H
        obtain ⟨rfl, rfl, rfl⟩ := H
        go_wp2
        go_ret3
        exact ⟨_, _, Zq, Zr HO_12.out, Zr HO_11.out, Zb⟩
     rw [if_neg c27] at H
     exact absurd H (by simp)
  rw [if_neg c6] at H
  have c6b0 : ((l0.length : Int) == (l1.length : Int)) = F := beq_eq_false_iff_ne.mpr c6
  have c6b1 : ((l0.length : Int) != (l1.length : Int)) = T := bne_iff_ne.mpr c6
  have c6b2 : (l0.length == l1.length) = F := by first | simpa using c6 | (simp at c6 ⊢; omega)
  (try simp only [c6b0, c6b1, c6b2])
  simp only [Option.some.injEq, Prod.mk.injEq] at H
  obtain ⟨rfl, rfl, rfl⟩ := H
  go_wp2
  go_ret3
  exact ⟨_, _, Zq, by first | exact Kd.R_nil _ _ _ _ _ | exact Kd.N_nil _ _ _ _ _ | exact Kd.V_nil _ _ _ _ _ | exact Kd.Q_nil _ _ _ _ _ | exact Kd.S_nil _ _ _ _ _, by first | exact Kd.R_nil _ _ _ _ _ | exact Kd.N_nil _ _ _ _ _ | exact Kd.V_nil _ _ _ _ _ | exact Kd.Q_nil _ _ _ _ _ | exact Kd.S_nil _ _ _ _ _, Zb⟩
 rw [if_neg c5] at H
 have c5b0 : (t623 == 0) = F := beq_eq_false_iff_ne.mpr c5
 have c5b1 : (t623 != 0) = T := bne_iff_ne.mpr c5
 (try simp only [c5b0, c5b1])
 simp only [Option.some.injEq, Prod.mk.injEq] at H
 obtain ⟨rfl, rfl, rfl⟩ := H
 go_wp2
 go_ret3
 exact ⟨_, _, Zq, by first | exact Kd.R_nil _ _ _ _ _ | exact Kd.N_nil _ _ _ _ _ | exact Kd.V_nil _ _ _ _ _ | exact Kd.Q_nil _ _ _ _ _ | exact Kd.S_nil _ _ _ _ _, by first | exact Kd.R_nil _ _ _ _ _ | exact Kd.N_nil _ _ _ _ _ | exact Kd.V_nil _ _ _ _ _ | exact Kd.Q_nil _ _ _ _ _ | exact Kd.S_nil _ _ _ _ _, Zb⟩
end Go.Proofs.Ytggbflplbblgbaa.Pr
