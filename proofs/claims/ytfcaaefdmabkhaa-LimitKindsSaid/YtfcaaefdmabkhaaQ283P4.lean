/- Functions' values and contracts, as the print wrote them. -/
import Derived.Test.YtfcaaefdmabkhaaQ283P0
import Derived.Test.YtfcaaefdmabkhaaQ283P3
import Derived.Test.YtfcaaefdmabkhaaQ283P2
import Derived.Test.YtfcaaefdmabkhaaQ283P1
namespace Go.Proofs.Ytfcaaefdmabkhaa.Pr
open Bool renaming true → T
open Bool renaming false → F
open Go.RowKit Go.Proofs.YtfcaaefdmabkhaaW.PrintWords Go.Proofs.YtfcaaefdmabkhaaW.PrintLast Go.Proofs.YtfcaaefdmabkhaaW.PrintMore
attribute [local go_sem] QaS QaU Qa2 Qa3 QaK QaL QaT QaV   -- for this text's walks alone
set_option linter.unusedVariables false
set_option linter.unusedSimpArgs false
set_option maxRecDepth 100000
set_option maxHeartbeats 8000000
def Qbs.f (k : Nat) (l0 : List (S98)) (a1 : Int) (a2 : Int) (a3 : Int) (a4 : Int) : Option (Int × Int) := (Qa8.f k l0).bind fun t158 => (if t158 = 0 then (if a2 < 0 then (some (0, 25)) else (if a2 ≥ (l0.length : Int) then (some (0, 25)) else (if a3 < 0 then (some (0, 25)) else (if a3 ≥ (l0.length : Int) then (some (0, 25)) else (if 0 ≤ a2 then (if a2 < (l0.length : Int) then (if 0 ≤ a3 then (if a3 < (l0.length : Int) then ((Qa4.f a1 ((rd_T98 l0 a2).f1) ((rd_T98 l0 a3).f1) a4).bind fun bt161 => (some (bt161.1, bt161.2))) else (none)) else (none)) else (none)) else (none)))))) else (some (0, t158)))
theorem Qbs.mono : ∀ a0 a1 a2 a3 a4 k, LeO (Qbs.f k a0 a1 a2 a3 a4) (Qbs.f (k + 1) a0 a1 a2 a3 a4) := by
 intro a0 a1 a2 a3 a4 k
 unfold Qbs.f
 exact ZM1 Qa8.mono
def Qbs.T6 : Bool × List (List Nat × List Nat) := (T, [([], []), ([], []), ([], []), ([1, 2], [1, 2]), ([3], [3]), ([4], [4]), ([], []), ([], []), ([6, 7], [6, 7]), ([8], [8]), ([9], [9]), ([], []), ([0, 5, 10, 11], [0, 5, 10, 11]), ([12], [12]), ([12], [12]), ([13, 12, 0, 1, 2, 3, 4, 5, 6, 7, 8, 9, 10, 11, 12, 13, 14], [13]), ([14, 15, 0, 1, 2, 3, 4, 5, 6, 7, 8, 9, 10, 11, 12, 13, 14, 15], [14])])
def Qbs.B6 : List Nat := [0, 0, 0, 6, 14, 30, 0, 0, 192, 448, 960, 0, 4095, 8191, 8191, 32767, 65535]
theorem Qbs.tab6 : rtab .any (opsOf Try.f126 6) = Qbs.T6 := by kernel_rfl
theorem Qbs.bits6 : Qb0 Qbs.T6.2 Qbs.B6 = T := by kernel_rfl
theorem Qbs.calls (k : Nat) (A0 : Option Addr) (c0 : Nat) (l0 : List (S98)) (a1 : Int) (a2 : Int) (a3 : Int) (a4 : Int) (r1 : Int) (r2 : Int) (w : World) (hr0 : Kd.C k98 w A0 l0.length l0) (hc0 : l0.length ≤ c0) (h : Qbs.f k l0 a1 a2 a3 a4 = some (r1, r2)) :
  Calls Try.prog 126 #[.slice A0 l0.length c0, .int .i64 a1, .int .i64 a2, .int .i64 a3, .int .i64 a4] w fun e w' => e = .returned (.tuple #[.int .i64 r1, .int .i64 r2]) ∧ Below w.heap.size w w' := by
 have HR0 := Aside0.mk hr0
 have HC0 := Aside0.mk hc0
 clear hr0 hc0
 have HB := Aside0.mk (Below.refl w.heap.size w)
 have H : ((Qa8.f k l0).bind fun t158 => (if t158 = 0 then (if a2 < 0 then (some (0, 25)) else (if a2 ≥ (l0.length : Int) then (some (0, 25)) else (if a3 < 0 then (some (0, 25)) else (if a3 ≥ (l0.length : Int) then (some (0, 25)) else (if 0 ≤ a2 then (if a2 < (l0.length : Int) then (if 0 ≤ a3 then (if a3 < (l0.length : Int) then ((Qa4.f a1 ((rd_T98 l0 a2).f1) ((rd_T98 l0 a3).f1) a4).bind fun bt161 => (some (bt161.1, bt161.2))) else (none)) else (none)) else (none)) else (none)))))) else (some (0, t158)))) = some (r1, r2) := h
 clear h
 replace H := Option.bind_eq_some_iff.mp H
 obtain ⟨t158, A60, H⟩ := H
 replace H : (if t158 = 0 then (if a2 < 0 then (some (0, 25)) else (if a2 ≥ (l0.length : Int) then (some (0, 25)) else (if a3 < 0 then (some (0, 25)) else (if a3 ≥ (l0.length : Int) then (some (0, 25)) else (if 0 ≤ a2 then (if a2 < (l0.length : Int) then (if 0 ≤ a3 then (if a3 < (l0.length : Int) then ((Qa4.f a1 ((rd_T98 l0 a2).f1) ((rd_T98 l0 a3).f1) a4).bind fun bt161 => (some (bt161.1, bt161.2))) else (none)) else (none)) else (none)) else (none)))))) else (some (0, t158))) = some (r1, r2) := H
 have A6 := Aside0.mk A60
 clear A60
 go_enter Try.func126, Try.ntmps126
 go_upto_if 15 with (first | ((with_reducible refine Qax (f := 79) rfl ?_); refine goesL_ (some 13) rfl rfl Try.func79 (by kernel_rfl) rfl #[.slice A0 l0.length c0] rfl (Zl) ?_; (with_reducible refine (Qa8.calls k _ _ l0 t158 _ ?side1 ?side2 A6.out).mono ?_); (case side1 => exact Zv HR0.out); (case side2 => exact HC0.out); rintro e w7 ⟨rfl, hb⟩; refine ⟨_, rfl, ?_⟩; replace HB := Aside0.mk (Qao (Zb) hb); (try clear hb); (try clear hb2); (try clear hk); (try clear hi)))
 (try simp only [Act.put, Zj, Zk, Zm])
 by_cases c8 : t158 = 0
 ·rw [if_pos c8] at H
  have c8b0 : (t158 == 0) = T := beq_iff_eq.mpr c8
  have c8b1 : (t158 != 0) = F := bne_eq_false_iff_eq.mpr c8
  clear c8
  (try simp only [c8b0, c8b1])
  by_cases c9 : a2 < 0
  ·rw [if_pos c9] at H
   have c9b0 : decide (a2 < 0) = T := decide_eq_true c9
   clear c9
   simp only [Option.some.injEq, Prod.mk.injEq] at H
   obtain ⟨rfl, rfl⟩ := H
   go_wp2
   go_ret2
   exact ⟨Zq, Zb⟩
  rw [if_neg c9] at H
  have c9b0 : decide (a2 < 0) = F := decide_eq_false c9
  clear c9
  by_cases c10 : a2 ≥ (l0.length : Int)
  ·rw [if_pos c10] at H
   have c10b0 : decide ((l0.length : Int) ≤ a2) = T := decide_eq_true c10
   clear c10
   simp only [Option.some.injEq, Prod.mk.injEq] at H
   obtain ⟨rfl, rfl⟩ := H
   go_wp2
   go_ret2
   exact ⟨Zq, Zb⟩
  rw [if_neg c10] at H
  have c10b0 : decide ((l0.length : Int) ≤ a2) = F := decide_eq_false c10
  clear c10
  by_cases c11 : a3 < 0
  ·rw [if_pos c11] at H
   have c11b0 : decide (a3 < 0) = T := decide_eq_true c11
   clear c11
   simp only [Option.some.injEq, Prod.mk.injEq] at H
   obtain ⟨rfl, rfl⟩ := H
   go_wp2
   go_ret2
   exact ⟨Zq, Zb⟩
  rw [if_neg c11] at H
  have c11b0 : decide (a3 < 0) = F := decide_eq_false c11
  clear c11
  by_cases c12 : a3 ≥ (l0.length : Int)
  ·rw [if_pos c12] at H
   have c12b0 : decide ((l0.length : Int) ≤ a3) = T := decide_eq_true c12
   clear c12
   (try simp only [c12b0])
   simp only [Option.some.injEq, Prod.mk.injEq] at H
   obtain ⟨rfl, rfl⟩ := H
   go_wp2
   go_ret2
   exact ⟨Zq, Zb⟩
  rw [if_neg c12] at H
  have c12b0 : decide ((l0.length : Int) ≤ a3) = F := decide_eq_false c12
  clear c12
  (try simp only [c12b0])
  by_cases c13 : 0 ≤ a2
  ·rw [if_pos c13] at H
   have c13b0 : decide (0 ≤ a2) = T := decide_eq_true c13
   clear c13
   by_cases c14 : a2 < (l0.length : Int)
   ·rw [if_pos c14] at H
    have c14b0 : decide (a2 < (l0.length : Int)) = T := decide_eq_true c14
    clear c14
    by_cases c15 : 0 ≤ a3
    ·rw [if_pos c15] at H
     have c15b0 : decide (0 ≤ a3) = T := decide_eq_true c15
     clear c15
     by_cases c16 : a3 < (l0.length : Int)
     ·rw [if_pos c16] at H
      have c16b0 : decide (a3 < (l0.length : Int)) = T := decide_eq_true c16
      clear c16
      replace H := Option.bind_eq_some_iff.mp H
      obtain ⟨⟨t161, t162⟩, A170, H⟩ := H
      replace H : (some (t161, t162)) = some (r1, r2) := H
      have A17 := Aside0.mk A170
      clear A170
      simp only [Option.some.injEq, Prod.mk.injEq] at H
      obtain ⟨rfl, rfl⟩ := H
      try go_wp2
      replace HB := Aside0.mk (Qah HB.out)
      have p159 : 0 ≤ (a2 : Int) := Ze
      have q159 : a2 < (l0.length : Int) := Ze
      obtain ⟨ad159, e159, hx159_0, hx159_1⟩ := at_T98 HR0.out a2 p159 q159
      have hw159_1 := hx159_1
      have hw159_0 := hx159_0
      cases e159
      replace hx159_0 := Zx HB.out hx159_0
      replace hx159_1 := Zx HB.out hx159_1
      replace p159 := eq_true p159
      replace q159 := eq_true q159
      have p160 : 0 ≤ (a3 : Int) := Ze
      have q160 : a3 < (l0.length : Int) := Ze
      obtain ⟨ad160, e160, hx160_0, hx160_1⟩ := at_T98 HR0.out a3 p160 q160
      have hw160_1 := hx160_1
      have hw160_0 := hx160_0
      obtain rfl : ad159 = ad160 := (by injection e160)
      replace hx160_0 := Zx HB.out hx160_0
      replace hx160_1 := Zx HB.out hx160_1
      replace p160 := eq_true p160
      replace q160 := eq_true q160
      refine start_ (n := 17) (S := fun w' => w'.cell? (ad159.add ((a2).toNat * 2)) = some (.string ((rd_T98 l0 a2).f0)) ∧ w'.cell? ⟨(ad159.add ((a2).toNat * 2)).block, (ad159.add ((a2).toNat * 2)).off + 1, none⟩ = some (.int .i64 ((rd_T98 l0 a2).f1)) ∧ w'.cell? (ad159.add ((a3).toNat * 2)) = some (.string ((rd_T98 l0 a3).f0)) ∧ w'.cell? ⟨(ad159.add ((a3).toNat * 2)).block, (ad159.add ((a3).toNat * 2)).off + 1, none⟩ = some (.int .i64 ((rd_T98 l0 a3).f1))) (ds := []) #[F, F, F, F, F, F, F, F, F, F, F, F, F, F, F, F, F] (by kernel_rfl) rfl rfl ⟨((HB.out.cell (World.block_lt_of_cell? w _ hw159_0)).trans hw159_0), ((HB.out.cell (World.block_lt_of_cell? w _ hw159_1)).trans hw159_1), ((HB.out.cell (World.block_lt_of_cell? w _ hw160_0)).trans hw160_0), ((HB.out.cell (World.block_lt_of_cell? w _ hw160_1)).trans hw160_1)⟩ (fun hHeld => ?_); refine QbV Qbs.tab6 Qbs.bits6 (fun HT_ HW_ => ?_)
      generalize w7.drew = w18 at HB hx159_0 hx159_1 hx160_0 hx160_1 hHeld ⊢
      refine pure_ (i := 0) (N := some 35) (v := ?_) (a' := ?_) #[T, F, F, F, F, F, F, F, F, F, F, F, F, F, F, F, F] rfl rfl (any_of HT_.out (by kernel_rfl)) (fun _ _ _ h => h) (Or.inl ⟨by rfl, ?_⟩) ?_ ?_
      rotate_left
      ·intro w'
       go_simp
       with_reducible rfl
      rotate_left
      ·simp only [Act.put, Zj, Zk, Zm, i64_w, i32_w]
       rfl
      refine pure_ (i := 1) (N := some 36) (v := ?_) (a' := ?_) #[T, T, F, F, F, F, F, F, F, F, F, F, F, F, F, F, F] rfl rfl (any_of HT_.out (by kernel_rfl)) (fun _ _ _ h => h) (Or.inl ⟨by rfl, ?_⟩) ?_ ?_
      rotate_left
      ·intro w'
       go_simp
       with_reducible rfl
      rotate_left
      ·simp only [Act.put, Zj, Zk, Zm, i64_w, i32_w]
       rfl
      refine pure_ (i := 2) (N := some 37) (v := ?_) (a' := ?_) #[T, T, T, F, F, F, F, F, F, F, F, F, F, F, F, F, F] rfl rfl (any_of HT_.out (by kernel_rfl)) (fun _ _ _ h => h) (Or.inl ⟨by rfl, ?_⟩) ?_ ?_
      rotate_left
      ·intro w'
       go_simp
       with_reducible rfl
      rotate_left
      ·simp only [Act.put, Zj, Zk, Zm, i64_w, i32_w]
       rfl
      refine pure_ (i := 3) (N := some 38) (v := ?_) (a' := ?_) #[T, T, T, T, F, F, F, F, F, F, F, F, F, F, F, F, F] rfl rfl (any_of HT_.out (by kernel_rfl)) (fun _ _ _ h => h) (Or.inl ⟨by rfl, ?_⟩) ?_ ?_
      rotate_left
      ·intro w'
       go_simp
       with_reducible rfl
      rotate_left
      ·simp only [Act.put, Zj, Zk, Zm, i64_w, i32_w]
       rfl
      refine pure_ (i := 4) (N := some 39) (v := ?_) (a' := ?_) #[T, T, T, T, T, F, F, F, F, F, F, F, F, F, F, F, F] rfl rfl (any_of HT_.out (by kernel_rfl)) (fun _ _ _ h => h) (Or.inl ⟨by rfl, ?_⟩) ?_ ?_
      rotate_left
      ·intro w'
       go_simp
       with_reducible rfl
      rotate_left
      ·simp only [Act.put, Zj, Zk, Zm, i64_w, i32_w]
       rfl
      refine pure_ (i := 6) (N := some 41) (v := ?_) (a' := ?_) #[T, T, T, T, T, F, T, F, F, F, F, F, F, F, F, F, F] rfl rfl (any_of HT_.out (by kernel_rfl)) (fun _ _ _ h => h) (Or.inl ⟨by rfl, ?_⟩) ?_ ?_
      rotate_left
      ·intro w'
       go_simp
       with_reducible rfl
      rotate_left
      ·simp only [Act.put, Zj, Zk, Zm, i64_w, i32_w]
       rfl
      refine pure_ (i := 7) (N := some 42) (v := ?_) (a' := ?_) #[T, T, T, T, T, F, T, T, F, F, F, F, F, F, F, F, F] rfl rfl (any_of HT_.out (by kernel_rfl)) (fun _ _ _ h => h) (Or.inl ⟨by rfl, ?_⟩) ?_ ?_
      rotate_left
      ·intro w'
       go_simp
       with_reducible rfl
      rotate_left
      ·simp only [Act.put, Zj, Zk, Zm, i64_w, i32_w]
       rfl
      refine pure_ (i := 8) (N := some 43) (v := ?_) (a' := ?_) #[T, T, T, T, T, F, T, T, T, F, F, F, F, F, F, F, F] rfl rfl (any_of HT_.out (by kernel_rfl)) (fun _ _ _ h => h) (Or.inl ⟨by rfl, ?_⟩) ?_ ?_
      rotate_left
      ·intro w'
       go_simp
       with_reducible rfl
      rotate_left
      ·simp only [Act.put, Zj, Zk, Zm, i64_w, i32_w]
       rfl
      refine pure_ (i := 9) (N := some 44) (v := ?_) (a' := ?_) #[T, T, T, T, T, F, T, T, T, T, F, F, F, F, F, F, F] rfl rfl (any_of HT_.out (by kernel_rfl)) (fun _ _ _ h => h) (Or.inl ⟨by rfl, ?_⟩) ?_ ?_
      rotate_left
      ·intro w'
       go_simp
       with_reducible rfl
      rotate_left
      ·simp only [Act.put, Zj, Zk, Zm, i64_w, i32_w]
       rfl
      refine pure_ (i := 11) (N := some 46) (v := ?_) (a' := ?_) #[T, T, T, T, T, F, T, T, T, T, F, T, F, F, F, F, F] rfl rfl (any_of HT_.out (by kernel_rfl)) (fun _ _ _ h => h) (Or.inl ⟨by rfl, ?_⟩) ?_ ?_
      rotate_left
      ·intro w'
       go_simp
       with_reducible rfl
      rotate_left
      ·simp only [Act.put, Zj, Zk, Zm, i64_w, i32_w]
       rfl
      refine take_ (i := 5) (N := some 40) (v := ?_) (a' := ?_) #[T, T, T, T, T, T, T, T, T, T, F, T, F, F, F, F, F] rfl rfl (QbI HT_.out HW_.out (by kernel_rfl)) (fun _ _ _ h => h) (Or.inl ⟨by rfl, ?_⟩) hHeld ?_ ?_
      rotate_left
      ·rintro w' ⟨s0, s1, s2, s3⟩
       go_simp
       with_reducible rfl
      rotate_left
      ·simp only [Act.put, Zj, Zk, Zm, i64_w, i32_w]
       rfl
      refine take_ (i := 10) (N := some 45) (v := ?_) (a' := ?_) #[T, T, T, T, T, T, T, T, T, T, T, T, F, F, F, F, F] rfl rfl (QbI HT_.out HW_.out (by kernel_rfl)) (fun _ _ _ h => h) (Or.inl ⟨by rfl, ?_⟩) hHeld ?_ ?_
      rotate_left
      ·rintro w' ⟨s0, s1, s2, s3⟩
       go_simp
       with_reducible rfl
      rotate_left
      ·simp only [Act.put, Zj, Zk, Zm, i64_w, i32_w]
       rfl
      refine one_ (i := 12) (N := some 47) #[T, T, T, T, T, T, T, T, T, T, T, T, T, F, F, F, F] rfl rfl (one_of HT_.out (by kernel_rfl)) (by decide) (fun K hK => ?_)
      refine goes_ Try.func57 (by kernel_rfl) rfl #[.int .i64 a1, .int .i64 ((rd_T98 l0 a2).f1), .int .i64 ((rd_T98 l0 a3).f1), .int .i64 a4] (by rfl) rfl rfl (Zl) ?_
      with_reducible refine (Qa4.calls a1 ((rd_T98 l0 a2).f1) ((rd_T98 l0 a3).f1) a4 t161 t162 _ A17.out).mono ?_
      rintro e w19 ⟨rfl, hb⟩
      refine ⟨_, rfl, ?_⟩
      replace HB := Aside0.mk (Qao (Zb) hb)
      (try clear hb)
      (try clear hb2)
      (try clear hk)
      (try clear hi)
      refine hK.out _ _ ⟨((HB.out.cell (World.block_lt_of_cell? w _ hw159_0)).trans hw159_0), ((HB.out.cell (World.block_lt_of_cell? w _ hw159_1)).trans hw159_1), ((HB.out.cell (World.block_lt_of_cell? w _ hw160_0)).trans hw160_0), ((HB.out.cell (World.block_lt_of_cell? w _ hw160_1)).trans hw160_1)⟩ (fun hHeld => ?_)
      clear hK K
      refine norm_ (a' := ?_) ?_ ?_
      rotate_left
      ·show Act.put _ (some 47) _ = _
       simp only [Act.put, Zj, Zk, Zm, i64_w, i32_w]
       rfl
      refine pure_ (i := 13) (N := some 48) (v := ?_) (a' := ?_) #[T, T, T, T, T, T, T, T, T, T, T, T, T, T, F, F, F] rfl rfl (any_of HT_.out (by kernel_rfl)) (fun _ _ _ h => h) (Or.inl ⟨by rfl, ?_⟩) ?_ ?_
      rotate_left
      ·intro w'
       go_simp
       with_reducible rfl
      rotate_left
      ·simp only [Act.put, Zj, Zk, Zm, i64_w, i32_w]
       rfl
      refine pure_ (i := 14) (N := some 49) (v := ?_) (a' := ?_) #[T, T, T, T, T, T, T, T, T, T, T, T, T, T, T, F, F] rfl rfl (any_of HT_.out (by kernel_rfl)) (fun _ _ _ h => h) (Or.inl ⟨by rfl, ?_⟩) ?_ ?_
      rotate_left
      ·intro w'
       go_simp
       with_reducible rfl
      rotate_left
      ·simp only [Act.put, Zj, Zk, Zm, i64_w, i32_w]
       rfl
      refine pure_ (i := 15) (N := some 10) (v := ?_) (a' := ?_) #[T, T, T, T, T, T, T, T, T, T, T, T, T, T, T, T, F] rfl rfl (any_of HT_.out (by kernel_rfl)) (fun _ _ _ h => h) (Or.inl ⟨by rfl, ?_⟩) ?_ ?_
      rotate_left
      ·intro w'
       go_simp
       with_reducible rfl
      rotate_left
      ·simp only [Act.put, Zj, Zk, Zm, i64_w, i32_w]
       rfl
      refine pure_ (i := 16) (N := some 11) (v := ?_) (a' := ?_) #[T, T, T, T, T, T, T, T, T, T, T, T, T, T, T, T, T] rfl rfl (any_of HT_.out (by kernel_rfl)) (fun _ _ _ h => h) (Or.inl ⟨by rfl, ?_⟩) ?_ ?_
      rotate_left
      ·intro w'
       go_simp
       with_reducible rfl
      rotate_left
      ·simp only [Act.put, Zj, Zk, Zm, i64_w, i32_w]
       rfl
      refine done_ (Qb4 HT_.out (by kernel_rfl)) ?_
      try go_wp2
      go_ret2
      exact ⟨Zq, Zb⟩
     rw [if_neg c16] at H
     exact absurd H (by simp)
    rw [if_neg c15] at H
    exact absurd H (by simp)
   rw [if_neg c14] at H
   exact absurd H (by simp)
  rw [if_neg c13] at H
  exact absurd H (by simp)
 rw [if_neg c8] at H
 have c8b0 : (t158 == 0) = F := beq_eq_false_iff_ne.mpr c8
 have c8b1 : (t158 != 0) = T := bne_iff_ne.mpr c8
 (try simp only [c8b0, c8b1])
 simp only [Option.some.injEq, Prod.mk.injEq] at H
 obtain ⟨rfl, rfl⟩ := H
 go_wp2
 go_ret2
 exact ⟨Zq, Zb⟩
def QbQ.f (k : Nat) (l0 : List (S98)) (a1 : Int) (a2 : Int) (a3 : Int) : Option (Int × Int) := (Qbs.f k l0 a1 a2 0 a3).bind fun bt163 => (some (bt163.1, bt163.2))
theorem QbQ.mono : ∀ a0 a1 a2 a3 k, LeO (QbQ.f k a0 a1 a2 a3) (QbQ.f (k + 1) a0 a1 a2 a3) := by
 intro a0 a1 a2 a3 k
 unfold QbQ.f
 exact ZM1 Qbs.mono
theorem QbQ.calls (k : Nat) (A0 : Option Addr) (c0 : Nat) (l0 : List (S98)) (a1 : Int) (a2 : Int) (a3 : Int) (r1 : Int) (r2 : Int) (w : World) (hr0 : Kd.C k98 w A0 l0.length l0) (hc0 : l0.length ≤ c0) (h : QbQ.f k l0 a1 a2 a3 = some (r1, r2)) :
  Calls Try.prog 115 #[.slice A0 l0.length c0, .int .i64 a1, .int .i64 a2, .int .i64 a3] w fun e w' => e = .returned (.tuple #[.int .i64 r1, .int .i64 r2]) ∧ Below w.heap.size w w' := by
 have HR0 := Aside0.mk hr0
 have HC0 := Aside0.mk hc0
 clear hr0 hc0
 have HB := Aside0.mk (Below.refl w.heap.size w)
 have H : ((Qbs.f k l0 a1 a2 0 a3).bind fun bt163 => (some (bt163.1, bt163.2))) = some (r1, r2) := h
 clear h
 replace H := Option.bind_eq_some_iff.mp H
 obtain ⟨⟨t163, t164⟩, A50, H⟩ := H
 replace H : (some (t163, t164)) = some (r1, r2) := H
 have A5 := Aside0.mk A50
 clear A50
 simp only [Option.some.injEq, Prod.mk.injEq] at H
 obtain ⟨rfl, rfl⟩ := H
 go_enter Try.func115, Try.ntmps115
 go_wp2_with (first | ((with_reducible refine Qax (f := 126) rfl ?_); refine goesL_ (some 14) rfl rfl Try.func126 (by kernel_rfl) rfl #[.slice A0 l0.length c0, .int .i64 a1, .int .i64 a2, .int .i64 0, .int .i64 a3] rfl (Zl) ?_; (with_reducible refine (Qbs.calls k _ _ l0 a1 a2 0 a3 t163 t164 _ ?side1 ?side2 A5.out).mono ?_); (case side1 => exact Zv HR0.out); (case side2 => exact HC0.out); rintro e w6 ⟨rfl, hb⟩; refine ⟨_, rfl, ?_⟩; replace HB := Aside0.mk (Qao (Zb) hb); (try clear hb); (try clear hb2); (try clear hk); (try clear hi)))
 go_ret2
 exact ⟨Zq, Zb⟩
def Qbf.f (k : Nat) (a0_0 : ByteArray) (a0_1 : Int) (a0_2 : Int) (a0_3 : Int) (a0_4 : Int) (a0_5 : Int) (a1 : Int) (l2 : List (S98)) : Option (Int × Int) := (QbJ.f k a0_0 a0_1 a0_2 a0_3 a0_4 a0_5 a1).bind fun bt166 => (if bt166.2 = 0 then ((QbQ.f k l2 bt166.1 a0_2 3).bind fun bt168 => (if bt168.2 = 0 then ((Qa4.f bt168.1 (wrap64 (1000 - a0_4)) 1000 3).bind fun bt170 => (some (bt170.1, bt170.2))) else (some (0, bt168.2)))) else (some (0, bt166.2)))
theorem Qbf.mono : ∀ a0 a1 a2 a3 a4 a5 a6 a7 k, LeO (Qbf.f k a0 a1 a2 a3 a4 a5 a6 a7) (Qbf.f (k + 1) a0 a1 a2 a3 a4 a5 a6 a7) := by
 intro a0 a1 a2 a3 a4 a5 a6 a7 k
 unfold Qbf.f
 exact ZM2 QbJ.mono QbQ.mono
theorem Qbf.calls (k : Nat) (a0_0 : ByteArray) (a0_1 : Int) (a0_2 : Int) (a0_3 : Int) (a0_4 : Int) (a0_5 : Int) (a1 : Int) (A2 : Option Addr) (c2 : Nat) (l2 : List (S98)) (r1 : Int) (r2 : Int) (w : World) (hr2 : Kd.C k98 w A2 l2.length l2) (hc2 : l2.length ≤ c2) (h : Qbf.f k a0_0 a0_1 a0_2 a0_3 a0_4 a0_5 a1 l2 = some (r1, r2)) :
  Calls Try.prog 82 #[.agg #[.string a0_0, .int .i64 a0_1, .int .i64 a0_2, .int .i64 a0_3, .int .i64 a0_4, .int .i64 a0_5], .int .i64 a1, .slice A2 l2.length c2] w fun e w' => e = .returned (.tuple #[.int .i64 r1, .int .i64 r2]) ∧ Below w.heap.size w w' := by
 have hu84 := Try.underlying84
 have HR2 := Aside0.mk hr2
 have HC2 := Aside0.mk hc2
 clear hr2 hc2
 have HB := Aside0.mk (Below.refl w.heap.size w)
 have H : ((QbJ.f k a0_0 a0_1 a0_2 a0_3 a0_4 a0_5 a1).bind fun bt166 => (if bt166.2 = 0 then ((QbQ.f k l2 bt166.1 a0_2 3).bind fun bt168 => (if bt168.2 = 0 then ((Qa4.f bt168.1 (wrap64 (1000 - a0_4)) 1000 3).bind fun bt170 => (some (bt170.1, bt170.2))) else (some (0, bt168.2)))) else (some (0, bt166.2)))) = some (r1, r2) := h
 clear h
 replace H := Option.bind_eq_some_iff.mp H
 obtain ⟨⟨t166, t167⟩, A40, H⟩ := H
 replace H : (if t167 = 0 then ((QbQ.f k l2 t166 a0_2 3).bind fun bt168 => (if bt168.2 = 0 then ((Qa4.f bt168.1 (wrap64 (1000 - a0_4)) 1000 3).bind fun bt170 => (some (bt170.1, bt170.2))) else (some (0, bt168.2)))) else (some (0, t167))) = some (r1, r2) := H
 have A4 := Aside0.mk A40
 clear A40
 go_enter Try.func82, Try.ntmps82
 go_upto_if 17 with (first | ((with_reducible refine QaJ (N := 3) rfl ?_); refine Zbx (N := 3) (cs := #[.string a0_0, .int .i64 a0_1, .int .i64 a0_2, .int .i64 a0_3, .int .i64 a0_4, .int .i64 a0_5]) (t := 84) ?_; intro gb165 hg w5 hbox hb; have BK165 := Aside0.mk (hbox); have GW165 := Aside0.mk (Zt w hg (Zb)); have GE165 := GW165; replace HB := Aside0.mk (Qao (Zb) hb); clear hb hbox hg; obtain ⟨hcz6_0, hfz6_0⟩ := Zy (v := (.string a0_0)) BK165.out 0; obtain ⟨hcz6_1, hfz6_1⟩ := Zy (v := (.int .i64 a0_1)) BK165.out 1; obtain ⟨hcz6_2, hfz6_2⟩ := Zy (v := (.int .i64 a0_2)) BK165.out 2; obtain ⟨hcz6_3, hfz6_3⟩ := Zy (v := (.int .i64 a0_3)) BK165.out 3; obtain ⟨hcz6_4, hfz6_4⟩ := Zy (v := (.int .i64 a0_4)) BK165.out 4; obtain ⟨hcz6_5, hfz6_5⟩ := Zy (v := (.int .i64 a0_5)) BK165.out 5) | ((with_reducible refine Qax (f := 114) rfl ?_); refine goesL_ (some 13) rfl rfl Try.func114 (by kernel_rfl) rfl #[.agg #[.string a0_0, .int .i64 a0_1, .int .i64 a0_2, .int .i64 a0_3, .int .i64 a0_4, .int .i64 a0_5], .int .i64 a1] rfl (Zl) ?_; (with_reducible refine (QbJ.calls k a0_0 a0_1 a0_2 a0_3 a0_4 a0_5 a1 t166 t167 _ A4.out).mono ?_); rintro e w7 ⟨rfl, hb⟩; refine ⟨_, rfl, ?_⟩; replace BK165 := Aside0.mk (Zi BK165.out hb); replace HB := Aside0.mk (Qao (Zc1 GE165.out) hb); (try clear hb); (try clear hb2); (try clear hk); (try clear hi)))
 (try simp only [Act.put, Zj, Zk, Zm])
 by_cases c8 : t167 = 0
 ·rw [if_pos c8] at H
  have c8b0 : (t167 == 0) = T := beq_iff_eq.mpr c8
  have c8b1 : (t167 != 0) = F := bne_eq_false_iff_eq.mpr c8
  clear c8
  (try simp only [c8b0, c8b1])
  replace H := Option.bind_eq_some_iff.mp H
  obtain ⟨⟨t168, t169⟩, A90, H⟩ := H
  replace H : (if t169 = 0 then ((Qa4.f t168 (wrap64 (1000 - a0_4)) 1000 3).bind fun bt170 => (some (bt170.1, bt170.2))) else (some (0, t169))) = some (r1, r2) := H
  have A9 := Aside0.mk A90
  clear A90
  obtain ⟨hcz10_0, hfz10_0⟩ := Zy (v := (.string a0_0)) BK165.out 0
  obtain ⟨hcz10_1, hfz10_1⟩ := Zy (v := (.int .i64 a0_1)) BK165.out 1
  obtain ⟨hcz10_2, hfz10_2⟩ := Zy (v := (.int .i64 a0_2)) BK165.out 2
  obtain ⟨hcz10_3, hfz10_3⟩ := Zy (v := (.int .i64 a0_3)) BK165.out 3
  obtain ⟨hcz10_4, hfz10_4⟩ := Zy (v := (.int .i64 a0_4)) BK165.out 4
  obtain ⟨hcz10_5, hfz10_5⟩ := Zy (v := (.int .i64 a0_5)) BK165.out 5
  go_upto_if 28 with (first | ((with_reducible refine Qax (f := 115) rfl ?_); refine goesL_ (some 24) rfl rfl Try.func115 (by kernel_rfl) rfl #[.slice A2 l2.length c2, .int .i64 t166, .int .i64 a0_2, .int .i64 3] rfl (Zl) ?_; (with_reducible refine (QbQ.calls k _ _ l2 t166 a0_2 3 t168 t169 _ ?side1 ?side2 A9.out).mono ?_); (case side1 => exact Zv (Kd.C_below HR2.out HB.out)); (case side2 => exact HC2.out); rintro e w11 ⟨rfl, hb⟩; refine ⟨_, rfl, ?_⟩; replace BK165 := Aside0.mk (Zi BK165.out hb); replace HB := Aside0.mk (Qao (Zc1 GE165.out) hb); (try clear hb); (try clear hb2); (try clear hk); (try clear hi)))
  (try simp only [Act.put, Zj, Zk, Zm])
  by_cases c12 : t169 = 0
  ·rw [if_pos c12] at H
   have c12b0 : (t169 == 0) = T := beq_iff_eq.mpr c12
   have c12b1 : (t169 != 0) = F := bne_eq_false_iff_eq.mpr c12
   clear c12
   (try simp only [c12b0, c12b1])
   replace H := Option.bind_eq_some_iff.mp H
   obtain ⟨⟨t170, t171⟩, A130, H⟩ := H
   replace H : (some (t170, t171)) = some (r1, r2) := H
   have A13 := Aside0.mk A130
   clear A130
   simp only [Option.some.injEq, Prod.mk.injEq] at H
   obtain ⟨rfl, rfl⟩ := H
   obtain ⟨hcz14_0, hfz14_0⟩ := Zy (v := (.string a0_0)) BK165.out 0
   obtain ⟨hcz14_1, hfz14_1⟩ := Zy (v := (.int .i64 a0_1)) BK165.out 1
   obtain ⟨hcz14_2, hfz14_2⟩ := Zy (v := (.int .i64 a0_2)) BK165.out 2
   obtain ⟨hcz14_3, hfz14_3⟩ := Zy (v := (.int .i64 a0_3)) BK165.out 3
   obtain ⟨hcz14_4, hfz14_4⟩ := Zy (v := (.int .i64 a0_4)) BK165.out 4
   obtain ⟨hcz14_5, hfz14_5⟩ := Zy (v := (.int .i64 a0_5)) BK165.out 5
   go_wp2_with (first | ((with_reducible refine Qax (f := 57) rfl ?_); refine goesL_ (some 34) rfl rfl Try.func57 (by kernel_rfl) rfl #[.int .i64 t168, .int .i64 (wrap64 (1000 - a0_4)), .int .i64 1000, .int .i64 3] rfl (Zl) ?_; (with_reducible refine (Qa4.calls t168 (wrap64 (1000 - a0_4)) 1000 3 t170 t171 _ A13.out).mono ?_); rintro e w15 ⟨rfl, hb⟩; refine ⟨_, rfl, ?_⟩; replace BK165 := Aside0.mk (Zi BK165.out hb); replace HB := Aside0.mk (Qao (Zc1 GE165.out) hb); (try clear hb); (try clear hb2); (try clear hk); (try clear hi)))
   go_ret2
   exact ⟨Zq, Zc1 GE165.out⟩
  rw [if_neg c12] at H
  have c12b0 : (t169 == 0) = F := beq_eq_false_iff_ne.mpr c12
  have c12b1 : (t169 != 0) = T := bne_iff_ne.mpr c12
  (try simp only [c12b0, c12b1])
  simp only [Option.some.injEq, Prod.mk.injEq] at H
  obtain ⟨rfl, rfl⟩ := H
  go_wp2
  go_ret2
  exact ⟨Zq, Zc1 GE165.out⟩
 rw [if_neg c8] at H
 have c8b0 : (t167 == 0) = F := beq_eq_false_iff_ne.mpr c8
 have c8b1 : (t167 != 0) = T := bne_iff_ne.mpr c8
 (try simp only [c8b0, c8b1])
 simp only [Option.some.injEq, Prod.mk.injEq] at H
 obtain ⟨rfl, rfl⟩ := H
 go_wp2
 go_ret2
 exact ⟨Zq, Zc1 GE165.out⟩
def Qbi.l0 : Nat → List Int → Int → Int → Int → Int → Option (Int × Int)
 | 0, _, _, _, _, _ => none
 | k + 1, x0, x4, x5, x9, x10 => if x10 < x9 then (if 0 ≤ x10 then (if x10 < (x0.length : Int) then ((QbB.f (rd x0 x10)).bind fun t174 => (if t174 = T then (Qbi.l0 k x0 (wrap64 (x4 + ((rd x0 x10) / 4294967296))) (wrap64 (x5 + (Go.bits .and .i64 (rd x0 x10) 4294967295))) x9 (wrap64 (x10 + 1))) else (some (0, 2)))) else (none)) else (none)) else (if (wrap64 (x4 + (x5 / 4294967296))) < (-268435456) then (some (0, 3)) else (if (wrap64 (x4 + (x5 / 4294967296))) > 268435456 then (some (0, 3)) else ((Qb3.f (wrap64 ((wrap64 ((wrap64 (x4 + (x5 / 4294967296))) * 4294967296)) + (Go.bits .and .i64 x5 4294967295)))).bind fun bt177 => (some (bt177.1, bt177.2)))))
def Qbi.f (k : Nat) (l0 : List Int) : Option (Int × Int) := Qbi.l0 k l0 0 0 (l0.length : Int) 0
theorem Qbi.mono_l : ∀ k, (∀ y0 y1 y2 y3 y4, LeO (Qbi.l0 k y0 y1 y2 y3 y4) (Qbi.l0 (k + 1) y0 y1 y2 y3 y4))
 | 0 => fun _ _ _ _ _ r h => by simp [Qbi.l0] at h
 | k + 1 => by
  have ih0 := Qbi.mono_l k
  intro y0 y1 y2 y3 y4
  unfold Qbi.l0
  exact ZM1 ih0
theorem Qbi.mono : ∀ a0 k, LeO (Qbi.f k a0) (Qbi.f (k + 1) a0) := by
 intro a0 k
 have ih0 := Qbi.mono_l k
 unfold Qbi.f
 exact ZM1 ih0
theorem Qbi.calls (k : Nat) (A0 : Option Addr) (c0 : Nat) (l0 : List Int) (r1 : Int) (r2 : Int) (w : World) (hr0 : Kd.C (Kd.int .i64) w A0 l0.length l0) (hc0 : l0.length ≤ c0) (h : Qbi.f k l0 = some (r1, r2)) :
  Calls Try.prog 59 #[.slice A0 l0.length c0] w fun e w' => e = .returned (.tuple #[.int .i64 r1, .int .i64 r2]) ∧ Drawn0 w w' := by
 have HR0 := Aside0.mk hr0
 have HC0 := Aside0.mk hc0
 clear hr0 hc0
 have H : (Qbi.l0 k l0 0 0 (l0.length : Int) 0) = some (r1, r2) := h
 clear h
 have H' := Aside0.mk H
 clear H
 go_enter Try.func59, Try.ntmps59
 go_wp2
 go_loopg [4, 5, 10] k (fun kq v4 v5 v10 w' => ∃ (x4_1 : Int) (x5_1 : Int) (x10_1 : Int), v4 = .int .i64 x4_1 ∧ v5 = .int .i64 x5_1 ∧ v10 = .int .i64 x10_1 ∧ Aside0 (Qbi.l0 kq l0 x4_1 x5_1 (l0.length : Int) x10_1 = some (r1, r2)) ∧ Aside0 (kq ≤ k) ∧ Drawn0 w w')
 case atStart => exact ⟨(0), (0), (0), (Zs), (Zs), (Zs), H', ⟨Nat.le_refl _⟩, Zd⟩
 case round =>
  clear H'
  obtain ⟨x4_1, x5_1, x10_1, rfl, rfl, rfl, HA, HK1, ⟨m1, rfl⟩⟩ := hrel
  cases gk with
  | zero => exact absurd HA.out (by simp [Qbi.l0])
  | succ k1 =>
   have H := HA.out
   clear HA
   simp only [Qbi.l0] at H
   by_cases c2 : x10_1 < (l0.length : Int)
   ·rw [if_pos c2] at H
    have c2b0 : decide (x10_1 < (l0.length : Int)) = T := decide_eq_true c2
    clear c2
    (try simp only [c2b0])
    by_cases c3 : 0 ≤ x10_1
    ·rw [if_pos c3] at H
     have c3b0 : decide (0 ≤ x10_1) = T := decide_eq_true c3
     clear c3
     by_cases c4 : x10_1 < (l0.length : Int)
     ·rw [if_pos c4] at H
      have c4b0 : decide (x10_1 < (l0.length : Int)) = T := decide_eq_true c4
      clear c4
      replace H := Option.bind_eq_some_iff.mp H
      obtain ⟨t174, A50, H⟩ := H
      replace H : (if t174 = T then (Qbi.l0 k1 l0 (wrap64 (x4_1 + ((rd l0 x10_1) / 4294967296))) (wrap64 (x5_1 + (Go.bits .and .i64 (rd l0 x10_1) 4294967295))) (l0.length : Int) (wrap64 (x10_1 + 1))) else (some (0, 2))) = some (r1, r2) := H
      have A5 := Aside0.mk A50
      clear A50
      have p173 : 0 ≤ (x10_1 : Int) := Ze
      have q173 : x10_1 < (l0.length : Int) := Ze
      obtain ⟨ad173, e173, hx173_0⟩ := Kd.at_int HR0.out x10_1 p173 q173
      cases e173
      replace p173 := eq_true p173
      replace q173 := eq_true q173
      go_upto_if 18 with (first | ((with_reducible refine Qax (f := 87) rfl ?_); refine goesL_ (some 17) rfl rfl Try.func87 (by kernel_rfl) rfl #[.int .i64 (rd l0 x10_1)] rfl (Zl) ?_; (with_reducible refine (QbB.calls (rd l0 x10_1) t174 _ A5.out).mono ?_); rintro e w' ⟨rfl, ⟨nd, rfl⟩⟩; refine ⟨_, rfl, ?_⟩))
      (try simp only [Act.put, Zj, Zk, Zm])
      by_cases c6 : t174 = T
      ·subst c6
       have H1 : (Qbi.l0 k1 l0 (wrap64 (x4_1 + ((rd l0 x10_1) / 4294967296))) (wrap64 (x5_1 + (Go.bits .and .i64 (rd l0 x10_1) 4294967295))) (l0.length : Int) (wrap64 (x10_1 + 1))) = some (r1, r2) := by rw [if_pos rfl] at H; exact H
       clear H
       have H := H1
       clear H1
       have H' := Aside0.mk H
       clear H
       have p175 : 0 ≤ (x10_1 : Int) := Ze
       have q175 : x10_1 < (l0.length : Int) := Ze
       obtain ⟨ad175, e175, hx175_0⟩ := Kd.at_int HR0.out x10_1 p175 q175
       obtain rfl : ad173 = ad175 := (by injection e175)
       replace p175 := eq_true p175
       replace q175 := eq_true q175
       have p176 : 0 ≤ (x10_1 : Int) := Ze
       have q176 : x10_1 < (l0.length : Int) := Ze
       obtain ⟨ad176, e176, hx176_0⟩ := Kd.at_int HR0.out x10_1 p176 q176
       obtain rfl : ad173 = ad176 := (by injection e176)
       replace p176 := eq_true p176
       replace q176 := eq_true q176
       go_wp2
       go_roundg k1
       case measure => have := HK1.out; omega
       case rel => exact ⟨(wrap64 (x4_1 + ((rd l0 x10_1) / 4294967296))), (wrap64 (x5_1 + (Go.bits .and .i64 (rd l0 x10_1) 4294967295))), (wrap64 (x10_1 + 1)), (Zs), (Zs), (Zs), H', ⟨by have := HK1.out; omega⟩, Zd⟩
      replace c6 := Bool.eq_false_iff.mpr c6
      subst c6
      have H1 : (some (0, 2)) = some (r1, r2) := by rw [if_neg (show ¬ (F = T) by decide)] at H; exact H
      clear H
      have H := H1
      clear H1
      simp only [Option.some.injEq, Prod.mk.injEq] at H
      obtain ⟨rfl, rfl⟩ := H
      go_wp2
      go_ret2
      exact ⟨Zs, Zd⟩
     rw [if_neg c4] at H
     exact absurd H (by simp)
    rw [if_neg c3] at H
    exact absurd H (by simp)
   rw [if_neg c2] at H
   have c2b0 : decide (x10_1 < (l0.length : Int)) = F := decide_eq_false c2
   clear c2
   (try simp only [c2b0])
   by_cases c7 : (wrap64 (x4_1 + (x5_1 / 4294967296))) < (-268435456)
   ·rw [if_pos c7] at H
    have c7b0 : decide ((wrap64 (x4_1 + (x5_1 / 4294967296))) < (-268435456)) = T := decide_eq_true c7
    clear c7
    simp only [Option.some.injEq, Prod.mk.injEq] at H
    obtain ⟨rfl, rfl⟩ := H
    go_wp2
    go_ret2
    exact ⟨Zs, Zd⟩
   rw [if_neg c7] at H
   have c7b0 : decide ((wrap64 (x4_1 + (x5_1 / 4294967296))) < (-268435456)) = F := decide_eq_false c7
   clear c7
   by_cases c8 : (wrap64 (x4_1 + (x5_1 / 4294967296))) > 268435456
   ·rw [if_pos c8] at H
    have c8b0 : decide (268435456 < (wrap64 (x4_1 + (x5_1 / 4294967296)))) = T := decide_eq_true c8
    clear c8
    (try simp only [c8b0])
    simp only [Option.some.injEq, Prod.mk.injEq] at H
    obtain ⟨rfl, rfl⟩ := H
    go_wp2
    go_ret2
    exact ⟨Zs, Zd⟩
   rw [if_neg c8] at H
   have c8b0 : decide (268435456 < (wrap64 (x4_1 + (x5_1 / 4294967296)))) = F := decide_eq_false c8
   clear c8
   (try simp only [c8b0])
   replace H := Option.bind_eq_some_iff.mp H
   obtain ⟨⟨t177, t178⟩, A90, H⟩ := H
   replace H : (some (t177, t178)) = some (r1, r2) := H
   have A9 := Aside0.mk A90
   clear A90
   simp only [Option.some.injEq, Prod.mk.injEq] at H
   obtain ⟨rfl, rfl⟩ := H
   go_wp2_with (first | ((with_reducible refine Qax (f := 97) rfl ?_); refine goesL_ (some 52) rfl rfl Try.func97 (by kernel_rfl) rfl #[.int .i64 (wrap64 ((wrap64 ((wrap64 (x4_1 + (x5_1 / 4294967296))) * 4294967296)) + (Go.bits .and .i64 x5_1 4294967295)))] rfl (Zl) ?_; (with_reducible refine (Qb3.calls (wrap64 ((wrap64 ((wrap64 (x4_1 + (x5_1 / 4294967296))) * 4294967296)) + (Go.bits .and .i64 x5_1 4294967295))) t177 t178 _ A9.out).mono ?_); rintro e w' ⟨rfl, ⟨nd, rfl⟩⟩; refine ⟨_, rfl, ?_⟩))
   go_ret2
   exact ⟨Zs, Zd⟩
def Qbp.f (a0 : ByteArray) (a1 : ByteArray) : Option (Int) := (QbC.f a0).bind fun t179 => ((QbC.f a1).bind fun t180 => (if t179 = T then (if t180 = T then (some 0) else (some (-1))) else (if t180 = T then (some 1) else (if (Op.bytesLess a0.toList a1.toList) = T then (some (-1)) else (if a0.toList = a1.toList then (some 0) else (some 1))))))
theorem Qbp.calls (a0 : ByteArray) (a1 : ByteArray) (r : Int) (w : World) (h : Qbp.f a0 a1 = some r) :
  Calls Try.prog 107 #[.string a0, .string a1] w fun e w' => e = .returned (.int .i64 r) ∧ Drawn0 w w' := by
 have H : ((QbC.f a0).bind fun t179 => ((QbC.f a1).bind fun t180 => (if t179 = T then (if t180 = T then (some 0) else (some (-1))) else (if t180 = T then (some 1) else (if (Op.bytesLess a0.toList a1.toList) = T then (some (-1)) else (if a0.toList = a1.toList then (some 0) else (some 1))))))) = some r := h
 clear h
 replace H := Option.bind_eq_some_iff.mp H
 obtain ⟨t179, A30, H⟩ := H
 replace H : ((QbC.f a1).bind fun t180 => (if t179 = T then (if t180 = T then (some 0) else (some (-1))) else (if t180 = T then (some 1) else (if (Op.bytesLess a0.toList a1.toList) = T then (some (-1)) else (if a0.toList = a1.toList then (some 0) else (some 1)))))) = some r := H
 have A3 := Aside0.mk A30
 clear A30
 replace H := Option.bind_eq_some_iff.mp H
 obtain ⟨t180, A40, H⟩ := H
 replace H : (if t179 = T then (if t180 = T then (some 0) else (some (-1))) else (if t180 = T then (some 1) else (if (Op.bytesLess a0.toList a1.toList) = T then (some (-1)) else (if a0.toList = a1.toList then (some 0) else (some 1))))) = some r := H
 have A4 := Aside0.mk A40
 clear A40
 go_enter Try.func107, Try.ntmps107
 go_upto_if 11 with (first | ((with_reducible refine Qax (f := 120) rfl ?_); refine goesL_ (some 8) rfl rfl Try.func120 (by kernel_rfl) rfl #[.string a0] rfl (Zl) ?_; (with_reducible refine (QbC.calls a0 t179 _ A3.out).mono ?_); rintro e w' ⟨rfl, ⟨nd, rfl⟩⟩; refine ⟨_, rfl, ?_⟩) | ((with_reducible refine Qax (f := 120) rfl ?_); refine goesL_ (some 10) rfl rfl Try.func120 (by kernel_rfl) rfl #[.string a1] rfl (Zl) ?_; (with_reducible refine (QbC.calls a1 t180 _ A4.out).mono ?_); rintro e w' ⟨rfl, ⟨nd, rfl⟩⟩; refine ⟨_, rfl, ?_⟩))
 (try simp only [Act.put, Zj, Zk, Zm])
 by_cases c5 : t179 = T
 ·subst c5
  have H1 : (if t180 = T then (some 0) else (some (-1))) = some r := by rw [if_pos rfl] at H; exact H
  clear H
  have H := H1
  clear H1
  by_cases c6 : t180 = T
  ·subst c6
   have H1 : (some 0) = some r := by rw [if_pos rfl] at H; exact H
   clear H
   have H := H1
   clear H1
   obtain rfl := Option.some.inj H
   go_wp2
   go_ret
   exact ⟨Zs, Zd⟩
  replace c6 := Bool.eq_false_iff.mpr c6
  subst c6
  have H1 : (some (-1)) = some r := by rw [if_neg (show ¬ (F = T) by decide)] at H; exact H
  clear H
  have H := H1
  clear H1
  obtain rfl := Option.some.inj H
  go_wp2
  go_ret
  exact ⟨Zs, Zd⟩
 replace c5 := Bool.eq_false_iff.mpr c5
 subst c5
 have H1 : (if t180 = T then (some 1) else (if (Op.bytesLess a0.toList a1.toList) = T then (some (-1)) else (if a0.toList = a1.toList then (some 0) else (some 1)))) = some r := by rw [if_neg (show ¬ (F = T) by decide)] at H; exact H
 clear H
 have H := H1
 clear H1
 by_cases c7 : t180 = T
 ·subst c7
  have H1 : (some 1) = some r := by rw [if_pos rfl] at H; exact H
  clear H
  have H := H1
  clear H1
  obtain rfl := Option.some.inj H
  go_wp2
  go_ret
  exact ⟨Zs, Zd⟩
 replace c7 := Bool.eq_false_iff.mpr c7
 subst c7
 have H1 : (if (Op.bytesLess a0.toList a1.toList) = T then (some (-1)) else (if a0.toList = a1.toList then (some 0) else (some 1))) = some r := by rw [if_neg (show ¬ (F = T) by decide)] at H; exact H
 clear H
 have H := H1
 clear H1
 by_cases c8 : (Op.bytesLess a0.toList a1.toList) = T
 ·rw [if_pos c8] at H
  have c8b0 : (Op.bytesLess a0.toList a1.toList) = T := c8
  clear c8
  (try simp only [c8b0])
  obtain rfl := Option.some.inj H
  go_wp2
  go_ret
  exact ⟨Zs, Zd⟩
 rw [if_neg c8] at H
 have c8b0 : (Op.bytesLess a0.toList a1.toList) = F := by simpa using c8
 clear c8
 (try simp only [c8b0])
 by_cases c9 : a0.toList = a1.toList
 ·rw [if_pos c9] at H
  have c9b0 : (a0.toList == a1.toList) = T := beq_iff_eq.mpr c9
  have c9b1 : (a0.toList != a1.toList) = F := bne_eq_false_iff_eq.mpr c9
  clear c9
  obtain rfl := Option.some.inj H
  go_wp2
  go_ret
  exact ⟨Zs, Zd⟩
 rw [if_neg c9] at H
 have c9b0 : (a0.toList == a1.toList) = F := beq_eq_false_iff_ne.mpr c9
 have c9b1 : (a0.toList != a1.toList) = T := bne_iff_ne.mpr c9
 obtain rfl := Option.some.inj H
 go_wp2
 go_ret
 exact ⟨Zs, Zd⟩
def Qbz.f (a0_0 : ByteArray) (a0_1 : ByteArray) (a0_2 : ByteArray) (a0_3 : Int) (a1_0 : ByteArray) (a1_1 : ByteArray) (a1_2 : ByteArray) (a1_3 : Int) : Option (Int) := (Qbp.f a0_0 a1_0).bind fun t183 => (if t183 = 0 then ((Qbp.f a0_1 a1_1).bind fun t184 => (if t184 = 0 then ((Qbp.f a0_2 a1_2).bind fun t185 => (some t185)) else (some t184))) else (some t183))
theorem Qbz.calls (a0_0 : ByteArray) (a0_1 : ByteArray) (a0_2 : ByteArray) (a0_3 : Int) (a1_0 : ByteArray) (a1_1 : ByteArray) (a1_2 : ByteArray) (a1_3 : Int) (r : Int) (w : World) (h : Qbz.f a0_0 a0_1 a0_2 a0_3 a1_0 a1_1 a1_2 a1_3 = some r) :
  Calls Try.prog 74 #[.agg #[.string a0_0, .string a0_1, .string a0_2, .int .i64 a0_3], .agg #[.string a1_0, .string a1_1, .string a1_2, .int .i64 a1_3]] w fun e w' => e = .returned (.int .i64 r) ∧ Below w.heap.size w w' := by
 have hu46 := Try.underlying46
 have HB := Aside0.mk (Below.refl w.heap.size w)
 have H : ((Qbp.f a0_0 a1_0).bind fun t183 => (if t183 = 0 then ((Qbp.f a0_1 a1_1).bind fun t184 => (if t184 = 0 then ((Qbp.f a0_2 a1_2).bind fun t185 => (some t185)) else (some t184))) else (some t183))) = some r := h
 clear h
 replace H := Option.bind_eq_some_iff.mp H
 obtain ⟨t183, A30, H⟩ := H
 replace H : (if t183 = 0 then ((Qbp.f a0_1 a1_1).bind fun t184 => (if t184 = 0 then ((Qbp.f a0_2 a1_2).bind fun t185 => (some t185)) else (some t184))) else (some t183)) = some r := H
 have A3 := Aside0.mk A30
 clear A30
 go_enter Try.func74, Try.ntmps74
 go_upto_if 15 with (first | ((with_reducible refine QaJ (N := 2) rfl ?_); refine Zbx (N := 2) (cs := #[.string a0_0, .string a0_1, .string a0_2, .int .i64 a0_3]) (t := 46) ?_; intro gb181 hg w4 hbox hb; have BK181 := Aside0.mk (hbox); have GW181 := Aside0.mk (Zt w hg (Zb)); have GE181 := GW181; replace HB := Aside0.mk (Qao (Zb) hb); clear hb hbox hg) | ((with_reducible refine QaJ (N := 3) rfl ?_); refine Zbx (N := 3) (cs := #[.string a1_0, .string a1_1, .string a1_2, .int .i64 a1_3]) (t := 46) ?_; intro gb182 hg w5 hbox hb; have BK182 := Aside0.mk (hbox); have GW182 := Aside0.mk (Zt w hg (Zc1 GE181.out)); have GE182 := GW182; have NB181_182 := Aside0.mk (Zn hg BK181.out); have NB182_181 := Aside0.mk NB181_182.out.symm; replace BK181 := Aside0.mk (Zi BK181.out hb); replace HB := Aside0.mk (Qao (Zc1 GE181.out) hb); clear hb hbox hg; have hnb6 := NB181_182.out; have hnc6 := NB182_181.out; obtain ⟨hcz7_0, hfz7_0⟩ := Zy (v := (.string a0_0)) BK181.out 0; obtain ⟨hcz7_1, hfz7_1⟩ := Zy (v := (.string a0_1)) BK181.out 1; obtain ⟨hcz7_2, hfz7_2⟩ := Zy (v := (.string a0_2)) BK181.out 2; obtain ⟨hcz7_3, hfz7_3⟩ := Zy (v := (.int .i64 a0_3)) BK181.out 3; obtain ⟨hcz8_0, hfz8_0⟩ := Zy (v := (.string a1_0)) BK182.out 0; obtain ⟨hcz8_1, hfz8_1⟩ := Zy (v := (.string a1_1)) BK182.out 1; obtain ⟨hcz8_2, hfz8_2⟩ := Zy (v := (.string a1_2)) BK182.out 2; obtain ⟨hcz8_3, hfz8_3⟩ := Zy (v := (.int .i64 a1_3)) BK182.out 3) | ((with_reducible refine Qax (f := 107) rfl ?_); refine goesL_ (some 13) rfl rfl Try.func107 (by kernel_rfl) rfl #[.string a0_0, .string a1_0] rfl (Zl) ?_; (with_reducible refine (Qbp.calls a0_0 a1_0 t183 _ A3.out).mono ?_); rintro e w' ⟨rfl, ⟨nd, rfl⟩⟩; refine ⟨_, rfl, ?_⟩))
 (try simp only [Act.put, Zj, Zk, Zm])
 by_cases c9 : t183 = 0
 ·rw [if_pos c9] at H
  have c9b0 : (t183 == 0) = T := beq_iff_eq.mpr c9
  have c9b1 : (t183 != 0) = F := bne_eq_false_iff_eq.mpr c9
  clear c9
  (try simp only [c9b0, c9b1])
  replace H := Option.bind_eq_some_iff.mp H
  obtain ⟨t184, A100, H⟩ := H
  replace H : (if t184 = 0 then ((Qbp.f a0_2 a1_2).bind fun t185 => (some t185)) else (some t184)) = some r := H
  have A10 := Aside0.mk A100
  clear A100
  have hnb11 := NB181_182.out
  have hnc11 := NB182_181.out
  obtain ⟨hcz12_0, hfz12_0⟩ := Zy (v := (.string a0_0)) BK181.out 0
  obtain ⟨hcz12_1, hfz12_1⟩ := Zy (v := (.string a0_1)) BK181.out 1
  obtain ⟨hcz12_2, hfz12_2⟩ := Zy (v := (.string a0_2)) BK181.out 2
  obtain ⟨hcz12_3, hfz12_3⟩ := Zy (v := (.int .i64 a0_3)) BK181.out 3
  obtain ⟨hcz13_0, hfz13_0⟩ := Zy (v := (.string a1_0)) BK182.out 0
  obtain ⟨hcz13_1, hfz13_1⟩ := Zy (v := (.string a1_1)) BK182.out 1
  obtain ⟨hcz13_2, hfz13_2⟩ := Zy (v := (.string a1_2)) BK182.out 2
  obtain ⟨hcz13_3, hfz13_3⟩ := Zy (v := (.int .i64 a1_3)) BK182.out 3
  go_upto_if 25 with (first | ((with_reducible refine Qax (f := 107) rfl ?_); refine goesL_ (some 23) rfl rfl Try.func107 (by kernel_rfl) rfl #[.string a0_1, .string a1_1] rfl (Zl) ?_; (with_reducible refine (Qbp.calls a0_1 a1_1 t184 _ A10.out).mono ?_); rintro e w' ⟨rfl, ⟨nd, rfl⟩⟩; refine ⟨_, rfl, ?_⟩))
  (try simp only [Act.put, Zj, Zk, Zm])
  by_cases c14 : t184 = 0
  ·rw [if_pos c14] at H
   have c14b0 : (t184 == 0) = T := beq_iff_eq.mpr c14
   have c14b1 : (t184 != 0) = F := bne_eq_false_iff_eq.mpr c14
   clear c14
   (try simp only [c14b0, c14b1])
   replace H := Option.bind_eq_some_iff.mp H
   obtain ⟨t185, A150, H⟩ := H
   replace H : (some t185) = some r := H
   have A15 := Aside0.mk A150
   clear A150
   obtain rfl := Option.some.inj H
   have hnb16 := NB181_182.out
   have hnc16 := NB182_181.out
   obtain ⟨hcz17_0, hfz17_0⟩ := Zy (v := (.string a0_0)) BK181.out 0
   obtain ⟨hcz17_1, hfz17_1⟩ := Zy (v := (.string a0_1)) BK181.out 1
   obtain ⟨hcz17_2, hfz17_2⟩ := Zy (v := (.string a0_2)) BK181.out 2
   obtain ⟨hcz17_3, hfz17_3⟩ := Zy (v := (.int .i64 a0_3)) BK181.out 3
   obtain ⟨hcz18_0, hfz18_0⟩ := Zy (v := (.string a1_0)) BK182.out 0
   obtain ⟨hcz18_1, hfz18_1⟩ := Zy (v := (.string a1_1)) BK182.out 1
   obtain ⟨hcz18_2, hfz18_2⟩ := Zy (v := (.string a1_2)) BK182.out 2
   obtain ⟨hcz18_3, hfz18_3⟩ := Zy (v := (.int .i64 a1_3)) BK182.out 3
   go_wp2_with (first | ((with_reducible refine Qax (f := 107) rfl ?_); refine goesL_ (some 31) rfl rfl Try.func107 (by kernel_rfl) rfl #[.string a0_2, .string a1_2] rfl (Zl) ?_; (with_reducible refine (Qbp.calls a0_2 a1_2 t185 _ A15.out).mono ?_); rintro e w' ⟨rfl, ⟨nd, rfl⟩⟩; refine ⟨_, rfl, ?_⟩))
   go_ret
   exact ⟨Zq, Zc2 GE181.out GE182.out⟩
  rw [if_neg c14] at H
  have c14b0 : (t184 == 0) = F := beq_eq_false_iff_ne.mpr c14
  have c14b1 : (t184 != 0) = T := bne_iff_ne.mpr c14
  (try simp only [c14b0, c14b1])
  obtain rfl := Option.some.inj H
  go_wp2
  go_ret
  exact ⟨Zq, Zc2 GE181.out GE182.out⟩
 rw [if_neg c9] at H
 have c9b0 : (t183 == 0) = F := beq_eq_false_iff_ne.mpr c9
 have c9b1 : (t183 != 0) = T := bne_iff_ne.mpr c9
 (try simp only [c9b0, c9b1])
 obtain rfl := Option.some.inj H
 go_wp2
 go_ret
 exact ⟨Zq, Zc2 GE181.out GE182.out⟩
def Qba.l0 : Nat → List ByteArray → Int → Int → Option (Bool)
 | 0, _, _, _ => none
 | k + 1, x5, x6, x7 => if x7 < x6 then (if 0 ≤ x7 then (if x7 < (x5.length : Int) then ((QaM.f k (rdOf ByteArray.empty x5 x7)).bind fun t187 => (if t187 = T then (Qba.l0 k x5 x6 (wrap64 (x7 + 1))) else (some F))) else (none)) else (none)) else (some T)
def Qba.f (k : Nat) (l0 : List ByteArray) : Option (Bool) := Qba.l0 k l0 (l0.length : Int) 0
theorem Qba.mono_l : ∀ k, (∀ y0 y1 y2, LeO (Qba.l0 k y0 y1 y2) (Qba.l0 (k + 1) y0 y1 y2))
 | 0 => fun _ _ _ r h => by simp [Qba.l0] at h
 | k + 1 => by
  have ih0 := Qba.mono_l k
  intro y0 y1 y2
  unfold Qba.l0
  exact ZM2 ih0 QaM.mono
theorem Qba.mono : ∀ a0 k, LeO (Qba.f k a0) (Qba.f (k + 1) a0) := by
 intro a0 k
 have ih0 := Qba.mono_l k
 unfold Qba.f
 exact ZM2 ih0 QaM.mono
theorem Qba.calls (k : Nat) (A0 : Option Addr) (c0 : Nat) (l0 : List ByteArray) (r : Bool) (w : World) (hr0 : Kd.C Kd.string w A0 l0.length l0) (hc0 : l0.length ≤ c0) (h : Qba.f k l0 = some r) :
  Calls Try.prog 83 #[.slice A0 l0.length c0] w fun e w' => e = .returned (.bool r) ∧ Drawn0 w w' := by
 have HR0 := Aside0.mk hr0
 have HC0 := Aside0.mk hc0
 clear hr0 hc0
 have H : (Qba.l0 k l0 (l0.length : Int) 0) = some r := h
 clear h
 have H' := Aside0.mk H
 clear H
 go_enter Try.func83, Try.ntmps83
 go_wp2
 go_loopg [7] k (fun kq v7 w' => ∃ (x7_1 : Int), v7 = .int .i64 x7_1 ∧ Aside0 (Qba.l0 kq l0 (l0.length : Int) x7_1 = some r) ∧ Aside0 (kq ≤ k) ∧ Drawn0 w w')
 case atStart => exact ⟨(0), (Zs), H', ⟨Nat.le_refl _⟩, Zd⟩
 case round =>
  clear H'
  obtain ⟨x7_1, rfl, HA, HK1, ⟨m1, rfl⟩⟩ := hrel
  cases gk with
  | zero => exact absurd HA.out (by simp [Qba.l0])
  | succ k1 =>
   have H := HA.out
   clear HA
   simp only [Qba.l0] at H
   by_cases c2 : x7_1 < (l0.length : Int)
   ·rw [if_pos c2] at H
    have c2b0 : decide (x7_1 < (l0.length : Int)) = T := decide_eq_true c2
    clear c2
    (try simp only [c2b0])
    by_cases c3 : 0 ≤ x7_1
    ·rw [if_pos c3] at H
     have c3b0 : decide (0 ≤ x7_1) = T := decide_eq_true c3
     clear c3
     by_cases c4 : x7_1 < (l0.length : Int)
     ·rw [if_pos c4] at H
      have c4b0 : decide (x7_1 < (l0.length : Int)) = T := decide_eq_true c4
      clear c4
      replace H := Option.bind_eq_some_iff.mp H
      obtain ⟨t187, A50, H⟩ := H
      replace H : (if t187 = T then (Qba.l0 k1 l0 (l0.length : Int) (wrap64 (x7_1 + 1))) else (some F)) = some r := H
      have A5 := Aside0.mk A50
      clear A50
      have p186 : 0 ≤ (x7_1 : Int) := Ze
      have q186 : x7_1 < (l0.length : Int) := Ze
      obtain ⟨ad186, e186, hx186_0⟩ := Kd.at_string HR0.out x7_1 p186 q186
      cases e186
      replace p186 := eq_true p186
      replace q186 := eq_true q186
      go_upto_if 13 with (first | ((with_reducible refine Qax (f := 108) rfl ?_); refine goesL_ (some 12) rfl rfl Try.func108 (by kernel_rfl) rfl #[.string (rdOf ByteArray.empty l0 x7_1)] rfl (Zl) ?_; (with_reducible refine (QaM.calls k1 (rdOf ByteArray.empty l0 x7_1) t187 _ A5.out).mono ?_); rintro e w' ⟨rfl, ⟨nd, rfl⟩⟩; refine ⟨_, rfl, ?_⟩))
      (try simp only [Act.put, Zj, Zk, Zm])
      by_cases c6 : t187 = T
      ·subst c6
       have H1 : (Qba.l0 k1 l0 (l0.length : Int) (wrap64 (x7_1 + 1))) = some r := by rw [if_pos rfl] at H; exact H
       clear H
       have H := H1
       clear H1
       have H' := Aside0.mk H
       clear H
       go_wp2
       go_roundg k1
       case measure => have := HK1.out; omega
       case rel => exact ⟨(wrap64 (x7_1 + 1)), (Zs), H', ⟨by have := HK1.out; omega⟩, Zd⟩
      replace c6 := Bool.eq_false_iff.mpr c6
      subst c6
      have H1 : (some F) = some r := by rw [if_neg (show ¬ (F = T) by decide)] at H; exact H
      clear H
      have H := H1
      clear H1
      obtain rfl := Option.some.inj H
      go_wp2
      go_ret
      exact ⟨Zs, Zd⟩
     rw [if_neg c4] at H
     exact absurd H (by simp)
    rw [if_neg c3] at H
    exact absurd H (by simp)
   rw [if_neg c2] at H
   have c2b0 : decide (x7_1 < (l0.length : Int)) = F := decide_eq_false c2
   clear c2
   (try simp only [c2b0])
   obtain rfl := Option.some.inj H
   go_wp2
   go_ret
   exact ⟨Zs, Zd⟩
mutual
def QaE.l0 : Nat → List (S46) → List (S46) → Int → Int → Option (Int)
 | 0, _, _, _, _ => none
 | k + 1, x0, x8, x9, x10 => if x10 < x9 then (if 0 ≤ x10 then (if x10 < (x8.length : Int) then ((Qba.f k (([(rd_T46 x8 x10).f0.f0, (rd_T46 x8 x10).f0.f1, (rd_T46 x8 x10).f1] : List ByteArray))).bind fun t193 => (if t193 = T then (if x10 > 0 then (if 0 ≤ (wrap64 (x10 - 1)) then (if (wrap64 (x10 - 1)) < (x0.length : Int) then ((Qbz.f ((rd_T46 x0 (wrap64 (x10 - 1))).f0.f0) ((rd_T46 x0 (wrap64 (x10 - 1))).f0.f1) ((rd_T46 x0 (wrap64 (x10 - 1))).f1) ((rd_T46 x0 (wrap64 (x10 - 1))).f2) ((rd_T46 x8 x10).f0.f0) ((rd_T46 x8 x10).f0.f1) ((rd_T46 x8 x10).f1) ((rd_T46 x8 x10).f2)).bind fun t195 => (QaE.j1 k x0 x8 x9 x10 (decide (t195 ≥ 0)) ((rd_T46 x8 x10).f0.f0) ((rd_T46 x8 x10).f0.f1) ((rd_T46 x8 x10).f1) ((rd_T46 x8 x10).f2))) else (none)) else (none)) else (QaE.j1 k x0 x8 x9 x10 F ((rd_T46 x8 x10).f0.f0) ((rd_T46 x8 x10).f0.f1) ((rd_T46 x8 x10).f1) ((rd_T46 x8 x10).f2))) else (some 10))) else (none)) else (none)) else (some 0)
def QaE.j1 : Nat → List (S46) → List (S46) → Int → Int → Bool → ByteArray → ByteArray → ByteArray → Int → Option (Int)
 | 0, _, _, _, _, _, _, _, _, _ => none
 | k + 1, x0, x8, x9, x10, x27, x190000, x190001, x190002, x190003 => if x27 = T then (some 12) else ((QbR.f x190003).bind fun t196 => (if t196 = T then (QaE.l0 k x0 x8 x9 (wrap64 (x10 + 1))) else (some 18)))
end
def QaE.f (k : Nat) (l0 : List (S46)) : Option (Int) := if (l0.length : Int) > 1024 then (some 8) else (QaE.l0 k l0 l0 (l0.length : Int) 0)
theorem QaE.mono_l : ∀ k, (∀ y0 y1 y2 y3, LeO (QaE.l0 k y0 y1 y2 y3) (QaE.l0 (k + 1) y0 y1 y2 y3)) ∧ (∀ y0 y1 y2 y3 y4 y5 y6 y7 y8, LeO (QaE.j1 k y0 y1 y2 y3 y4 y5 y6 y7 y8) (QaE.j1 (k + 1) y0 y1 y2 y3 y4 y5 y6 y7 y8))
 | 0 => ⟨fun _ _ _ _ r h => by simp [QaE.l0] at h, fun _ _ _ _ _ _ _ _ _ r h => by simp [QaE.j1] at h⟩
 | k + 1 => by
  obtain ⟨ih0, ih1⟩ := QaE.mono_l k
  refine ⟨?_, ?_⟩
  ·intro y0 y1 y2 y3
   unfold QaE.l0
   exact ZM3 ih0 ih1 Qba.mono
  intro y0 y1 y2 y3 y4 y5 y6 y7 y8
  unfold QaE.j1
  exact ZM3 ih0 ih1 Qba.mono
theorem QaE.mono : ∀ a0 k, LeO (QaE.f k a0) (QaE.f (k + 1) a0) := by
 intro a0 k
 obtain ⟨ih0, ih1⟩ := QaE.mono_l k
 unfold QaE.f
 exact ZM3 ih0 ih1 Qba.mono
def QaE.T8 : Bool × List (List Nat × List Nat) := (T, [([], []), ([0], [0]), ([1], [1]), ([2], [2]), ([2], [2]), ([4, 2], [2, 4]), ([3, 5, 2], [2, 3, 5]), ([6, 2], [2, 6]), ([2], [2]), ([7, 8, 2, 2], [2, 7, 8]), ([9, 2], [2, 9]), ([2, 10], [2, 10]), ([11, 9], [11])])
def QaE.B8 : List Nat := [0, 1, 3, 7, 7, 23, 63, 127, 7, 511, 1023, 2047, 4095]
theorem QaE.tab8 : rtab .any (opsOf Try.f71 8) = QaE.T8 := by kernel_rfl
theorem QaE.bits8 : Qb0 QaE.T8.2 QaE.B8 = T := by kernel_rfl
theorem QaE.calls (k : Nat) (A0 : Option Addr) (c0 : Nat) (l0 : List (S46)) (r : Int) (w : World) (hr0 : Kd.C k46 w A0 l0.length l0) (hc0 : l0.length ≤ c0) (h : QaE.f k l0 = some r) :
  Calls Try.prog 71 #[.slice A0 l0.length c0] w fun e w' => e = .returned (.int .i64 r) ∧ Below w.heap.size w w' := by
 have hu46 := Try.underlying46
 have HR0 := Aside0.mk hr0
 have HC0 := Aside0.mk hc0
 clear hr0 hc0
 have HB := Aside0.mk (Below.refl w.heap.size w)
 have H : (if (l0.length : Int) > 1024 then (some 8) else (QaE.l0 k l0 l0 (l0.length : Int) 0)) = some r := h
 clear h
 by_cases c2 : (l0.length : Int) > 1024
 ·rw [if_pos c2] at H
  have c2b0 : decide (1024 < (l0.length : Int)) = T := decide_eq_true c2
  have c2b1 : decide (1024 < l0.length) = T := decide_eq_true (by omega)
  clear c2
  obtain rfl := Option.some.inj H
  go_enter Try.func71, Try.ntmps71
  go_wp2
  go_ret
  exact ⟨Zq, Zb⟩
 rw [if_neg c2] at H
 have c2b0 : decide (1024 < (l0.length : Int)) = F := decide_eq_false c2
 have c2b1 : decide (1024 < l0.length) = F := decide_eq_false (by omega)
 clear c2
 have H' := Aside0.mk H
 clear H
 go_enter Try.func71, Try.ntmps71
 go_wp2
 go_loopg [10] k (fun kq v10 w' => ∃ (x10_1 : Int), v10 = .int .i64 x10_1 ∧ Aside0 (QaE.l0 kq l0 l0 (l0.length : Int) x10_1 = some r) ∧ Aside0 (kq ≤ k) ∧ Aside0 (Below w.heap.size w w'))
 case atStart => exact ⟨(0), (Zs), H', ⟨Nat.le_refl _⟩, ⟨Zb⟩⟩
 case round =>
  clear H'
  try clear c2
  try clear c2b0
  try clear c2b1
  try clear p2
  obtain ⟨x10_1, rfl, HA, HK1, HB⟩ := hrel
  cases gk with
  | zero => exact absurd HA.out (by simp [QaE.l0])
  | succ k1 =>
   have H := HA.out
   clear HA
   simp only [QaE.l0] at H
   by_cases c3 : x10_1 < (l0.length : Int)
   ·rw [if_pos c3] at H
    have c3b0 : decide (x10_1 < (l0.length : Int)) = T := decide_eq_true c3
    clear c3
    (try simp only [c3b0])
    by_cases c4 : 0 ≤ x10_1
    ·rw [if_pos c4] at H
     have c4b0 : decide (0 ≤ x10_1) = T := decide_eq_true c4
     clear c4
     by_cases c5 : x10_1 < (l0.length : Int)
     ·rw [if_pos c5] at H
      have c5b0 : decide (x10_1 < (l0.length : Int)) = T := decide_eq_true c5
      clear c5
      obtain ⟨y190, hy190⟩ : ∃ y_ : List ByteArray, y_ = (([(rd_T46 l0 x10_1).f0.f0, (rd_T46 l0 x10_1).f0.f1, (rd_T46 l0 x10_1).f1] : List ByteArray)) := ⟨_, rfl⟩
      replace H : ((Qba.f k1 y190).bind fun t193 => (if t193 = T then (if x10_1 > 0 then (if 0 ≤ (wrap64 (x10_1 - 1)) then (if (wrap64 (x10_1 - 1)) < (l0.length : Int) then ((Qbz.f ((rd_T46 l0 (wrap64 (x10_1 - 1))).f0.f0) ((rd_T46 l0 (wrap64 (x10_1 - 1))).f0.f1) ((rd_T46 l0 (wrap64 (x10_1 - 1))).f1) ((rd_T46 l0 (wrap64 (x10_1 - 1))).f2) ((rd_T46 l0 x10_1).f0.f0) ((rd_T46 l0 x10_1).f0.f1) ((rd_T46 l0 x10_1).f1) ((rd_T46 l0 x10_1).f2)).bind fun t195 => (QaE.j1 k1 l0 l0 (l0.length : Int) x10_1 (decide (t195 ≥ 0)) ((rd_T46 l0 x10_1).f0.f0) ((rd_T46 l0 x10_1).f0.f1) ((rd_T46 l0 x10_1).f1) ((rd_T46 l0 x10_1).f2))) else (none)) else (none)) else (QaE.j1 k1 l0 l0 (l0.length : Int) x10_1 F ((rd_T46 l0 x10_1).f0.f0) ((rd_T46 l0 x10_1).f0.f1) ((rd_T46 l0 x10_1).f1) ((rd_T46 l0 x10_1).f2))) else (some 10))) = some r := by first | (rw [hy190]; with_reducible exact H) | (have H2_ := (Option.bind_some _ _).symm.trans H; rw [hy190]; with_reducible exact H2_) | (have H2_ := (Option.bind_some _ _).symm.trans H; with_reducible exact H2_) | with_reducible exact H | (rw [hy190]; exact H) | exact H
      have Ny190 := Aside0.mk hy190
      clear hy190
      replace H := Option.bind_eq_some_iff.mp H
      obtain ⟨t193, A60, H⟩ := H
      replace H : (if t193 = T then (if x10_1 > 0 then (if 0 ≤ (wrap64 (x10_1 - 1)) then (if (wrap64 (x10_1 - 1)) < (l0.length : Int) then ((Qbz.f ((rd_T46 l0 (wrap64 (x10_1 - 1))).f0.f0) ((rd_T46 l0 (wrap64 (x10_1 - 1))).f0.f1) ((rd_T46 l0 (wrap64 (x10_1 - 1))).f1) ((rd_T46 l0 (wrap64 (x10_1 - 1))).f2) ((rd_T46 l0 x10_1).f0.f0) ((rd_T46 l0 x10_1).f0.f1) ((rd_T46 l0 x10_1).f1) ((rd_T46 l0 x10_1).f2)).bind fun t195 => (QaE.j1 k1 l0 l0 (l0.length : Int) x10_1 (decide (t195 ≥ 0)) ((rd_T46 l0 x10_1).f0.f0) ((rd_T46 l0 x10_1).f0.f1) ((rd_T46 l0 x10_1).f1) ((rd_T46 l0 x10_1).f2))) else (none)) else (none)) else (QaE.j1 k1 l0 l0 (l0.length : Int) x10_1 F ((rd_T46 l0 x10_1).f0.f0) ((rd_T46 l0 x10_1).f0.f1) ((rd_T46 l0 x10_1).f1) ((rd_T46 l0 x10_1).f2))) else (some 10)) = some r := H
      have A6 := Aside0.mk A60
      clear A60
      have p188 : 0 ≤ (x10_1 : Int) := Ze
      have q188 : x10_1 < (l0.length : Int) := Ze
      obtain ⟨ad188, e188, hx188_0, hx188_1, hx188_2, hx188_3⟩ := at_T46 HR0.out x10_1 p188 q188
      cases e188
      replace hx188_0 := Zx HB.out hx188_0
      replace hx188_1 := Zx HB.out hx188_1
      replace hx188_2 := Zx HB.out hx188_2
      replace hx188_3 := Zx HB.out hx188_3
      replace p188 := eq_true p188
      replace q188 := eq_true q188
      go_upto_if 15 with (first | ((with_reducible refine QaJ (N := 4) rfl ?_); refine Zbx (N := 4) (cs := #[.string (⟨#[]⟩ : ByteArray), .string (⟨#[]⟩ : ByteArray), .string (⟨#[]⟩ : ByteArray), .int .i64 0]) (t := 46) ?_; intro gb189 hg w7 hbox hb; have BK189 := Aside0.mk (hbox); have GW189 := Aside0.mk (Zt w hg (Zb)); have GE189 := GW189; replace HB := Aside0.mk (Qao (Zb) hb); clear hb hbox hg; obtain ⟨hcz8_0, hfz8_0⟩ := Zy (v := (.string (⟨#[]⟩ : ByteArray))) BK189.out 0; obtain ⟨hcz8_1, hfz8_1⟩ := Zy (v := (.string (⟨#[]⟩ : ByteArray))) BK189.out 1; obtain ⟨hcz8_2, hfz8_2⟩ := Zy (v := (.string (⟨#[]⟩ : ByteArray))) BK189.out 2; obtain ⟨hcz8_3, hfz8_3⟩ := Zy (v := (.int .i64 0)) BK189.out 3) | ((with_reducible refine QaJ (N := 24) rfl ?_); refine Kd.R_lit Kd.string _ 9 ?hg (N := 24) ?hd (xs := ([(rd_T46 l0 x10_1).f0.f0, (rd_T46 l0 x10_1).f0.f1, (rd_T46 l0 x10_1).f1] : List ByteArray)) (inner := [.string ((rd_T46 l0 x10_1).f0.f0), .string ((rd_T46 l0 x10_1).f0.f1), .string ((rd_T46 l0 x10_1).f1)]) (ok := fun _ => True) (okp := fun _ => True) ?hr ?hp (fun _ hk => hk) trivial (Below.refl _ _) (Nat.le_refl _) (by simp) ?_; (case hd => rfl); (case hg => rfl); (case hr => first | (go_simp; done) | (go_simp; rfl)); (case hp => exact (Reps.one (show Kd.M Kd.string _ _ _ ((rd_T46 l0 x10_1).f0.f0) [.string ((rd_T46 l0 x10_1).f0.f0)] from rfl) (Reps.one (show Kd.M Kd.string _ _ _ ((rd_T46 l0 x10_1).f0.f1) [.string ((rd_T46 l0 x10_1).f0.f1)] from rfl) (Reps.one (show Kd.M Kd.string _ _ _ ((rd_T46 l0 x10_1).f1) [.string ((rd_T46 l0 x10_1).f1)] from rfl) (Reps.none _ _))))); intro v191 w9 ho10 hb hg_ hnew_; clear hg_ hnew_; (first | rw [← Ny190.out] at ho10 | (simp only [Int.reduceToNat] at ho10; rw [← Ny190.out] at ho10)); have HO192 := Aside0.mk (Kd.R_lower ho10 (Qam (Zc1 GE189.out))); replace BK189 := Aside0.mk (Zpi #[.string ((rd_T46 l0 x10_1).f0.f0), .string ((rd_T46 l0 x10_1).f0.f1), .string ((rd_T46 l0 x10_1).f1), .int .i64 ((rd_T46 l0 x10_1).f2)] BK189.out hb); replace HB := Aside0.mk (Qao (Zc1 GE189.out) hb); clear hb ho10; obtain ⟨Ao11, co11, eo11⟩ := Kd.R_slice HO192.out; subst eo11) | ((with_reducible refine Qax (f := 83) rfl ?_); refine goesL_ (some 25) rfl rfl Try.func83 (by kernel_rfl) rfl #[.slice Ao11 y190.length co11] rfl (Zl) ?_; (with_reducible refine (Qba.calls k1 _ _ y190 t193 _ ?side1 ?side2 A6.out).mono ?_); (case side1 => exact Zv (Kd.R_reads' HO192.out).2.2); (case side2 => exact (Kd.R_reads' HO192.out).2.1); rintro e w' ⟨rfl, ⟨nd, rfl⟩⟩; refine ⟨_, rfl, ?_⟩))
      (try simp only [Act.put, Zj, Zk, Zm])
      by_cases c12 : t193 = T
      ·subst c12
       have H1 : (if x10_1 > 0 then (if 0 ≤ (wrap64 (x10_1 - 1)) then (if (wrap64 (x10_1 - 1)) < (l0.length : Int) then ((Qbz.f ((rd_T46 l0 (wrap64 (x10_1 - 1))).f0.f0) ((rd_T46 l0 (wrap64 (x10_1 - 1))).f0.f1) ((rd_T46 l0 (wrap64 (x10_1 - 1))).f1) ((rd_T46 l0 (wrap64 (x10_1 - 1))).f2) ((rd_T46 l0 x10_1).f0.f0) ((rd_T46 l0 x10_1).f0.f1) ((rd_T46 l0 x10_1).f1) ((rd_T46 l0 x10_1).f2)).bind fun t195 => (QaE.j1 k1 l0 l0 (l0.length : Int) x10_1 (decide (t195 ≥ 0)) ((rd_T46 l0 x10_1).f0.f0) ((rd_T46 l0 x10_1).f0.f1) ((rd_T46 l0 x10_1).f1) ((rd_T46 l0 x10_1).f2))) else (none)) else (none)) else (QaE.j1 k1 l0 l0 (l0.length : Int) x10_1 F ((rd_T46 l0 x10_1).f0.f0) ((rd_T46 l0 x10_1).f0.f1) ((rd_T46 l0 x10_1).f1) ((rd_T46 l0 x10_1).f2))) = some r := by rw [if_pos rfl] at H; exact H
       clear H
       have H := H1
       clear H1
       have HC13 := Aside0.mk H
       clear H
       go_upto_region 8 with (fail)
       go_cut [27] (fun v27 wc => ∃ (kq : Nat) (x27_12 : Bool), v27 = .bool x27_12 ∧ Aside0 (QaE.j1 kq l0 l0 (l0.length : Int) x10_1 x27_12 ((rd_T46 l0 x10_1).f0.f0) ((rd_T46 l0 x10_1).f0.f1) ((rd_T46 l0 x10_1).f1) ((rd_T46 l0 x10_1).f2) = some r) ∧ Aside0 (kq ≤ k1) ∧ Aside0 (wc.heap[gb189]? = some (.cells #[.string ((rd_T46 l0 x10_1).f0.f0), .string ((rd_T46 l0 x10_1).f0.f1), .string ((rd_T46 l0 x10_1).f1), .int .i64 ((rd_T46 l0 x10_1).f2)] 46 (0, 0))) ∧ Aside0 (Below w.heap.size w wc))
       case first =>
        have H := HC13.out
        clear HC13
        by_cases c14 : x10_1 > 0
        ·rw [if_pos c14] at H
         have c14b0 : decide (0 < x10_1) = T := decide_eq_true c14
         clear c14
         (first | rw [c14b0] | (simp only [i64_w, i32_w]; rw [c14b0]) | skip)
         obtain ⟨ji15, hji15⟩ : ∃ j_ : Int, (wrap64 (x10_1 - 1)) = j_ := ⟨_, rfl⟩
         replace H : (if 0 ≤ (ji15) then (if (ji15) < (l0.length : Int) then ((Qbz.f ((rd_T46 l0 (ji15)).f0.f0) ((rd_T46 l0 (ji15)).f0.f1) ((rd_T46 l0 (ji15)).f1) ((rd_T46 l0 (ji15)).f2) ((rd_T46 l0 x10_1).f0.f0) ((rd_T46 l0 x10_1).f0.f1) ((rd_T46 l0 x10_1).f1) ((rd_T46 l0 x10_1).f2)).bind fun t195 => (QaE.j1 k1 l0 l0 (l0.length : Int) x10_1 (decide (t195 ≥ 0)) ((rd_T46 l0 x10_1).f0.f0) ((rd_T46 l0 x10_1).f0.f1) ((rd_T46 l0 x10_1).f1) ((rd_T46 l0 x10_1).f2))) else (none)) else (none)) = some r := by first | (rw [hji15] at H; exact H) | (simp only [hji15] at H ⊢; exact H)
         have hji15w : (IntKind.i64.wrap (x10_1 - 1)) = ji15 := (i64_w _).trans hji15
         by_cases c16 : 0 ≤ (ji15)
         ·rw [if_pos c16] at H
          have c16b0 : decide (0 ≤ (ji15)) = T := decide_eq_true c16
          clear c16
          by_cases c17 : (ji15) < (l0.length : Int)
          ·rw [if_pos c17] at H
           have c17b0 : decide ((ji15) < (l0.length : Int)) = T := decide_eq_true c17
           clear c17
           replace H := Option.bind_eq_some_iff.mp H
           obtain ⟨t195, A180, H⟩ := H
           replace H : (QaE.j1 k1 l0 l0 (l0.length : Int) x10_1 (decide (t195 ≥ 0)) ((rd_T46 l0 x10_1).f0.f0) ((rd_T46 l0 x10_1).f0.f1) ((rd_T46 l0 x10_1).f1) ((rd_T46 l0 x10_1).f2)) = some r := H
           have A18 := Aside0.mk A180
           clear A180
           have H' := Aside0.mk H
           clear H
           try go_wp2
           (try (rw [QcL w9]; generalize hq_ : World.drewN w9 _ = w9; have n0_ : Aside0 (Kd.R Kd.string 9 w9 w.heap.size (fun _ => True) (.slice Ao11 y190.length co11) y190) := ⟨by rw [← hq_]; exact (Zr HO192.out)⟩; have n1_ : Aside0 (w9.heap[gb189]? = some (.cells #[.string ((rd_T46 l0 x10_1).f0.f0), .string ((rd_T46 l0 x10_1).f0.f1), .string ((rd_T46 l0 x10_1).f1), .int .i64 ((rd_T46 l0 x10_1).f2)] 46 (0, 0))) := ⟨by rw [← hq_]; exact (Zu BK189.out)⟩; have n2_ : Aside0 (Below w.heap.size w w9) := ⟨by rw [← hq_]; exact (Zc1 GE189.out)⟩; clear HO192 BK189 HB hq_; have HO192 := n0_; have BK189 := n1_; have HB := n2_; clear n0_ n1_ n2_))
           replace HO192 := Aside0.mk (Kd.R_drew HO192.out)
           replace BK189 := Aside0.mk (Qad BK189.out)
           replace HB := Aside0.mk (Qah HB.out)
           have p194 : 0 ≤ ((ji15) : Int) := Ze
           have q194 : (ji15) < (l0.length : Int) := Ze
           obtain ⟨ad194, e194, hx194_0, hx194_1, hx194_2, hx194_3⟩ := at_T46 HR0.out (ji15) p194 q194
           have hw194_3 := hx194_3
           have hw194_2 := hx194_2
           have hw194_1 := hx194_1
           have hw194_0 := hx194_0
           obtain rfl : ad188 = ad194 := (by injection e194)
           replace hx194_0 := Zx HB.out hx194_0
           replace hx194_1 := Zx HB.out hx194_1
           replace hx194_2 := Zx HB.out hx194_2
           replace hx194_3 := Zx HB.out hx194_3
           replace p194 := eq_true p194
           replace q194 := eq_true q194
           refine start_ (n := 13) (S := fun w' => w'.cell? ⟨gb189, 0, none⟩ = some (.string ((rd_T46 l0 x10_1).f0.f0)) ∧ w'.cell? ⟨gb189, 1, none⟩ = some (.string ((rd_T46 l0 x10_1).f0.f1)) ∧ w'.cell? ⟨gb189, 2, none⟩ = some (.string ((rd_T46 l0 x10_1).f1)) ∧ w'.cell? ⟨gb189, 3, none⟩ = some (.int .i64 ((rd_T46 l0 x10_1).f2)) ∧ w'.cell? (ad188.add (((ji15)).toNat * 4)) = some (.string ((rd_T46 l0 (ji15)).f0.f0)) ∧ w'.cell? ⟨(ad188.add (((ji15)).toNat * 4)).block, (ad188.add (((ji15)).toNat * 4)).off + 1, none⟩ = some (.string ((rd_T46 l0 (ji15)).f0.f1)) ∧ w'.cell? ⟨(ad188.add (((ji15)).toNat * 4)).block, (ad188.add (((ji15)).toNat * 4)).off + 2, none⟩ = some (.string ((rd_T46 l0 (ji15)).f1)) ∧ w'.cell? ⟨(ad188.add (((ji15)).toNat * 4)).block, (ad188.add (((ji15)).toNat * 4)).off + 3, none⟩ = some (.int .i64 ((rd_T46 l0 (ji15)).f2))) (ds := []) #[F, F, F, F, F, F, F, F, F, F, F, F, F] (by kernel_rfl) rfl rfl ⟨(Qai BK189.out 0).trans rfl, (Qai BK189.out 1).trans rfl, (Qai BK189.out 2).trans rfl, (Qai BK189.out 3).trans rfl, ((HB.out.cell (World.block_lt_of_cell? w _ hw194_0)).trans hw194_0), ((HB.out.cell (World.block_lt_of_cell? w _ hw194_1)).trans hw194_1), ((HB.out.cell (World.block_lt_of_cell? w _ hw194_2)).trans hw194_2), ((HB.out.cell (World.block_lt_of_cell? w _ hw194_3)).trans hw194_3)⟩ (fun hHeld => ?_); refine QbV QaE.tab8 QaE.bits8 (fun HT_ HW_ => ?_)
           generalize w9.drew = w19 at HO192 BK189 HB hx194_0 hx194_1 hx194_2 hx194_3 hHeld ⊢
           refine pure_ (i := 0) (N := some 28) (v := ?_) (a' := ?_) #[T, F, F, F, F, F, F, F, F, F, F, F, F] rfl rfl (any_of HT_.out (by kernel_rfl)) (fun _ _ _ h => h) (Or.inl ⟨by rfl, ?_⟩) ?_ ?_
           rotate_left
           ·intro w'
            go_simp
            with_reducible rfl
           rotate_left
           ·simp only [Act.put, Zj, Zk, Zm, i64_w, i32_w]
            rfl
           refine pure_ (i := 1) (N := some 29) (v := ?_) (a' := ?_) #[T, T, F, F, F, F, F, F, F, F, F, F, F] rfl rfl (any_of HT_.out (by kernel_rfl)) (fun _ _ _ h => h) (Or.inl ⟨by rfl, ?_⟩) ?_ ?_
           rotate_left
           ·intro w'
            go_simp
            with_reducible rfl
           rotate_left
           ·simp only [Act.put, Zj, Zk, Zm, i64_w, i32_w]
            rfl
           refine pure_ (i := 2) (N := some 30) (v := ?_) (a' := ?_) #[T, T, T, F, F, F, F, F, F, F, F, F, F] rfl rfl (any_of HT_.out (by kernel_rfl)) (fun _ _ _ h => h) (Or.inl ⟨by rfl, ?_⟩) ?_ ?_
           rotate_left
           ·intro w'
            go_simp
            with_reducible rfl
           rotate_left
           ·simp only [Act.put, Zj, Zk, Zm, i64_w, i32_w]
            rfl
           refine pure_ (i := 3) (N := some 31) (v := ?_) (a' := ?_) #[T, T, T, T, F, F, F, F, F, F, F, F, F] rfl rfl (any_of HT_.out (by kernel_rfl)) (fun _ _ _ h => h) (Or.inl ⟨by rfl, ?_⟩) ?_ ?_
           rotate_left
           ·intro w'
            go_simp
            with_reducible rfl
           rotate_left
           ·simp only [Act.put, Zj, Zk, Zm, i64_w, i32_w]
            rfl
           refine pure_ (i := 4) (N := some 32) (v := ?_) (a' := ?_) #[T, T, T, T, T, F, F, F, F, F, F, F, F] rfl rfl (any_of HT_.out (by kernel_rfl)) (fun _ _ _ h => h) (Or.inl ⟨by rfl, ?_⟩) ?_ ?_
           rotate_left
           ·intro w'
            go_simp
            with_reducible rfl
           rotate_left
           ·simp only [Act.put, Zj, Zk, Zm, i64_w, i32_w]
            rfl
           refine pure_ (i := 5) (N := some 33) (v := ?_) (a' := ?_) #[T, T, T, T, T, T, F, F, F, F, F, F, F] rfl rfl (any_of HT_.out (by kernel_rfl)) (fun _ _ _ h => h) (Or.inl ⟨by rfl, ?_⟩) ?_ ?_
           rotate_left
           ·intro w'
            go_simp
            with_reducible rfl
           rotate_left
           ·simp only [Act.put, Zj, Zk, Zm, i64_w, i32_w]
            rfl
           refine pure_ (i := 6) (N := some 34) (v := ?_) (a' := ?_) #[T, T, T, T, T, T, T, F, F, F, F, F, F] rfl rfl (any_of HT_.out (by kernel_rfl)) (fun _ _ _ h => h) (Or.inl ⟨by rfl, ?_⟩) ?_ ?_
           rotate_left
           ·intro w'
            go_simp
            with_reducible rfl
           rotate_left
           ·simp only [Act.put, Zj, Zk, Zm, i64_w, i32_w]
            rfl
           refine take_ (i := 7) (N := some 35) (v := ?_) (a' := ?_) #[T, T, T, T, T, T, T, T, F, F, F, F, F] rfl rfl (QbI HT_.out HW_.out (by kernel_rfl)) (fun _ _ _ h => h) (Or.inl ⟨by rfl, ?_⟩) hHeld ?_ ?_
           rotate_left
           ·rintro w' ⟨s0, s1, s2, s3, s4, s5, s6, s7⟩
            go_simp
            with_reducible rfl
           rotate_left
           ·simp only [Act.put, Zj, Zk, Zm, i64_w, i32_w]
            rfl
           refine take_ (i := 8) (N := some 36) (v := ?_) (a' := ?_) #[T, T, T, T, T, T, T, T, T, F, F, F, F] rfl rfl (QbI HT_.out HW_.out (by kernel_rfl)) (fun _ _ _ h => h) (Or.inl ⟨by rfl, ?_⟩) hHeld ?_ ?_
           rotate_left
           ·rintro w' ⟨s0, s1, s2, s3, s4, s5, s6, s7⟩
            go_simp
            with_reducible rfl
           rotate_left
           ·simp only [Act.put, Zj, Zk, Zm, i64_w, i32_w]
            rfl
           refine one_ (i := 9) (N := some 37) #[T, T, T, T, T, T, T, T, T, T, F, F, F] rfl rfl (one_of HT_.out (by kernel_rfl)) (by decide) (fun K hK => ?_)
           refine goes_ Try.func74 (by kernel_rfl) rfl #[.agg #[.string ((rd_T46 l0 (ji15)).f0.f0), .string ((rd_T46 l0 (ji15)).f0.f1), .string ((rd_T46 l0 (ji15)).f1), .int .i64 ((rd_T46 l0 (ji15)).f2)], .agg #[.string ((rd_T46 l0 x10_1).f0.f0), .string ((rd_T46 l0 x10_1).f0.f1), .string ((rd_T46 l0 x10_1).f1), .int .i64 ((rd_T46 l0 x10_1).f2)]] (by rfl) rfl rfl (by (try simp only [List.map_toArray, List.map_cons, List.map_nil]); first | done | (simp only [hji15]; rfl) | rfl | (simp only [List.length_drop, List.length_take]; rfl)) ?_
           with_reducible refine (Qbz.calls ((rd_T46 l0 (ji15)).f0.f0) ((rd_T46 l0 (ji15)).f0.f1) ((rd_T46 l0 (ji15)).f1) ((rd_T46 l0 (ji15)).f2) ((rd_T46 l0 x10_1).f0.f0) ((rd_T46 l0 x10_1).f0.f1) ((rd_T46 l0 x10_1).f1) ((rd_T46 l0 x10_1).f2) t195 _ A18.out).mono ?_
           rintro e w20 ⟨rfl, hb⟩
           refine ⟨_, rfl, ?_⟩
           replace HO192 := Aside0.mk (Kd.R_below (Zr HO192.out) hb)
           replace BK189 := Aside0.mk (Zi BK189.out hb)
           replace HB := Aside0.mk (Qao (Zc1 GE189.out) hb)
           (try clear hb)
           (try clear hb2)
           (try clear hk)
           (try clear hi)
           refine hK.out _ _ ⟨(Qai BK189.out 0).trans rfl, (Qai BK189.out 1).trans rfl, (Qai BK189.out 2).trans rfl, (Qai BK189.out 3).trans rfl, ((HB.out.cell (World.block_lt_of_cell? w _ hw194_0)).trans hw194_0), ((HB.out.cell (World.block_lt_of_cell? w _ hw194_1)).trans hw194_1), ((HB.out.cell (World.block_lt_of_cell? w _ hw194_2)).trans hw194_2), ((HB.out.cell (World.block_lt_of_cell? w _ hw194_3)).trans hw194_3)⟩ (fun hHeld => ?_)
           clear hK K
           refine norm_ (a' := ?_) ?_ ?_
           rotate_left
           ·show Act.put _ (some 37) _ = _
            simp only [Act.put, Zj, Zk, Zm, i64_w, i32_w]
            rfl
           refine pure_ (i := 10) (N := some 38) (v := ?_) (a' := ?_) #[T, T, T, T, T, T, T, T, T, T, T, F, F] rfl rfl (any_of HT_.out (by kernel_rfl)) (fun _ _ _ h => h) (Or.inl ⟨by rfl, ?_⟩) ?_ ?_
           rotate_left
           ·intro w'
            go_simp
            with_reducible rfl
           rotate_left
           ·simp only [Act.put, Zj, Zk, Zm, i64_w, i32_w]
            rfl
           refine pure_ (i := 11) (N := some 39) (v := ?_) (a' := ?_) #[T, T, T, T, T, T, T, T, T, T, T, T, F] rfl rfl (any_of HT_.out (by kernel_rfl)) (fun _ _ _ h => h) (Or.inl ⟨by rfl, ?_⟩) ?_ ?_
           rotate_left
           ·intro w'
            go_simp
            with_reducible rfl
           rotate_left
           ·simp only [Act.put, Zj, Zk, Zm, i64_w, i32_w]
            rfl
           refine pure_ (i := 12) (N := some 27) (v := ?_) (a' := ?_) #[T, T, T, T, T, T, T, T, T, T, T, T, T] rfl rfl (any_of HT_.out (by kernel_rfl)) (fun _ _ _ h => h) (Or.inl ⟨by rfl, ?_⟩) ?_ ?_
           rotate_left
           ·intro w'
            go_simp
            with_reducible rfl
           rotate_left
           ·simp only [Act.put, Zj, Zk, Zm, i64_w, i32_w]
            rfl
           refine done_ (Qb4 HT_.out (by kernel_rfl)) ?_
           try go_wp2
           go_meet
           case rel => exact ⟨_, (decide (t195 ≥ 0)), (Zs), H', ⟨by have := HK1.out; first | omega | exact Nat.le_refl _⟩, ⟨Zu BK189.out⟩, ⟨Zc1 GE189.out⟩⟩
          rw [if_neg c17] at H
          exact absurd H (by simp)
         rw [if_neg c16] at H
         exact absurd H (by simp)
        rw [if_neg c14] at H
        have c14b0 : decide (0 < x10_1) = F := decide_eq_false c14
        clear c14
        (first | rw [c14b0] | (simp only [i64_w, i32_w]; rw [c14b0]) | skip)
        have H' := Aside0.mk H
        clear H
        try go_wp2
        (try (rw [QcL w9]; generalize hq_ : World.drewN w9 _ = w9; have n0_ : Aside0 (Kd.R Kd.string 9 w9 w.heap.size (fun _ => True) (.slice Ao11 y190.length co11) y190) := ⟨by rw [← hq_]; exact (Zr HO192.out)⟩; have n1_ : Aside0 (w9.heap[gb189]? = some (.cells #[.string ((rd_T46 l0 x10_1).f0.f0), .string ((rd_T46 l0 x10_1).f0.f1), .string ((rd_T46 l0 x10_1).f1), .int .i64 ((rd_T46 l0 x10_1).f2)] 46 (0, 0))) := ⟨by rw [← hq_]; exact (Zu BK189.out)⟩; have n2_ : Aside0 (Below w.heap.size w w9) := ⟨by rw [← hq_]; exact (Zc1 GE189.out)⟩; clear HO192 BK189 HB hq_; have HO192 := n0_; have BK189 := n1_; have HB := n2_; clear n0_ n1_ n2_))
        replace HO192 := Aside0.mk (Kd.R_drew HO192.out)
        replace BK189 := Aside0.mk (Qad BK189.out)
        replace HB := Aside0.mk (Qah HB.out)
        refine start_ (n := 13) (S := fun w' => True) (ds := []) #[F, F, F, F, F, F, F, F, F, F, F, F, F] (by kernel_rfl) rfl rfl trivial (fun hHeld => ?_); refine QbV QaE.tab8 QaE.bits8 (fun HT_ HW_ => ?_)
        generalize w9.drew = w21 at HO192 BK189 HB hHeld ⊢
        refine pure_ (i := 0) (N := some 28) (v := ?_) (a' := ?_) #[T, F, F, F, F, F, F, F, F, F, F, F, F] rfl rfl (any_of HT_.out (by kernel_rfl)) (fun _ _ _ h => h) (Or.inl ⟨by rfl, ?_⟩) ?_ ?_
        rotate_left
        ·intro w'
         go_simp
         with_reducible rfl
        rotate_left
        ·simp only [Act.put, Zj, Zk, Zm, i64_w, i32_w]
         rfl
        refine pure_ (i := 1) (N := some 29) (v := ?_) (a' := ?_) #[T, T, F, F, F, F, F, F, F, F, F, F, F] rfl rfl (any_of HT_.out (by kernel_rfl)) (fun _ _ _ h => h) (Or.inl ⟨by rfl, ?_⟩) ?_ ?_
        rotate_left
        ·intro w'
         go_simp
         with_reducible rfl
        rotate_left
        ·simp only [Act.put, Zj, Zk, Zm, i64_w, i32_w]
         rfl
        refine pure_ (i := 2) (N := some 30) (v := ?_) (a' := ?_) #[T, T, T, F, F, F, F, F, F, F, F, F, F] rfl rfl (any_of HT_.out (by kernel_rfl)) (fun _ _ _ h => h) (Or.inl ⟨by rfl, ?_⟩) ?_ ?_
        rotate_left
        ·intro w'
         go_simp
         with_reducible rfl
        rotate_left
        ·simp only [Act.put, Zj, Zk, Zm, i64_w, i32_w]
         rfl
        refine pure_ (i := 3) (N := some 31) (v := undef) (a' := ?_) #[T, T, T, T, F, F, F, F, F, F, F, F, F] rfl rfl (any_of HT_.out (by kernel_rfl)) (fun _ _ _ h => h) (Or.inr ⟨by rfl, rfl⟩) ?_ ?_
        rotate_left
        ·simp only [Act.put, Zj, Zk, Zm, i64_w, i32_w]
         rfl
        refine pure_ (i := 4) (N := some 32) (v := undef) (a' := ?_) #[T, T, T, T, T, F, F, F, F, F, F, F, F] rfl rfl (any_of HT_.out (by kernel_rfl)) (fun _ _ _ h => h) (Or.inr ⟨by rfl, rfl⟩) ?_ ?_
        rotate_left
        ·simp only [Act.put, Zj, Zk, Zm, i64_w, i32_w]
         rfl
        refine pure_ (i := 5) (N := some 33) (v := undef) (a' := ?_) #[T, T, T, T, T, T, F, F, F, F, F, F, F] rfl rfl (any_of HT_.out (by kernel_rfl)) (fun _ _ _ h => h) (Or.inr ⟨by rfl, rfl⟩) ?_ ?_
        rotate_left
        ·simp only [Act.put, Zj, Zk, Zm, i64_w, i32_w]
         rfl
        refine pure_ (i := 6) (N := some 34) (v := undef) (a' := ?_) #[T, T, T, T, T, T, T, F, F, F, F, F, F] rfl rfl (any_of HT_.out (by kernel_rfl)) (fun _ _ _ h => h) (Or.inr ⟨by rfl, rfl⟩) ?_ ?_
        rotate_left
        ·simp only [Act.put, Zj, Zk, Zm, i64_w, i32_w]
         rfl
        refine pure_ (i := 7) (N := some 35) (v := undef) (a' := ?_) #[T, T, T, T, T, T, T, T, F, F, F, F, F] rfl rfl (any_of HT_.out (by kernel_rfl)) (fun _ _ _ h => h) (Or.inr ⟨by rfl, rfl⟩) ?_ ?_
        rotate_left
        ·simp only [Act.put, Zj, Zk, Zm, i64_w, i32_w]
         rfl
        refine pure_ (i := 8) (N := some 36) (v := undef) (a' := ?_) #[T, T, T, T, T, T, T, T, T, F, F, F, F] rfl rfl (any_of HT_.out (by kernel_rfl)) (fun _ _ _ h => h) (Or.inr ⟨by rfl, rfl⟩) ?_ ?_
        rotate_left
        ·simp only [Act.put, Zj, Zk, Zm, i64_w, i32_w]
         rfl
        refine pure_ (i := 9) (N := some 37) (v := undef) (a' := ?_) #[T, T, T, T, T, T, T, T, T, T, F, F, F] rfl rfl (any_of HT_.out (by kernel_rfl)) (fun _ _ _ h => h) (Or.inr ⟨by rfl, rfl⟩) ?_ ?_
        rotate_left
        ·simp only [Act.put, Zj, Zk, Zm, i64_w, i32_w]
         rfl
        refine pure_ (i := 10) (N := some 38) (v := undef) (a' := ?_) #[T, T, T, T, T, T, T, T, T, T, T, F, F] rfl rfl (any_of HT_.out (by kernel_rfl)) (fun _ _ _ h => h) (Or.inr ⟨by rfl, rfl⟩) ?_ ?_
        rotate_left
        ·simp only [Act.put, Zj, Zk, Zm, i64_w, i32_w]
         rfl
        refine pure_ (i := 11) (N := some 39) (v := ?_) (a' := ?_) #[T, T, T, T, T, T, T, T, T, T, T, T, F] rfl rfl (any_of HT_.out (by kernel_rfl)) (fun _ _ _ h => h) (Or.inl ⟨by rfl, ?_⟩) ?_ ?_
        rotate_left
        ·intro w'
         go_simp
         with_reducible rfl
        rotate_left
        ·simp only [Act.put, Zj, Zk, Zm, i64_w, i32_w]
         rfl
        refine pure_ (i := 12) (N := some 27) (v := ?_) (a' := ?_) #[T, T, T, T, T, T, T, T, T, T, T, T, T] rfl rfl (any_of HT_.out (by kernel_rfl)) (fun _ _ _ h => h) (Or.inl ⟨by rfl, ?_⟩) ?_ ?_
        rotate_left
        ·intro w'
         go_simp
         with_reducible rfl
        rotate_left
        ·simp only [Act.put, Zj, Zk, Zm, i64_w, i32_w]
         rfl
        refine done_ (Qb4 HT_.out (by kernel_rfl)) ?_
        try go_wp2
        go_meet
        case rel => exact ⟨_, (F), (Zs), H', ⟨by have := HK1.out; first | omega | exact Nat.le_refl _⟩, ⟨Zu BK189.out⟩, ⟨Zc1 GE189.out⟩⟩
       case rest =>
        clear HC13
        try clear c1
        try clear p1
        try clear q1
        try clear hx1
        try clear c2
        try clear c2b0
        try clear c2b1
        try clear p2
        try clear c3
        try clear c3b0
        try clear c4
        try clear c4b0
        try clear c5
        try clear c5b0
        try clear p6
        try clear c7
        try clear c8
        try clear c12
        try clear c14
        try clear c14b0
        try clear c16
        try clear c16b0
        try clear c17
        try clear c17b0
        try clear p18
        try clear q18
        try clear hx18
        try clear p19
        try clear q19
        try clear hx19
        try clear hcz8_0
        try clear hcz8_1
        try clear hcz8_2
        try clear hcz8_3
        try clear hfz8_0
        try clear hfz8_1
        try clear hfz8_2
        try clear hfz8_3
        try clear hx188_0
        try clear hx188_1
        try clear hx188_2
        try clear hx188_3
        try clear hx194_0
        try clear hx194_1
        try clear hx194_2
        try clear hx194_3
        try clear p188
        try clear p194
        try clear p2
        try clear q188
        try clear q194
        obtain ⟨kq, x27_12, rfl, HA, HJ12, BK189, HB⟩ := hcut
        cases kq with
        | zero => exact absurd HA.out (by simp [QaE.j1])
        | succ kj12 =>
         have H := HA.out
         clear HA
         simp only [QaE.j1] at H
         by_cases c22 : x27_12 = T
         ·subst c22
          have H1 : (some 12) = some r := by rw [if_pos rfl] at H; exact H
          clear H
          have H := H1
          clear H1
          obtain rfl := Option.some.inj H
          go_wp2
          go_ret
          exact ⟨Zq, Zc1 GE189.out⟩
         replace c22 := Bool.eq_false_iff.mpr c22
         subst c22
         have H1 : ((QbR.f ((rd_T46 l0 x10_1).f2)).bind fun t196 => (if t196 = T then (QaE.l0 kj12 l0 l0 (l0.length : Int) (wrap64 (x10_1 + 1))) else (some 18))) = some r := by rw [if_neg (show ¬ (F = T) by decide)] at H; exact H
         clear H
         have H := H1
         clear H1
         replace H := Option.bind_eq_some_iff.mp H
         obtain ⟨t196, A230, H⟩ := H
         replace H : (if t196 = T then (QaE.l0 kj12 l0 l0 (l0.length : Int) (wrap64 (x10_1 + 1))) else (some 18)) = some r := H
         have A23 := Aside0.mk A230
         clear A230
         obtain ⟨hcz24_0, hfz24_0⟩ := Zy (v := (.string ((rd_T46 l0 x10_1).f0.f0))) BK189.out 0
         obtain ⟨hcz24_1, hfz24_1⟩ := Zy (v := (.string ((rd_T46 l0 x10_1).f0.f1))) BK189.out 1
         obtain ⟨hcz24_2, hfz24_2⟩ := Zy (v := (.string ((rd_T46 l0 x10_1).f1))) BK189.out 2
         obtain ⟨hcz24_3, hfz24_3⟩ := Zy (v := (.int .i64 ((rd_T46 l0 x10_1).f2))) BK189.out 3
         go_upto_if 40 with (first | ((with_reducible refine Qax (f := 72) rfl ?_); refine goesL_ (some 43) rfl rfl Try.func72 (by kernel_rfl) rfl #[.int .i64 ((rd_T46 l0 x10_1).f2)] rfl (Zl) ?_; (with_reducible refine (QbR.calls ((rd_T46 l0 x10_1).f2) t196 _ A23.out).mono ?_); rintro e w' ⟨rfl, ⟨nd, rfl⟩⟩; refine ⟨_, rfl, ?_⟩))
         (try simp only [Act.put, Zj, Zk, Zm])
         by_cases c25 : t196 = T
         ·subst c25
          have H1 : (QaE.l0 kj12 l0 l0 (l0.length : Int) (wrap64 (x10_1 + 1))) = some r := by rw [if_pos rfl] at H; exact H
          clear H
          have H := H1
          clear H1
          have H' := Aside0.mk H
          clear H
          go_wp2
          go_roundg kj12
          case measure => have := HK1.out; have := HJ12.out; omega
          case rel => exact ⟨(wrap64 (x10_1 + 1)), (Zs), H', ⟨by have := HK1.out; have := HJ12.out; omega⟩, ⟨Zc1 GE189.out⟩⟩
         replace c25 := Bool.eq_false_iff.mpr c25
         subst c25
         have H1 : (some 18) = some r := by rw [if_neg (show ¬ (F = T) by decide)] at H; exact H
         clear H
         have H := H1
         clear H1
         obtain rfl := Option.some.inj H
         go_wp2
         go_ret
         exact ⟨Zq, Zc1 GE189.out⟩
      replace c12 := Bool.eq_false_iff.mpr c12
      subst c12
      have H1 : (some 10) = some r := by rw [if_neg (show ¬ (F = T) by decide)] at H; exact H
      clear H
      have H := H1
      clear H1
      obtain rfl := Option.some.inj H
      go_wp2
      go_ret
      exact ⟨Zq, Zc1 GE189.out⟩
     rw [if_neg c5] at H
     exact absurd H (by simp)
    rw [if_neg c4] at H
    exact absurd H (by simp)
   rw [if_neg c3] at H
   have c3b0 : decide (x10_1 < (l0.length : Int)) = F := decide_eq_false c3
   clear c3
   (try simp only [c3b0])
   obtain rfl := Option.some.inj H
   go_wp2
   go_ret
   exact ⟨Zq, Zb⟩
def Qa5.l0 : Nat → List (S84) → List (S84) → Int → Int → Option (Int)
 | 0, _, _, _, _ => none
 | k + 1, x0, x9, x10, x11 => if x11 < x10 then (if 0 ≤ x11 then (if x11 < (x9.length : Int) then ((QaY.f k ((rd_T84 x9 x11).f0) ((rd_T84 x9 x11).f1) ((rd_T84 x9 x11).f2) ((rd_T84 x9 x11).f3) ((rd_T84 x9 x11).f4) ((rd_T84 x9 x11).f5)).bind fun t205 => (if t205 = 0 then (if x11 > 0 then (if 0 ≤ (wrap64 (x11 - 1)) then (if (wrap64 (x11 - 1)) < (x0.length : Int) then (if (Op.bytesLess (((rd_T84 x9 x11).f0).toList) (((rd_T84 x0 (wrap64 (x11 - 1))).f0).toList)) = T then (some 12) else (if (((rd_T84 x9 x11).f0).toList) = (((rd_T84 x0 (wrap64 (x11 - 1))).f0).toList) then (some 12) else (Qa5.l0 k x0 x9 x10 (wrap64 (x11 + 1))))) else (none)) else (none)) else (Qa5.l0 k x0 x9 x10 (wrap64 (x11 + 1)))) else (some t205))) else (none)) else (none)) else (some 0)
def Qa5.f (k : Nat) (l0 : List (S84)) : Option (Int) := if (l0.length : Int) > 1024 then (some 8) else (Qa5.l0 k l0 l0 (l0.length : Int) 0)
theorem Qa5.mono_l : ∀ k, (∀ y0 y1 y2 y3, LeO (Qa5.l0 k y0 y1 y2 y3) (Qa5.l0 (k + 1) y0 y1 y2 y3))
 | 0 => fun _ _ _ _ r h => by simp [Qa5.l0] at h
 | k + 1 => by
  have ih0 := Qa5.mono_l k
  intro y0 y1 y2 y3
  unfold Qa5.l0
  exact ZM2 ih0 QaY.mono
theorem Qa5.mono : ∀ a0 k, LeO (Qa5.f k a0) (Qa5.f (k + 1) a0) := by
 intro a0 k
 have ih0 := Qa5.mono_l k
 unfold Qa5.f
 exact ZM2 ih0 QaY.mono
theorem Qa5.calls (k : Nat) (A0 : Option Addr) (c0 : Nat) (l0 : List (S84)) (r : Int) (w : World) (hr0 : Kd.C k84 w A0 l0.length l0) (hc0 : l0.length ≤ c0) (h : Qa5.f k l0 = some r) :
  Calls Try.prog 116 #[.slice A0 l0.length c0] w fun e w' => e = .returned (.int .i64 r) ∧ Below w.heap.size w w' := by
 have hu84 := Try.underlying84
 have HR0 := Aside0.mk hr0
 have HC0 := Aside0.mk hc0
 clear hr0 hc0
 have HB := Aside0.mk (Below.refl w.heap.size w)
 have H : (if (l0.length : Int) > 1024 then (some 8) else (Qa5.l0 k l0 l0 (l0.length : Int) 0)) = some r := h
 clear h
 by_cases c2 : (l0.length : Int) > 1024
 ·rw [if_pos c2] at H
  have c2b0 : decide (1024 < (l0.length : Int)) = T := decide_eq_true c2
  have c2b1 : decide (1024 < l0.length) = T := decide_eq_true (by omega)
  clear c2
  obtain rfl := Option.some.inj H
  go_enter Try.func116, Try.ntmps116
  go_wp2
  repeat (go_quiet (fail); try go_wp2)
  go_ret
  exact ⟨Zq, Zb⟩
 rw [if_neg c2] at H
 have c2b0 : decide (1024 < (l0.length : Int)) = F := decide_eq_false c2
 have c2b1 : decide (1024 < l0.length) = F := decide_eq_false (by omega)
 clear c2
 have H' := Aside0.mk H
 clear H
 go_enter Try.func116, Try.ntmps116
 go_wp2
 repeat (go_quiet (fail); try go_wp2)
 go_loopg [11] k (fun kq v11 w' => ∃ (x11_1 : Int), v11 = .int .i64 x11_1 ∧ Aside0 (Qa5.l0 kq l0 l0 (l0.length : Int) x11_1 = some r) ∧ Aside0 (kq ≤ k) ∧ Aside0 (Below w.heap.size w w'))
 case atStart => exact ⟨(0), (Zs), H', ⟨Nat.le_refl _⟩, ⟨Zb⟩⟩
 case round =>
  clear H'
  try clear c1
  try clear c2
  try clear c2b0
  try clear c2b1
  try clear p2
  obtain ⟨x11_1, rfl, HA, HK1, HB⟩ := hrel
  cases gk with
  | zero => exact absurd HA.out (by simp [Qa5.l0])
  | succ k1 =>
   have H := HA.out
   clear HA
   simp only [Qa5.l0] at H
   by_cases c3 : x11_1 < (l0.length : Int)
   ·rw [if_pos c3] at H
    have c3b0 : decide (x11_1 < (l0.length : Int)) = T := decide_eq_true c3
    clear c3
    (try simp only [c3b0])
    by_cases c4 : 0 ≤ x11_1
    ·rw [if_pos c4] at H
     have c4b0 : decide (0 ≤ x11_1) = T := decide_eq_true c4
     clear c4
     by_cases c5 : x11_1 < (l0.length : Int)
     ·rw [if_pos c5] at H
      have c5b0 : decide (x11_1 < (l0.length : Int)) = T := decide_eq_true c5
      clear c5
      replace H := Option.bind_eq_some_iff.mp H
      obtain ⟨t205, A60, H⟩ := H
      replace H : (if t205 = 0 then (if x11_1 > 0 then (if 0 ≤ (wrap64 (x11_1 - 1)) then (if (wrap64 (x11_1 - 1)) < (l0.length : Int) then (if (Op.bytesLess (((rd_T84 l0 x11_1).f0).toList) (((rd_T84 l0 (wrap64 (x11_1 - 1))).f0).toList)) = T then (some 12) else (if (((rd_T84 l0 x11_1).f0).toList) = (((rd_T84 l0 (wrap64 (x11_1 - 1))).f0).toList) then (some 12) else (Qa5.l0 k1 l0 l0 (l0.length : Int) (wrap64 (x11_1 + 1))))) else (none)) else (none)) else (Qa5.l0 k1 l0 l0 (l0.length : Int) (wrap64 (x11_1 + 1)))) else (some t205)) = some r := H
      have A6 := Aside0.mk A60
      clear A60
      have p203 : 0 ≤ (x11_1 : Int) := Ze
      have q203 : x11_1 < (l0.length : Int) := Ze
      obtain ⟨ad203, e203, hx203_0, hx203_1, hx203_2, hx203_3, hx203_4, hx203_5⟩ := at_T84 HR0.out x11_1 p203 q203
      cases e203
      replace hx203_0 := Zx HB.out hx203_0
      replace hx203_1 := Zx HB.out hx203_1
      replace hx203_2 := Zx HB.out hx203_2
      replace hx203_3 := Zx HB.out hx203_3
      replace hx203_4 := Zx HB.out hx203_4
      replace hx203_5 := Zx HB.out hx203_5
      replace p203 := eq_true p203
      replace q203 := eq_true q203
      go_upto_if 19 with (first | ((with_reducible refine QaJ (N := 4) rfl ?_); refine Zbx (N := 4) (cs := #[.string (⟨#[]⟩ : ByteArray), .int .i64 0, .int .i64 0, .int .i64 0, .int .i64 0, .int .i64 0]) (t := 84) ?_; intro gb204 hg w7 hbox hb; have BK204 := Aside0.mk (hbox); have GW204 := Aside0.mk (Zt w hg (Zb)); have GE204 := GW204; replace HB := Aside0.mk (Qao (Zb) hb); clear hb hbox hg; obtain ⟨hcz8_0, hfz8_0⟩ := Zy (v := (.string (⟨#[]⟩ : ByteArray))) BK204.out 0; obtain ⟨hcz8_1, hfz8_1⟩ := Zy (v := (.int .i64 0)) BK204.out 1; obtain ⟨hcz8_2, hfz8_2⟩ := Zy (v := (.int .i64 0)) BK204.out 2; obtain ⟨hcz8_3, hfz8_3⟩ := Zy (v := (.int .i64 0)) BK204.out 3; obtain ⟨hcz8_4, hfz8_4⟩ := Zy (v := (.int .i64 0)) BK204.out 4; obtain ⟨hcz8_5, hfz8_5⟩ := Zy (v := (.int .i64 0)) BK204.out 5) | (go_at_call 78; (with_reducible refine (QaY.calls k1 ((rd_T84 l0 x11_1).f0) ((rd_T84 l0 x11_1).f1) ((rd_T84 l0 x11_1).f2) ((rd_T84 l0 x11_1).f3) ((rd_T84 l0 x11_1).f4) ((rd_T84 l0 x11_1).f5) t205 _ A6.out).mono ?_); rintro e w9 ⟨rfl, hb⟩; replace BK204 := Aside0.mk (Zpi #[.string ((rd_T84 l0 x11_1).f0), .int .i64 ((rd_T84 l0 x11_1).f1), .int .i64 ((rd_T84 l0 x11_1).f2), .int .i64 ((rd_T84 l0 x11_1).f3), .int .i64 ((rd_T84 l0 x11_1).f4), .int .i64 ((rd_T84 l0 x11_1).f5)] BK204.out hb); replace HB := Aside0.mk (Qao (Zc1 GE204.out) hb); (try clear hb); (try clear hb2); (try clear hk); (try clear hi)))
      repeat (go_quiet (first | ((with_reducible refine QaJ (N := 4) rfl ?_); refine Zbx (N := 4) (cs := #[.string (⟨#[]⟩ : ByteArray), .int .i64 0, .int .i64 0, .int .i64 0, .int .i64 0, .int .i64 0]) (t := 84) ?_; intro gb204 hg w7 hbox hb; have BK204 := Aside0.mk (hbox); have GW204 := Aside0.mk (Zt w hg (Zb)); have GE204 := GW204; replace HB := Aside0.mk (Qao (Zb) hb); clear hb hbox hg; obtain ⟨hcz8_0, hfz8_0⟩ := Zy (v := (.string (⟨#[]⟩ : ByteArray))) BK204.out 0; obtain ⟨hcz8_1, hfz8_1⟩ := Zy (v := (.int .i64 0)) BK204.out 1; obtain ⟨hcz8_2, hfz8_2⟩ := Zy (v := (.int .i64 0)) BK204.out 2; obtain ⟨hcz8_3, hfz8_3⟩ := Zy (v := (.int .i64 0)) BK204.out 3; obtain ⟨hcz8_4, hfz8_4⟩ := Zy (v := (.int .i64 0)) BK204.out 4; obtain ⟨hcz8_5, hfz8_5⟩ := Zy (v := (.int .i64 0)) BK204.out 5) | (go_at_call 78; (with_reducible refine (QaY.calls k1 ((rd_T84 l0 x11_1).f0) ((rd_T84 l0 x11_1).f1) ((rd_T84 l0 x11_1).f2) ((rd_T84 l0 x11_1).f3) ((rd_T84 l0 x11_1).f4) ((rd_T84 l0 x11_1).f5) t205 _ A6.out).mono ?_); rintro e w9 ⟨rfl, hb⟩; replace BK204 := Aside0.mk (Zpi #[.string ((rd_T84 l0 x11_1).f0), .int .i64 ((rd_T84 l0 x11_1).f1), .int .i64 ((rd_T84 l0 x11_1).f2), .int .i64 ((rd_T84 l0 x11_1).f3), .int .i64 ((rd_T84 l0 x11_1).f4), .int .i64 ((rd_T84 l0 x11_1).f5)] BK204.out hb); replace HB := Aside0.mk (Qao (Zc1 GE204.out) hb); (try clear hb); (try clear hb2); (try clear hk); (try clear hi))); go_upto_if 19 with (first | ((with_reducible refine QaJ (N := 4) rfl ?_); refine Zbx (N := 4) (cs := #[.string (⟨#[]⟩ : ByteArray), .int .i64 0, .int .i64 0, .int .i64 0, .int .i64 0, .int .i64 0]) (t := 84) ?_; intro gb204 hg w7 hbox hb; have BK204 := Aside0.mk (hbox); have GW204 := Aside0.mk (Zt w hg (Zb)); have GE204 := GW204; replace HB := Aside0.mk (Qao (Zb) hb); clear hb hbox hg; obtain ⟨hcz8_0, hfz8_0⟩ := Zy (v := (.string (⟨#[]⟩ : ByteArray))) BK204.out 0; obtain ⟨hcz8_1, hfz8_1⟩ := Zy (v := (.int .i64 0)) BK204.out 1; obtain ⟨hcz8_2, hfz8_2⟩ := Zy (v := (.int .i64 0)) BK204.out 2; obtain ⟨hcz8_3, hfz8_3⟩ := Zy (v := (.int .i64 0)) BK204.out 3; obtain ⟨hcz8_4, hfz8_4⟩ := Zy (v := (.int .i64 0)) BK204.out 4; obtain ⟨hcz8_5, hfz8_5⟩ := Zy (v := (.int .i64 0)) BK204.out 5) | (go_at_call 78; (with_reducible refine (QaY.calls k1 ((rd_T84 l0 x11_1).f0) ((rd_T84 l0 x11_1).f1) ((rd_T84 l0 x11_1).f2) ((rd_T84 l0 x11_1).f3) ((rd_T84 l0 x11_1).f4) ((rd_T84 l0 x11_1).f5) t205 _ A6.out).mono ?_); rintro e w9 ⟨rfl, hb⟩; replace BK204 := Aside0.mk (Zpi #[.string ((rd_T84 l0 x11_1).f0), .int .i64 ((rd_T84 l0 x11_1).f1), .int .i64 ((rd_T84 l0 x11_1).f2), .int .i64 ((rd_T84 l0 x11_1).f3), .int .i64 ((rd_T84 l0 x11_1).f4), .int .i64 ((rd_T84 l0 x11_1).f5)] BK204.out hb); replace HB := Aside0.mk (Qao (Zc1 GE204.out) hb); (try clear hb); (try clear hb2); (try clear hk); (try clear hi))))
      (try simp only [Act.put, Zj, Zk, Zm])
      by_cases c10 : t205 = 0
      ·rw [if_pos c10] at H
       have c10b0 : (t205 == 0) = T := beq_iff_eq.mpr c10
       have c10b1 : (t205 != 0) = F := bne_eq_false_iff_eq.mpr c10
       clear c10
       (try simp only [c10b0, c10b1])
       by_cases c11 : x11_1 > 0
       ·rw [if_pos c11] at H
        have c11b0 : decide (0 < x11_1) = T := decide_eq_true c11
        clear c11
        obtain ⟨ji12, hji12⟩ : ∃ j_ : Int, (wrap64 (x11_1 - 1)) = j_ := ⟨_, rfl⟩
        replace H : (if 0 ≤ (ji12) then (if (ji12) < (l0.length : Int) then (if (Op.bytesLess (((rd_T84 l0 x11_1).f0).toList) (((rd_T84 l0 (ji12)).f0).toList)) = T then (some 12) else (if (((rd_T84 l0 x11_1).f0).toList) = (((rd_T84 l0 (ji12)).f0).toList) then (some 12) else (Qa5.l0 k1 l0 l0 (l0.length : Int) (wrap64 (x11_1 + 1))))) else (none)) else (none)) = some r := by first | (rw [hji12] at H; exact H) | (simp only [hji12] at H ⊢; exact H)
        have hji12w : (IntKind.i64.wrap (x11_1 - 1)) = ji12 := (i64_w _).trans hji12
        by_cases c13 : 0 ≤ (ji12)
        ·rw [if_pos c13] at H
         have c13b0 : decide (0 ≤ (ji12)) = T := decide_eq_true c13
         clear c13
         by_cases c14 : (ji12) < (l0.length : Int)
         ·rw [if_pos c14] at H
          have c14b0 : decide ((ji12) < (l0.length : Int)) = T := decide_eq_true c14
          clear c14
          by_cases c15 : (Op.bytesLess (((rd_T84 l0 x11_1).f0).toList) (((rd_T84 l0 (ji12)).f0).toList)) = T
          ·rw [if_pos c15] at H
           have c15b0 : (Op.bytesLess (((rd_T84 l0 x11_1).f0).toList) (((rd_T84 l0 (ji12)).f0).toList)) = T := c15
           clear c15
           obtain rfl := Option.some.inj H
           obtain ⟨hcz16_0, hfz16_0⟩ := Zy (v := (.string ((rd_T84 l0 x11_1).f0))) BK204.out 0
           obtain ⟨hcz16_1, hfz16_1⟩ := Zy (v := (.int .i64 ((rd_T84 l0 x11_1).f1))) BK204.out 1
           obtain ⟨hcz16_2, hfz16_2⟩ := Zy (v := (.int .i64 ((rd_T84 l0 x11_1).f2))) BK204.out 2
           obtain ⟨hcz16_3, hfz16_3⟩ := Zy (v := (.int .i64 ((rd_T84 l0 x11_1).f3))) BK204.out 3
           obtain ⟨hcz16_4, hfz16_4⟩ := Zy (v := (.int .i64 ((rd_T84 l0 x11_1).f4))) BK204.out 4
           obtain ⟨hcz16_5, hfz16_5⟩ := Zy (v := (.int .i64 ((rd_T84 l0 x11_1).f5))) BK204.out 5
           have p206 : 0 ≤ ((ji12) : Int) := Ze
           have q206 : (ji12) < (l0.length : Int) := Ze
           obtain ⟨ad206, e206, hx206_0, hx206_1, hx206_2, hx206_3, hx206_4, hx206_5⟩ := at_T84 HR0.out (ji12) p206 q206
           obtain rfl : ad203 = ad206 := (by injection e206)
           replace hx206_0 := Zx HB.out hx206_0
           replace hx206_1 := Zx HB.out hx206_1
           replace hx206_2 := Zx HB.out hx206_2
           replace hx206_3 := Zx HB.out hx206_3
           replace hx206_4 := Zx HB.out hx206_4
           replace hx206_5 := Zx HB.out hx206_5
           replace p206 := eq_true p206
           replace q206 := eq_true q206
           go_wp2
           repeat (go_quiet (fail); try go_wp2)
           go_ret
           exact ⟨by first | rfl | (simp [Qaj, Qak] <;> rfl) | (simp only [← hji12]; first | rfl | (simp [Qaj, Qak] <;> rfl)) | (simp [*, Qaj, Qak] <;> rfl), Zc1 GE204.out⟩
          rw [if_neg c15] at H
          have c15b0 : (Op.bytesLess (((rd_T84 l0 x11_1).f0).toList) (((rd_T84 l0 (ji12)).f0).toList)) = F := by simpa using c15
          clear c15
          by_cases c17 : (((rd_T84 l0 x11_1).f0).toList) = (((rd_T84 l0 (ji12)).f0).toList)
          ·rw [if_pos c17] at H
           have c17b0 : ((((rd_T84 l0 x11_1).f0).toList) == (((rd_T84 l0 (ji12)).f0).toList)) = T := beq_iff_eq.mpr c17
           have c17b1 : ((((rd_T84 l0 x11_1).f0).toList) != (((rd_T84 l0 (ji12)).f0).toList)) = F := bne_eq_false_iff_eq.mpr c17
           clear c17
           obtain rfl := Option.some.inj H
           obtain ⟨hcz18_0, hfz18_0⟩ := Zy (v := (.string ((rd_T84 l0 x11_1).f0))) BK204.out 0
           obtain ⟨hcz18_1, hfz18_1⟩ := Zy (v := (.int .i64 ((rd_T84 l0 x11_1).f1))) BK204.out 1
           obtain ⟨hcz18_2, hfz18_2⟩ := Zy (v := (.int .i64 ((rd_T84 l0 x11_1).f2))) BK204.out 2
           obtain ⟨hcz18_3, hfz18_3⟩ := Zy (v := (.int .i64 ((rd_T84 l0 x11_1).f3))) BK204.out 3
           obtain ⟨hcz18_4, hfz18_4⟩ := Zy (v := (.int .i64 ((rd_T84 l0 x11_1).f4))) BK204.out 4
           obtain ⟨hcz18_5, hfz18_5⟩ := Zy (v := (.int .i64 ((rd_T84 l0 x11_1).f5))) BK204.out 5
           have p206 : 0 ≤ ((ji12) : Int) := Ze
           have q206 : (ji12) < (l0.length : Int) := Ze
           obtain ⟨ad206, e206, hx206_0, hx206_1, hx206_2, hx206_3, hx206_4, hx206_5⟩ := at_T84 HR0.out (ji12) p206 q206
           obtain rfl : ad203 = ad206 := (by injection e206)
           replace hx206_0 := Zx HB.out hx206_0
           replace hx206_1 := Zx HB.out hx206_1
           replace hx206_2 := Zx HB.out hx206_2
           replace hx206_3 := Zx HB.out hx206_3
           replace hx206_4 := Zx HB.out hx206_4
           replace hx206_5 := Zx HB.out hx206_5
           replace p206 := eq_true p206
           replace q206 := eq_true q206
           go_wp2
           repeat (go_quiet (fail); try go_wp2)
           go_ret
           exact ⟨by first | rfl | (simp [Qaj, Qak] <;> rfl) | (simp only [← hji12]; first | rfl | (simp [Qaj, Qak] <;> rfl)) | (simp [*, Qaj, Qak] <;> rfl), Zc1 GE204.out⟩
          rw [if_neg c17] at H
          have c17b0 : ((((rd_T84 l0 x11_1).f0).toList) == (((rd_T84 l0 (ji12)).f0).toList)) = F := beq_eq_false_iff_ne.mpr c17
          have c17b1 : ((((rd_T84 l0 x11_1).f0).toList) != (((rd_T84 l0 (ji12)).f0).toList)) = T := bne_iff_ne.mpr c17
          have H' := Aside0.mk H
          clear H
          obtain ⟨hcz19_0, hfz19_0⟩ := Zy (v := (.string ((rd_T84 l0 x11_1).f0))) BK204.out 0
          obtain ⟨hcz19_1, hfz19_1⟩ := Zy (v := (.int .i64 ((rd_T84 l0 x11_1).f1))) BK204.out 1
          obtain ⟨hcz19_2, hfz19_2⟩ := Zy (v := (.int .i64 ((rd_T84 l0 x11_1).f2))) BK204.out 2
          obtain ⟨hcz19_3, hfz19_3⟩ := Zy (v := (.int .i64 ((rd_T84 l0 x11_1).f3))) BK204.out 3
          obtain ⟨hcz19_4, hfz19_4⟩ := Zy (v := (.int .i64 ((rd_T84 l0 x11_1).f4))) BK204.out 4
          obtain ⟨hcz19_5, hfz19_5⟩ := Zy (v := (.int .i64 ((rd_T84 l0 x11_1).f5))) BK204.out 5
          have p206 : 0 ≤ ((ji12) : Int) := Ze
          have q206 : (ji12) < (l0.length : Int) := Ze
          obtain ⟨ad206, e206, hx206_0, hx206_1, hx206_2, hx206_3, hx206_4, hx206_5⟩ := at_T84 HR0.out (ji12) p206 q206
          obtain rfl : ad203 = ad206 := (by injection e206)
          replace hx206_0 := Zx HB.out hx206_0
          replace hx206_1 := Zx HB.out hx206_1
          replace hx206_2 := Zx HB.out hx206_2
          replace hx206_3 := Zx HB.out hx206_3
          replace hx206_4 := Zx HB.out hx206_4
          replace hx206_5 := Zx HB.out hx206_5
          replace p206 := eq_true p206
          replace q206 := eq_true q206
          go_wp2
          repeat (go_quiet (fail); try go_wp2)
          go_roundg k1
          case measure => have := HK1.out; omega
          case rel => exact ⟨(wrap64 (x11_1 + 1)), (Zs), H', ⟨by have := HK1.out; omega⟩, ⟨Zc1 GE204.out⟩⟩
         rw [if_neg c14] at H
         exact absurd H (by simp)
        rw [if_neg c13] at H
        exact absurd H (by simp)
       rw [if_neg c11] at H
       have c11b0 : decide (0 < x11_1) = F := decide_eq_false c11
       clear c11
       have H' := Aside0.mk H
       clear H
       go_wp2
       repeat (go_quiet (fail); try go_wp2)
       go_roundg k1
       case measure => have := HK1.out; omega
       case rel => exact ⟨(wrap64 (x11_1 + 1)), (Zs), H', ⟨by have := HK1.out; omega⟩, ⟨Zc1 GE204.out⟩⟩
      rw [if_neg c10] at H
      have c10b0 : (t205 == 0) = F := beq_eq_false_iff_ne.mpr c10
      have c10b1 : (t205 != 0) = T := bne_iff_ne.mpr c10
      (try simp only [c10b0, c10b1])
      obtain rfl := Option.some.inj H
      go_wp2
      repeat (go_quiet (fail); try go_wp2)
      go_ret
      exact ⟨Zq, Zc1 GE204.out⟩
     rw [if_neg c5] at H
     exact absurd H (by simp)
    rw [if_neg c4] at H
    exact absurd H (by simp)
   rw [if_neg c3] at H
   have c3b0 : decide (x11_1 < (l0.length : Int)) = F := decide_eq_false c3
   clear c3
   (try simp only [c3b0])
   obtain rfl := Option.some.inj H
   go_wp2
   repeat (go_quiet (fail); try go_wp2)
   go_ret
   exact ⟨Zq, Zb⟩
def QaW.l0 : Nat → List (S84) → List (S98) → List Int → List (S46) → Int → Int → Option (Int × Int)
 | 0, _, _, _, _, _, _ => none
 | k + 1, x2, x3, x10, x29, x30, x31 => if x31 < x30 then (if 0 ≤ x31 then (if x31 < (x29.length : Int) then ((Qbe.f k x2 ((rd_T46 x29 x31).f1)).bind fun bt217 => (if bt217.2.2.2.2.2.2 = T then ((Qbf.f k bt217.1 bt217.2.1 bt217.2.2.1 bt217.2.2.2.1 bt217.2.2.2.2.1 bt217.2.2.2.2.2.1 ((rd_T46 x29 x31).f2) x3).bind fun bt225 => (if bt225.2 = 0 then (if x10.length < 17592186044416 then (QaW.l0 k x2 x3 (x10 ++ [bt225.1]) x29 x30 (wrap64 (x31 + 1))) else (none)) else (some (0, bt225.2)))) else (some (0, 11)))) else (none)) else (none)) else ((Qbi.f k x10).bind fun bt213 => (some (bt213.1, bt213.2)))
def QaW.f (k : Nat) (l0 : List (S46)) (a1_0 : ByteArray) (a1_1 : ByteArray) (l2 : List (S84)) (l3 : List (S98)) : Option (Int × Int) := (QaE.f k l0).bind fun t208 => (if t208 = 0 then ((Qa5.f k l2).bind fun t209 => (if t209 = 0 then ((Qa6.f k l0 a1_0 a1_1).bind fun t210 => (QaW.l0 k l2 l3 ([] : List Int) t210 (t210.length : Int) 0)) else (some (0, t209)))) else (some (0, t208)))
theorem QaW.mono_l : ∀ k, (∀ y0 y1 y2 y3 y4 y5, LeO (QaW.l0 k y0 y1 y2 y3 y4 y5) (QaW.l0 (k + 1) y0 y1 y2 y3 y4 y5))
 | 0 => fun _ _ _ _ _ _ r h => by simp [QaW.l0] at h
 | k + 1 => by
  have ih0 := QaW.mono_l k
  intro y0 y1 y2 y3 y4 y5
  unfold QaW.l0
  exact ZM7 ih0 Qa5.mono Qbe.mono Qbf.mono Qbi.mono QaE.mono Qa6.mono
theorem QaW.mono : ∀ a0 a1 a2 a3 a4 k, LeO (QaW.f k a0 a1 a2 a3 a4) (QaW.f (k + 1) a0 a1 a2 a3 a4) := by
 intro a0 a1 a2 a3 a4 k
 have ih0 := QaW.mono_l k
 unfold QaW.f
 exact ZM7 ih0 Qa5.mono Qbe.mono Qbf.mono Qbi.mono QaE.mono Qa6.mono
theorem QaW.calls (k : Nat) (A0 : Option Addr) (c0 : Nat) (l0 : List (S46)) (a1_0 : ByteArray) (a1_1 : ByteArray) (A2 : Option Addr) (c2 : Nat) (l2 : List (S84)) (A3 : Option Addr) (c3 : Nat) (l3 : List (S98)) (r1 : Int) (r2 : Int) (w : World) (hr0 : Kd.C k46 w A0 l0.length l0) (hc0 : l0.length ≤ c0) (hr2 : Kd.C k84 w A2 l2.length l2) (hc2 : l2.length ≤ c2) (hr3 : Kd.C k98 w A3 l3.length l3) (hc3 : l3.length ≤ c3) (h : QaW.f k l0 a1_0 a1_1 l2 l3 = some (r1, r2)) :
  Calls Try.prog 85 #[.slice A0 l0.length c0, .agg #[.string a1_0, .string a1_1], .slice A2 l2.length c2, .slice A3 l3.length c3] w fun e w' => e = .returned (.tuple #[.int .i64 r1, .int .i64 r2]) ∧ Below w.heap.size w w' := by
 have hu44 := Try.underlying44
 have hu46 := Try.underlying46
 have hu84 := Try.underlying84
 have HR0 := Aside0.mk hr0
 have HC0 := Aside0.mk hc0
 clear hr0 hc0
 have HR2 := Aside0.mk hr2
 have HC2 := Aside0.mk hc2
 clear hr2 hc2
 have HR3 := Aside0.mk hr3
 have HC3 := Aside0.mk hc3
 clear hr3 hc3
 have HB := Aside0.mk (Below.refl w.heap.size w)
 have H : ((QaE.f k l0).bind fun t208 => (if t208 = 0 then ((Qa5.f k l2).bind fun t209 => (if t209 = 0 then ((Qa6.f k l0 a1_0 a1_1).bind fun t210 => (QaW.l0 k l2 l3 ([] : List Int) t210 (t210.length : Int) 0)) else (some (0, t209)))) else (some (0, t208)))) = some (r1, r2) := h
 clear h
 replace H := Option.bind_eq_some_iff.mp H
 obtain ⟨t208, A50, H⟩ := H
 replace H : (if t208 = 0 then ((Qa5.f k l2).bind fun t209 => (if t209 = 0 then ((Qa6.f k l0 a1_0 a1_1).bind fun t210 => (QaW.l0 k l2 l3 ([] : List Int) t210 (t210.length : Int) 0)) else (some (0, t209)))) else (some (0, t208))) = some (r1, r2) := H
 have A5 := Aside0.mk A50
 clear A50
 go_enter Try.func85, Try.ntmps85
 go_upto_if 20 with (first | ((with_reducible refine QaJ (N := 5) rfl ?_); refine Zbx (N := 5) (cs := #[.string a1_0, .string a1_1]) (t := 44) ?_; intro gb207 hg w6 hbox hb; have BK207 := Aside0.mk (hbox); have GW207 := Aside0.mk (Zt w hg (Zb)); have GE207 := GW207; replace HB := Aside0.mk (Qao (Zb) hb); clear hb hbox hg) | ((with_reducible refine Qax (f := 71) rfl ?_); refine goesL_ (some 18) rfl rfl Try.func71 (by kernel_rfl) rfl #[.slice A0 l0.length c0] rfl (Zl) ?_; (with_reducible refine (QaE.calls k _ _ l0 t208 _ ?side1 ?side2 A5.out).mono ?_); (case side1 => exact Zv (Kd.C_below HR0.out HB.out)); (case side2 => exact HC0.out); rintro e w7 ⟨rfl, hb⟩; refine ⟨_, rfl, ?_⟩; replace BK207 := Aside0.mk (Zi BK207.out hb); replace HB := Aside0.mk (Qao (Zc1 GE207.out) hb); (try clear hb); (try clear hb2); (try clear hk); (try clear hi)))
 (try simp only [Act.put, Zj, Zk, Zm])
 by_cases c8 : t208 = 0
 ·rw [if_pos c8] at H
  have c8b0 : (t208 == 0) = T := beq_iff_eq.mpr c8
  have c8b1 : (t208 != 0) = F := bne_eq_false_iff_eq.mpr c8
  clear c8
  (try simp only [c8b0, c8b1])
  replace H := Option.bind_eq_some_iff.mp H
  obtain ⟨t209, A90, H⟩ := H
  replace H : (if t209 = 0 then ((Qa6.f k l0 a1_0 a1_1).bind fun t210 => (QaW.l0 k l2 l3 ([] : List Int) t210 (t210.length : Int) 0)) else (some (0, t209))) = some (r1, r2) := H
  have A9 := Aside0.mk A90
  clear A90
  go_upto_if 25 with (first | ((with_reducible refine Qax (f := 116) rfl ?_); refine goesL_ (some 23) rfl rfl Try.func116 (by kernel_rfl) rfl #[.slice A2 l2.length c2] rfl (Zl) ?_; (with_reducible refine (Qa5.calls k _ _ l2 t209 _ ?side1 ?side2 A9.out).mono ?_); (case side1 => exact Zv (Kd.C_below HR2.out HB.out)); (case side2 => exact HC2.out); rintro e w10 ⟨rfl, hb⟩; refine ⟨_, rfl, ?_⟩; replace BK207 := Aside0.mk (Zi BK207.out hb); replace HB := Aside0.mk (Qao (Zc1 GE207.out) hb); (try clear hb); (try clear hb2); (try clear hk); (try clear hi)))
  (try simp only [Act.put, Zj, Zk, Zm])
  by_cases c11 : t209 = 0
  ·rw [if_pos c11] at H
   have c11b0 : (t209 == 0) = T := beq_iff_eq.mpr c11
   have c11b1 : (t209 != 0) = F := bne_eq_false_iff_eq.mpr c11
   clear c11
   (try simp only [c11b0, c11b1])
   replace H := Option.bind_eq_some_iff.mp H
   obtain ⟨t210, A120, H⟩ := H
   replace H : (QaW.l0 k l2 l3 ([] : List Int) t210 (t210.length : Int) 0) = some (r1, r2) := H
   have A12 := Aside0.mk A120
   clear A120
   have H' := Aside0.mk H
   clear H
   obtain ⟨hcz13_0, hfz13_0⟩ := Zy (v := (.string a1_0)) BK207.out 0
   obtain ⟨hcz13_1, hfz13_1⟩ := Zy (v := (.string a1_1)) BK207.out 1
   go_wp2_with (first | ((with_reducible refine Qax (f := 86) rfl ?_); refine goesL_ (some 29) rfl rfl Try.func86 (by kernel_rfl) rfl #[.slice A0 l0.length c0, .agg #[.string a1_0, .string a1_1]] rfl (Zl) ?_; (with_reducible refine (Qa6.calls k _ _ l0 a1_0 a1_1 t210 _ ?side1 ?side2 A12.out).mono ?_); (case side1 => exact Zv (Kd.C_below HR0.out HB.out)); (case side2 => exact HC0.out); rintro e w14 ⟨v211, rfl, ho0, hb⟩; refine ⟨_, rfl, ?_⟩; have HO212 := Aside0.mk (Kd.R_lower ho0 (Qam (Zc1 GE207.out))); replace BK207 := Aside0.mk (Zi BK207.out hb); replace HB := Aside0.mk (Qao (Zc1 GE207.out) hb); (try clear hb); (try clear hb2); (try clear hk); (try clear hi); (try clear ho0); obtain ⟨Ao15, co15, eo15⟩ := Kd.R_slice HO212.out; subst eo15))
   go_loopg [10, 31] k (fun kq v10 v31 w' => ∃ (x10_1 : List Int) (x31_1 : Int), v31 = .int .i64 x31_1 ∧ Aside0 (QaW.l0 kq l2 l3 x10_1 t210 (t210.length : Int) x31_1 = some (r1, r2)) ∧ Aside0 (kq ≤ k) ∧ Aside0 (Kd.R (Kd.int .i64) 3 w' w.heap.size (fun _ => True) v10 x10_1) ∧ Aside0 (Kd.R k46 46 w' w.heap.size (fun _ => True) (.slice Ao15 t210.length co15) t210) ∧ Aside0 (w'.heap[gb207]? = some (.cells #[.string a1_0, .string a1_1] 44 (0, 0))) ∧ Aside0 (Below w.heap.size w w'))
   case atStart => exact ⟨(([] : List Int)), (0), (Zs), H', ⟨Nat.le_refl _⟩, ⟨by first | exact Kd.R_nil _ _ _ _ _ | exact Kd.N_nil _ _ _ _ _ | exact Kd.V_nil _ _ _ _ _ | exact Kd.Q_nil _ _ _ _ _ | exact Kd.S_nil _ _ _ _ _⟩, ⟨Zr HO212.out⟩, ⟨Zu BK207.out⟩, ⟨Zc1 GE207.out⟩⟩
   case round =>
    clear H'
    try clear c1
    try clear c2
    try clear p2
    try clear c3
    try clear c7
    try clear c8
    try clear c8b0
    try clear c8b1
    try clear c11
    try clear c11b0
    try clear c11b1
    try clear hcz13_0
    try clear hcz13_1
    try clear hfz13_0
    try clear hfz13_1
    obtain ⟨x10_1, x31_1, rfl, HA, HK1, HO_10, HO_29, BK207, HB⟩ := hrel
    cases gk with
    | zero => exact absurd HA.out (by simp [QaW.l0])
    | succ k1 =>
     have H := HA.out
     clear HA
     simp only [QaW.l0] at H
     by_cases c16 : x31_1 < (t210.length : Int)
     ·rw [if_pos c16] at H
      have c16b0 : decide (x31_1 < (t210.length : Int)) = T := decide_eq_true c16
      clear c16
      (try simp only [c16b0])
      by_cases c17 : 0 ≤ x31_1
      ·rw [if_pos c17] at H
       have c17b0 : decide (0 ≤ x31_1) = T := decide_eq_true c17
       clear c17
       by_cases c18 : x31_1 < (t210.length : Int)
       ·rw [if_pos c18] at H
        have c18b0 : decide (x31_1 < (t210.length : Int)) = T := decide_eq_true c18
        clear c18
        replace H := Option.bind_eq_some_iff.mp H
        obtain ⟨⟨t217, t218, t219, t220, t221, t222, t223⟩, A190, H⟩ := H
        replace H : (if t223 = T then ((Qbf.f k1 t217 t218 t219 t220 t221 t222 ((rd_T46 t210 x31_1).f2) l3).bind fun bt225 => (if bt225.2 = 0 then (if x10_1.length < 17592186044416 then (QaW.l0 k1 l2 l3 (x10_1 ++ [bt225.1]) t210 (t210.length : Int) (wrap64 (x31_1 + 1))) else (none)) else (some (0, bt225.2)))) else (some (0, 11))) = some (r1, r2) := H
        have A19 := Aside0.mk A190
        clear A190
        have p215 : 0 ≤ (x31_1 : Int) := Ze
        have q215 : x31_1 < (t210.length : Int) := Ze
        obtain ⟨ad215, e215, hx215_0, hx215_1, hx215_2, hx215_3⟩ := at_T46 (Kd.R_reads' HO_29.out).2.2 x31_1 p215 q215
        cases e215
        replace p215 := eq_true p215
        replace q215 := eq_true q215
        go_upto_if 43 with (first | ((with_reducible refine QaJ (N := 12) rfl ?_); refine Zbx (N := 12) (cs := #[.string (⟨#[]⟩ : ByteArray), .string (⟨#[]⟩ : ByteArray), .string (⟨#[]⟩ : ByteArray), .int .i64 0]) (t := 46) ?_; intro gb216 hg w20 hbox hb; have BK216 := Aside0.mk (hbox); have GW216 := Aside0.mk (Zt w hg (Zc1 GE207.out)); have GE216 := GW216; have NB207_216 := Aside0.mk (Zn hg BK207.out); have NB216_207 := Aside0.mk NB207_216.out.symm; replace HO_10 := Aside0.mk (Kd.R_below (Zr HO_10.out) hb); replace HO_29 := Aside0.mk (Kd.R_below (Kd.R_elderB (Zr HO_29.out) gb216 (Nat.le_of_eq hg.symm)) hb); replace BK207 := Aside0.mk (Zi BK207.out hb); replace HB := Aside0.mk (Qao (Zc1 GE207.out) hb); clear hb hbox hg; have hnb21 := NB216_207.out; have hnc21 := NB207_216.out; obtain ⟨hcz22_0, hfz22_0⟩ := Zy (v := (.string (⟨#[]⟩ : ByteArray))) BK216.out 0; obtain ⟨hcz22_1, hfz22_1⟩ := Zy (v := (.string (⟨#[]⟩ : ByteArray))) BK216.out 1; obtain ⟨hcz22_2, hfz22_2⟩ := Zy (v := (.string (⟨#[]⟩ : ByteArray))) BK216.out 2; obtain ⟨hcz22_3, hfz22_3⟩ := Zy (v := (.int .i64 0)) BK216.out 3) | ((with_reducible refine Qax (f := 48) rfl ?_); refine goesL_ (some 39) rfl rfl Try.func48 (by kernel_rfl) rfl #[.slice A2 l2.length c2, .string ((rd_T46 t210 x31_1).f1)] rfl (Zl) ?_; (with_reducible refine (Qbe.calls k1 _ _ l2 ((rd_T46 t210 x31_1).f1) t217 t218 t219 t220 t221 t222 t223 _ ?side1 ?side2 A19.out).mono ?_); (case side1 => exact Kd.C_below HR2.out (Zc2 GE207.out GE216.out)); (case side2 => exact HC2.out); rintro e w23 ⟨rfl, hb⟩; refine ⟨_, rfl, ?_⟩; replace HO_10 := Aside0.mk (Kd.R_below (by (with_reducible repeat (first | apply Kd.R_alloc | apply Kd.R_drewN | apply Kd.R_drew)); exact (Kd.R_mono (Zf gb216 3 (Zf gb216 2 (Zf gb216 1 (Zf gb216 0 (Kd.R_types HO_10.out BK216.out (by decide)) (.string ((rd_T46 t210 x31_1).f0.f0))) (.string ((rd_T46 t210 x31_1).f0.f1))) (.string ((rd_T46 t210 x31_1).f1))) (.int .i64 ((rd_T46 t210 x31_1).f2))) (fun _ h_ => h_.1))) hb); replace HO_29 := Aside0.mk (Kd.R_below (by (with_reducible repeat (first | apply Kd.R_alloc | apply Kd.R_drewN | apply Kd.R_drew)); exact (Kd.R_mono (Zf gb216 3 (Zf gb216 2 (Zf gb216 1 (Zf gb216 0 (Kd.R_mono HO_29.out (fun k_ hk => (⟨hk, hk.2⟩ : _ ∧ k_ ≠ gb216))) (.string ((rd_T46 t210 x31_1).f0.f0))) (.string ((rd_T46 t210 x31_1).f0.f1))) (.string ((rd_T46 t210 x31_1).f1))) (.int .i64 ((rd_T46 t210 x31_1).f2))) (fun _ h_ => h_.1))) hb); replace BK207 := Aside0.mk (Qal (g := gb207) (o := .cells #[.string a1_0, .string a1_1] 44 (0, 0)) (Zg4 BK207.out NB207_216.out NB207_216.out NB207_216.out NB207_216.out) hb); replace BK216 := Aside0.mk (Zpi #[.string ((rd_T46 t210 x31_1).f0.f0), .string ((rd_T46 t210 x31_1).f0.f1), .string ((rd_T46 t210 x31_1).f1), .int .i64 ((rd_T46 t210 x31_1).f2)] BK216.out hb); replace HB := Aside0.mk (Qao (Zc2 GE207.out GE216.out) hb); (try clear hb); (try clear hb2); (try clear hk); (try clear hi)) | ((with_reducible refine QaJ (N := 13) rfl ?_); refine Zbx (N := 13) (cs := #[.string (⟨#[]⟩ : ByteArray), .int .i64 0, .int .i64 0, .int .i64 0, .int .i64 0, .int .i64 0]) (t := 84) ?_; intro gb224 hg w24 hbox hb; have BK224 := Aside0.mk (hbox); have GW224 := Aside0.mk (Zt w hg (Zc2 GE207.out GE216.out)); have GE224 := GW224; have NB207_224 := Aside0.mk (Zn hg BK207.out); have NB224_207 := Aside0.mk NB207_224.out.symm; have NB216_224 := Aside0.mk (Zn hg BK216.out); have NB224_216 := Aside0.mk NB216_224.out.symm; replace HO_10 := Aside0.mk (Kd.R_below (Zr HO_10.out) hb); replace HO_29 := Aside0.mk (Kd.R_below (Zr HO_29.out) hb); replace BK207 := Aside0.mk (Zi BK207.out hb); replace BK216 := Aside0.mk (Zi BK216.out hb); replace HB := Aside0.mk (Qao (Zc2 GE207.out GE216.out) hb); clear hb hbox hg; have hnb25 := NB224_207.out; have hnc25 := NB207_224.out; have hnb26 := NB224_216.out; have hnc26 := NB216_224.out; obtain ⟨hcz27_0, hfz27_0⟩ := Zy (v := (.string (⟨#[]⟩ : ByteArray))) BK224.out 0; obtain ⟨hcz27_1, hfz27_1⟩ := Zy (v := (.int .i64 0)) BK224.out 1; obtain ⟨hcz27_2, hfz27_2⟩ := Zy (v := (.int .i64 0)) BK224.out 2; obtain ⟨hcz27_3, hfz27_3⟩ := Zy (v := (.int .i64 0)) BK224.out 3; obtain ⟨hcz27_4, hfz27_4⟩ := Zy (v := (.int .i64 0)) BK224.out 4; obtain ⟨hcz27_5, hfz27_5⟩ := Zy (v := (.int .i64 0)) BK224.out 5))
        (try simp only [Act.put, Zj, Zk, Zm])
        by_cases c28 : t223 = T
        ·subst c28
         have H1 : ((Qbf.f k1 t217 t218 t219 t220 t221 t222 ((rd_T46 t210 x31_1).f2) l3).bind fun bt225 => (if bt225.2 = 0 then (if x10_1.length < 17592186044416 then (QaW.l0 k1 l2 l3 (x10_1 ++ [bt225.1]) t210 (t210.length : Int) (wrap64 (x31_1 + 1))) else (none)) else (some (0, bt225.2)))) = some (r1, r2) := by rw [if_pos rfl] at H; exact H
         clear H
         have H := H1
         clear H1
         replace H := Option.bind_eq_some_iff.mp H
         obtain ⟨⟨t225, t226⟩, A290, H⟩ := H
         replace H : (if t226 = 0 then (if x10_1.length < 17592186044416 then (QaW.l0 k1 l2 l3 (x10_1 ++ [t225]) t210 (t210.length : Int) (wrap64 (x31_1 + 1))) else (none)) else (some (0, t226))) = some (r1, r2) := H
         have A29 := Aside0.mk A290
         clear A290
         have hnb30 := NB224_207.out
         have hnc30 := NB207_224.out
         have hnb31 := NB224_216.out
         have hnc31 := NB216_224.out
         obtain ⟨hcz32_0, hfz32_0⟩ := Zy (v := (.string (⟨#[]⟩ : ByteArray))) BK224.out 0
         obtain ⟨hcz32_1, hfz32_1⟩ := Zy (v := (.int .i64 0)) BK224.out 1
         obtain ⟨hcz32_2, hfz32_2⟩ := Zy (v := (.int .i64 0)) BK224.out 2
         obtain ⟨hcz32_3, hfz32_3⟩ := Zy (v := (.int .i64 0)) BK224.out 3
         obtain ⟨hcz32_4, hfz32_4⟩ := Zy (v := (.int .i64 0)) BK224.out 4
         obtain ⟨hcz32_5, hfz32_5⟩ := Zy (v := (.int .i64 0)) BK224.out 5
         have hnb33 := NB216_207.out
         have hnc33 := NB207_216.out
         obtain ⟨hcz34_0, hfz34_0⟩ := Zy (v := (.string ((rd_T46 t210 x31_1).f0.f0))) BK216.out 0
         obtain ⟨hcz34_1, hfz34_1⟩ := Zy (v := (.string ((rd_T46 t210 x31_1).f0.f1))) BK216.out 1
         obtain ⟨hcz34_2, hfz34_2⟩ := Zy (v := (.string ((rd_T46 t210 x31_1).f1))) BK216.out 2
         obtain ⟨hcz34_3, hfz34_3⟩ := Zy (v := (.int .i64 ((rd_T46 t210 x31_1).f2))) BK216.out 3
         go_upto_if 53 with (first | ((with_reducible refine Qax (f := 82) rfl ?_); refine goesL_ (some 49) rfl rfl Try.func82 (by kernel_rfl) rfl #[.agg #[.string t217, .int .i64 t218, .int .i64 t219, .int .i64 t220, .int .i64 t221, .int .i64 t222], .int .i64 ((rd_T46 t210 x31_1).f2), .slice A3 l3.length c3] rfl (Zl) ?_; (with_reducible refine (Qbf.calls k1 t217 t218 t219 t220 t221 t222 ((rd_T46 t210 x31_1).f2) _ _ l3 t225 t226 _ ?side1 ?side2 A29.out).mono ?_); (case side1 => exact Kd.C_below HR3.out (Zc3 GE207.out GE216.out GE224.out)); (case side2 => exact HC3.out); rintro e w35 ⟨rfl, hb⟩; refine ⟨_, rfl, ?_⟩; replace HO_10 := Aside0.mk (Kd.R_below (by (with_reducible repeat (first | apply Kd.R_alloc | apply Kd.R_drewN | apply Kd.R_drew)); exact (Kd.R_mono (Zf gb224 5 (Zf gb224 4 (Zf gb224 3 (Zf gb224 2 (Zf gb224 1 (Zf gb224 0 (Kd.R_types HO_10.out BK224.out (by decide)) (.string t217)) (.int .i64 t218)) (.int .i64 t219)) (.int .i64 t220)) (.int .i64 t221)) (.int .i64 t222)) (fun _ h_ => h_.1))) hb); replace HO_29 := Aside0.mk (Kd.R_below (by (with_reducible repeat (first | apply Kd.R_alloc | apply Kd.R_drewN | apply Kd.R_drew)); exact (Kd.R_mono (Zf gb224 5 (Zf gb224 4 (Zf gb224 3 (Zf gb224 2 (Zf gb224 1 (Zf gb224 0 (Kd.R_types HO_29.out BK224.out (by decide)) (.string t217)) (.int .i64 t218)) (.int .i64 t219)) (.int .i64 t220)) (.int .i64 t221)) (.int .i64 t222)) (fun _ h_ => h_.1))) hb); replace BK207 := Aside0.mk (Qal (g := gb207) (o := .cells #[.string a1_0, .string a1_1] 44 (0, 0)) (Zg6 BK207.out NB207_224.out NB207_224.out NB207_224.out NB207_224.out NB207_224.out NB207_224.out) hb); replace BK216 := Aside0.mk (Qal (g := gb216) (o := .cells #[.string ((rd_T46 t210 x31_1).f0.f0), .string ((rd_T46 t210 x31_1).f0.f1), .string ((rd_T46 t210 x31_1).f1), .int .i64 ((rd_T46 t210 x31_1).f2)] 46 (0, 0)) (Zg6 BK216.out NB216_224.out NB216_224.out NB216_224.out NB216_224.out NB216_224.out NB216_224.out) hb); replace BK224 := Aside0.mk (Zpi #[.string t217, .int .i64 t218, .int .i64 t219, .int .i64 t220, .int .i64 t221, .int .i64 t222] BK224.out hb); replace HB := Aside0.mk (Qao (Zc3 GE207.out GE216.out GE224.out) hb); (try clear hb); (try clear hb2); (try clear hk); (try clear hi)))
         (try simp only [Act.put, Zj, Zk, Zm])
         by_cases c36 : t226 = 0
         ·rw [if_pos c36] at H
          have c36b0 : (t226 == 0) = T := beq_iff_eq.mpr c36
          have c36b1 : (t226 != 0) = F := bne_eq_false_iff_eq.mpr c36
          clear c36
          (try simp only [c36b0, c36b1])
          by_cases c37 : x10_1.length < 17592186044416
          ·rw [if_pos c37] at H
           have LMc37 := Aside0.mk c37
           clear c37
           obtain ⟨y227, hy227⟩ : ∃ y_ : List Int, y_ = (x10_1 ++ [t225]) := ⟨_, rfl⟩
           replace H : (QaW.l0 k1 l2 l3 y227 t210 (t210.length : Int) (wrap64 (x31_1 + 1))) = some (r1, r2) := by first | (rw [hy227]; with_reducible exact H) | (have H2_ := (Option.bind_some _ _).symm.trans H; rw [hy227]; with_reducible exact H2_) | (have H2_ := (Option.bind_some _ _).symm.trans H; with_reducible exact H2_) | with_reducible exact H | (rw [hy227]; exact H) | exact H
           have Ny227 := Aside0.mk hy227
           clear hy227
           have H' := Aside0.mk H
           clear H
           go_wp2_with (first | ((with_reducible refine QbT (b := .append) (xs := #[.tmp 55, .tmp 57]) rfl ?_); at_builtin; refine Kd.R_append (Kd.int .i64) (w0 := w) w.heap.size rfl (.tmp 55) (.tmp 57) 63 3 (.int .i64 0) 8 rfl Try.underlying63 info3 rfl (by decide) (by omega) u10 x10_1 t225 [.int .i64 t225] (fun _ => True) (fun _ => False) rfl rfl ?aP (fun _ hk => hk.elim) ?aF ?aO ?aB ?aS ?aL ?_; (case aP => exact rfl); (case aB => exact (Zc3 GE207.out GE216.out GE224.out)); (case aF => exact (fun _ _ => trivial)); (case aO => exact (Zr HO_10.out)); (case aS => exact (Qam (Zc3 GE207.out GE216.out GE224.out))); (case aL => have := LMc37.out; omega); intro v228 w38 ho hb hg hat; rw [← Ny227.out] at ho; have HO229 := Aside0.mk (ho); replace HO_29 := Aside0.mk (Kd.R_over' (Zr HO_29.out) (Kd.R_typed (Zr HO_10.out)) (by decide) hg); replace BK207 := Aside0.mk (Qbk (g := gb207) (o := .cells #[.string a1_0, .string a1_1] 44 (0, 0)) (Zu BK207.out) hg (Kd.R_ne HO_10.out BK207.out (by decide))); replace BK216 := Aside0.mk (Qbk (g := gb216) (o := .cells #[.string ((rd_T46 t210 x31_1).f0.f0), .string ((rd_T46 t210 x31_1).f0.f1), .string ((rd_T46 t210 x31_1).f1), .int .i64 ((rd_T46 t210 x31_1).f2)] 46 (0, 0)) (Zu BK216.out) hg (Kd.R_ne HO_10.out BK216.out (by decide))); replace BK224 := Aside0.mk (Qbk (g := gb224) (o := .cells #[.string t217, .int .i64 t218, .int .i64 t219, .int .i64 t220, .int .i64 t221, .int .i64 t222] 84 (0, 0)) (Zu BK224.out) hg (Kd.R_ne HO_10.out BK224.out (by decide))); replace HB := Aside0.mk (hb); clear HO_10; clear ho hb hg hat))
           go_roundg k1
           case measure => have := HK1.out; omega
           case rel => exact ⟨(y227), (wrap64 (x31_1 + 1)), (Zs), H', ⟨by have := HK1.out; omega⟩, ⟨Zr HO229.out⟩, ⟨by (with_reducible repeat (first | apply Kd.R_alloc | apply Kd.R_drewN | apply Kd.R_drew)); exact Kd.R_mono HO_29.out (fun _ hk => trivial)⟩, ⟨Zu BK207.out⟩, ⟨Zc3 GE207.out GE216.out GE224.out⟩⟩
          rw [if_neg c37] at H
          exact absurd H (by simp)
         rw [if_neg c36] at H
         have c36b0 : (t226 == 0) = F := beq_eq_false_iff_ne.mpr c36
         have c36b1 : (t226 != 0) = T := bne_iff_ne.mpr c36
         (try simp only [c36b0, c36b1])
         simp only [Option.some.injEq, Prod.mk.injEq] at H
         obtain ⟨rfl, rfl⟩ := H
         go_wp2
         go_ret2
         exact ⟨Zq, Zc3 GE207.out GE216.out GE224.out⟩
        replace c28 := Bool.eq_false_iff.mpr c28
        subst c28
        have H1 : (some (0, 11)) = some (r1, r2) := by rw [if_neg (show ¬ (F = T) by decide)] at H; exact H
        clear H
        have H := H1
        clear H1
        simp only [Option.some.injEq, Prod.mk.injEq] at H
        obtain ⟨rfl, rfl⟩ := H
        go_wp2
        go_ret2
        exact ⟨Zq, Zc3 GE207.out GE216.out GE224.out⟩
       rw [if_neg c18] at H
       exact absurd H (by simp)
      rw [if_neg c17] at H
      exact absurd H (by simp)
     rw [if_neg c16] at H
     have c16b0 : decide (x31_1 < (t210.length : Int)) = F := decide_eq_false c16
     clear c16
     (try simp only [c16b0])
     replace H := Option.bind_eq_some_iff.mp H
     obtain ⟨⟨t213, t214⟩, A390, H⟩ := H
     replace H : (some (t213, t214)) = some (r1, r2) := H
     have A39 := Aside0.mk A390
     clear A390
     simp only [Option.some.injEq, Prod.mk.injEq] at H
     obtain ⟨rfl, rfl⟩ := H
     obtain ⟨Ao40, co40, eo40⟩ := Kd.R_slice HO_10.out
     subst eo40
     go_wp2_with (first | ((with_reducible refine Qax (f := 59) rfl ?_); refine goesL_ (some 61) rfl rfl Try.func59 (by kernel_rfl) rfl #[.slice Ao40 x10_1.length co40] rfl (Zl) ?_; (with_reducible refine (Qbi.calls k1 _ _ x10_1 t213 t214 _ ?side1 ?side2 A39.out).mono ?_); (case side1 => exact Zv (Kd.R_reads' HO_10.out).2.2); (case side2 => exact (Kd.R_reads' HO_10.out).2.1); rintro e w' ⟨rfl, ⟨nd, rfl⟩⟩; refine ⟨_, rfl, ?_⟩))
     go_ret2
     exact ⟨Zq, Zc1 GE207.out⟩
  rw [if_neg c11] at H
  have c11b0 : (t209 == 0) = F := beq_eq_false_iff_ne.mpr c11
  have c11b1 : (t209 != 0) = T := bne_iff_ne.mpr c11
  (try simp only [c11b0, c11b1])
  simp only [Option.some.injEq, Prod.mk.injEq] at H
  obtain ⟨rfl, rfl⟩ := H
  go_wp2
  go_ret2
  exact ⟨Zq, Zc1 GE207.out⟩
 rw [if_neg c8] at H
 have c8b0 : (t208 == 0) = F := beq_eq_false_iff_ne.mpr c8
 have c8b1 : (t208 != 0) = T := bne_iff_ne.mpr c8
 (try simp only [c8b0, c8b1])
 simp only [Option.some.injEq, Prod.mk.injEq] at H
 obtain ⟨rfl, rfl⟩ := H
 go_wp2
 go_ret2
 exact ⟨Zq, Zc1 GE207.out⟩
def QaH.l0 : Nat → List Int → List Int → Int → Option (Bool)
 | 0, _, _, _ => none
 | k + 1, x0, x1, x5 => if x5 < (x0.length : Int) then (if 0 ≤ x5 then (if x5 < (x1.length : Int) then (if (rd x0 x5) = (rd x1 x5) then (QaH.l0 k x0 x1 (wrap64 (x5 + 1))) else (some F)) else (none)) else (none)) else (some T)
def QaH.f (k : Nat) (l0 : List Int) (l1 : List Int) : Option (Bool) := if (l0.length : Int) = (l1.length : Int) then (QaH.l0 k l0 l1 0) else (some F)
theorem QaH.mono_l : ∀ k, (∀ y0 y1 y2, LeO (QaH.l0 k y0 y1 y2) (QaH.l0 (k + 1) y0 y1 y2))
 | 0 => fun _ _ _ r h => by simp [QaH.l0] at h
 | k + 1 => by
  have ih0 := QaH.mono_l k
  intro y0 y1 y2
  unfold QaH.l0
  exact ZM1 ih0
theorem QaH.mono : ∀ a0 a1 k, LeO (QaH.f k a0 a1) (QaH.f (k + 1) a0 a1) := by
 intro a0 a1 k
 have ih0 := QaH.mono_l k
 unfold QaH.f
 exact ZM1 ih0
theorem QaH.calls (k : Nat) (A0 : Option Addr) (c0 : Nat) (l0 : List Int) (A1 : Option Addr) (c1 : Nat) (l1 : List Int) (r : Bool) (w : World) (hr0 : Kd.C (Kd.int .i64) w A0 l0.length l0) (hc0 : l0.length ≤ c0) (hr1 : Kd.C (Kd.int .i64) w A1 l1.length l1) (hc1 : l1.length ≤ c1) (h : QaH.f k l0 l1 = some r) :
  Calls Try.prog 32 #[.slice A0 l0.length c0, .slice A1 l1.length c1] w fun e w' => e = .returned (.bool r) ∧ Drawn0 w w' := by
 have HR0 := Aside0.mk hr0
 have HC0 := Aside0.mk hc0
 clear hr0 hc0
 have HR1 := Aside0.mk hr1
 have HC1 := Aside0.mk hc1
 clear hr1 hc1
 have H : (if (l0.length : Int) = (l1.length : Int) then (QaH.l0 k l0 l1 0) else (some F)) = some r := h
 clear h
 by_cases c3 : (l0.length : Int) = (l1.length : Int)
 ·rw [if_pos c3] at H
  have c3b0 : ((l0.length : Int) == (l1.length : Int)) = T := beq_iff_eq.mpr c3
  have c3b1 : ((l0.length : Int) != (l1.length : Int)) = F := bne_eq_false_iff_eq.mpr c3
  have c3b2 : (l0.length == l1.length) = T := by first | simpa using c3 | (simp at c3 ⊢; omega)
  clear c3
  have H' := Aside0.mk H
  clear H
  go_enter Try.func32, Try.ntmps32
  go_wp2
  repeat (go_quiet (fail); try go_wp2)
  go_loopg [5] k (fun kq v5 w' => ∃ (x5_1 : Int), v5 = .int .i64 x5_1 ∧ Aside0 (QaH.l0 kq l0 l1 x5_1 = some r) ∧ Aside0 (kq ≤ k) ∧ Drawn0 w w')
  case atStart => exact ⟨(0), (Zs), H', ⟨Nat.le_refl _⟩, Zd⟩
  case round =>
   clear H'
   try clear c1
   try clear p2
   try clear c3
   try clear c3b0
   try clear c3b1
   try clear c3b2
   obtain ⟨x5_1, rfl, HA, HK1, ⟨m1, rfl⟩⟩ := hrel
   cases gk with
   | zero => exact absurd HA.out (by simp [QaH.l0])
   | succ k1 =>
    have H := HA.out
    clear HA
    simp only [QaH.l0] at H
    by_cases c4 : x5_1 < (l0.length : Int)
    ·rw [if_pos c4] at H
     have c4b0 : decide (x5_1 < (l0.length : Int)) = T := decide_eq_true c4
     clear c4
     (try simp only [c4b0])
     by_cases c5 : 0 ≤ x5_1
     ·rw [if_pos c5] at H
      have c5b0 : decide (0 ≤ x5_1) = T := decide_eq_true c5
      clear c5
      by_cases c6 : x5_1 < (l1.length : Int)
      ·rw [if_pos c6] at H
       have c6b0 : decide (x5_1 < (l1.length : Int)) = T := decide_eq_true c6
       clear c6
       have p606 : 0 ≤ (x5_1 : Int) := Ze
       have q606 : x5_1 < (l0.length : Int) := Ze
       obtain ⟨ad606, e606, hx606_0⟩ := Kd.at_int HR0.out x5_1 p606 q606
       cases e606
       replace p606 := eq_true p606
       replace q606 := eq_true q606
       have p607 : 0 ≤ (x5_1 : Int) := Ze
       have q607 : x5_1 < (l1.length : Int) := Ze
       obtain ⟨ad607, e607, hx607_0⟩ := Kd.at_int HR1.out x5_1 p607 q607
       cases e607
       replace p607 := eq_true p607
       replace q607 := eq_true q607
       go_upto_if 25 with (fail)
       repeat (go_quiet (fail); go_upto_if 25 with (fail))
       by_cases c7 : (rd l0 x5_1) = (rd l1 x5_1)
       ·rw [if_pos c7] at H
        have c7b0 : ((rd l0 x5_1) == (rd l1 x5_1)) = T := beq_iff_eq.mpr c7
        have c7b1 : ((rd l0 x5_1) != (rd l1 x5_1)) = F := bne_eq_false_iff_eq.mpr c7
        clear c7
        (try simp only [c7b0, c7b1])
        have H' := Aside0.mk H
        clear H
        go_wp2
        repeat (go_quiet (fail); try go_wp2)
        go_roundg k1
        case measure => have := HK1.out; omega
        case rel => exact ⟨(wrap64 (x5_1 + 1)), (Zs), H', ⟨by have := HK1.out; omega⟩, Zd⟩
       rw [if_neg c7] at H
       have c7b0 : ((rd l0 x5_1) == (rd l1 x5_1)) = F := beq_eq_false_iff_ne.mpr c7
       have c7b1 : ((rd l0 x5_1) != (rd l1 x5_1)) = T := bne_iff_ne.mpr c7
       (try simp only [c7b0, c7b1])
       obtain rfl := Option.some.inj H
       go_wp2
       repeat (go_quiet (fail); try go_wp2)
       go_ret
       exact ⟨Zs, Zd⟩
      rw [if_neg c6] at H
      exact absurd H (by simp)
     rw [if_neg c5] at H
     exact absurd H (by simp)
    rw [if_neg c4] at H
    have c4b0 : decide (x5_1 < (l0.length : Int)) = F := decide_eq_false c4
    clear c4
    (try simp only [c4b0])
    obtain rfl := Option.some.inj H
    go_wp2
    repeat (go_quiet (fail); try go_wp2)
    go_ret
    exact ⟨Zs, Zd⟩
 rw [if_neg c3] at H
 have c3b0 : ((l0.length : Int) == (l1.length : Int)) = F := beq_eq_false_iff_ne.mpr c3
 have c3b1 : ((l0.length : Int) != (l1.length : Int)) = T := bne_iff_ne.mpr c3
 have c3b2 : (l0.length == l1.length) = F := by first | simpa using c3 | (simp at c3 ⊢; omega)
 obtain rfl := Option.some.inj H
 go_enter Try.func32, Try.ntmps32
 go_wp2
 repeat (go_quiet (fail); try go_wp2)
 go_ret
 exact ⟨Zs, Zd⟩
end Go.Proofs.Ytfcaaefdmabkhaa.Pr
