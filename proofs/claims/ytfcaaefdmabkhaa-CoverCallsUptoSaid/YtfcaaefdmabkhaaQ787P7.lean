/- Functions' values and contracts, as the print wrote them. -/
import Derived.Test.YtfcaaefdmabkhaaQ787P0
import Derived.Test.YtfcaaefdmabkhaaQ787P1
import Derived.Test.YtfcaaefdmabkhaaQ787P6
import Derived.Test.YtfcaaefdmabkhaaQ787P2
import Derived.Test.YtfcaaefdmabkhaaQ787P3
import Derived.Test.YtfcaaefdmabkhaaQ787P5
namespace Go.Proofs.Ytfcaaefdmabkhaa.Pr
open Bool renaming true → T
open Bool renaming false → F
open Go.RowKit Go.Proofs.YtfcaaefdmabkhaaW.PrintWords Go.Proofs.YtfcaaefdmabkhaaW.PrintLast Go.Proofs.YtfcaaefdmabkhaaW.PrintMore
attribute [local go_sem] QaP QaR QaW QaX QaL QaM QaQ QaS   -- for this text's walks alone
set_option linter.unusedVariables false
set_option linter.unusedSimpArgs false
set_option maxRecDepth 100000
set_option maxHeartbeats 8000000
mutual
def Qaj.l0 : Nat → List (S100) → ByteArray → Int → List Int → List Int → List Int → Option (Int × Int × Int × Int)
 | 0, _, _, _, _, _, _ => none
 | k + 1, x0, x1, x9, x560000, x560001, x560002 => if x9 < (x0.length : Int) then (if 0 ≤ x9 then (if ((Qas x0 x9).f0.f0).toList = x1.toList then (if x560000.length < 17592186044416 then (if x560001.length < 17592186044416 then (if x560002.length < 17592186044416 then (Qaj.l0 k x0 x1 (wrap64 (x9 + 1)) (x560000 ++ [(Qas x0 x9).f1]) (x560001 ++ [(Qas x0 x9).f2]) (x560002 ++ [(Qas x0 x9).f3])) else (none)) else (none)) else (none)) else (Qaj.l0 k x0 x1 (wrap64 (x9 + 1)) x560000 x560001 x560002)) else (none)) else (Qaj.l1 k 0 x560000 x560001 x560002 0 0 0)
def Qaj.l1 : Nat → Int → List Int → List Int → List Int → Int → Int → Int → Option (Int × Int × Int × Int)
 | 0, _, _, _, _, _, _, _ => none
 | k + 1, x11, x560000, x560001, x560002, x574000, x574001, x574002 => if x11 < 3 then (if x11 = 0 then ((QaE.f k x560000).bind fun bt574 => (if bt574.2 = T then (Qaj.l1 k (wrap64 (x11 + 1)) x560000 x560001 x560002 bt574.1 x574001 x574002) else (some (0, 0, 0, 3)))) else (if x11 = 1 then ((QaE.f k x560001).bind fun bt576 => (if bt576.2 = T then (Qaj.l1 k (wrap64 (x11 + 1)) x560000 x560001 x560002 x574000 bt576.1 x574002) else (some (0, 0, 0, 3)))) else (if x11 = 2 then ((QaE.f k x560002).bind fun bt578 => (if bt578.2 = T then (Qaj.l1 k (wrap64 (x11 + 1)) x560000 x560001 x560002 x574000 x574001 bt578.1) else (some (0, 0, 0, 3)))) else (none)))) else (some (x574000, x574001, x574002, 0))
end
def Qaj.f (k : Nat) (l0 : List (S100)) (a1 : ByteArray) : Option (Int × Int × Int × Int) := Qaj.l0 k l0 a1 0 ([] : List Int) ([] : List Int) ([] : List Int)
theorem Qaj.mono_l : ∀ k, (∀ y0 y1 y2 y3 y4 y5, LeO (Qaj.l0 k y0 y1 y2 y3 y4 y5) (Qaj.l0 (k + 1) y0 y1 y2 y3 y4 y5)) ∧ (∀ y0 y1 y2 y3 y4 y5 y6, LeO (Qaj.l1 k y0 y1 y2 y3 y4 y5 y6) (Qaj.l1 (k + 1) y0 y1 y2 y3 y4 y5 y6))
 | 0 => ⟨fun _ _ _ _ _ _ r h => by simp [Qaj.l0] at h, fun _ _ _ _ _ _ _ r h => by simp [Qaj.l1] at h⟩
 | k + 1 => by
  obtain ⟨ih0, ih1⟩ := Qaj.mono_l k
  refine ⟨?_, ?_⟩
  ·intro y0 y1 y2 y3 y4 y5
   unfold Qaj.l0
   exact ZM3 ih0 ih1 QaE.mono
  intro y0 y1 y2 y3 y4 y5 y6
  unfold Qaj.l1
  exact ZM3 ih0 ih1 QaE.mono
theorem Qaj.mono : ∀ a0 a1 k, LeO (Qaj.f k a0 a1) (Qaj.f (k + 1) a0 a1) := by
 intro a0 a1 k
 obtain ⟨ih0, ih1⟩ := Qaj.mono_l k
 unfold Qaj.f
 exact ZM3 ih0 ih1 QaE.mono
def Qaj.T6 : Bool × List (List Nat × List Nat) := (T, [([], []), ([0], [0]), ([], []), ([], []), ([2, 3], [2, 3]), ([4], [4]), ([5], [5]), ([6], [6]), ([1, 7], [1, 7]), ([0, 1, 2, 3, 4, 5, 6, 7, 8], []), ([9, 8, 8, 0, 1, 2, 3, 4, 5, 6, 7, 8], [8, 9])])
def Qaj.B6 : List Nat := [0, 1, 0, 0, 12, 28, 60, 124, 255, 511, 1023]
theorem Qaj.tab6 : rtab .any (opsOf Try.f24 6) = Qaj.T6 := by kernel_rfl
theorem Qaj.bits6 : QbG Qaj.T6.2 Qaj.B6 = T := by kernel_rfl
def Qaj.T7 : Bool × List (List Nat × List Nat) := (T, [([], []), ([0], [0]), ([], []), ([], []), ([2, 3], [2, 3]), ([4], [4]), ([5], [5]), ([6], [6]), ([1, 7], [1, 7]), ([0, 1, 2, 3, 4, 5, 6, 7, 8], []), ([9, 8, 8, 0, 1, 2, 3, 4, 5, 6, 7, 8], [8, 9])])
def Qaj.B7 : List Nat := [0, 1, 0, 0, 12, 28, 60, 124, 255, 511, 1023]
theorem Qaj.tab7 : rtab .any (opsOf Try.f24 7) = Qaj.T7 := by kernel_rfl
theorem Qaj.bits7 : QbG Qaj.T7.2 Qaj.B7 = T := by kernel_rfl
def Qaj.T8 : Bool × List (List Nat × List Nat) := (T, [([], []), ([0], [0]), ([], []), ([], []), ([2, 3], [2, 3]), ([4], [4]), ([5], [5]), ([6], [6]), ([1, 7], [1, 7]), ([0, 1, 2, 3, 4, 5, 6, 7, 8], []), ([9, 8, 8, 0, 1, 2, 3, 4, 5, 6, 7, 8], [8, 9])])
def Qaj.B8 : List Nat := [0, 1, 0, 0, 12, 28, 60, 124, 255, 511, 1023]
theorem Qaj.tab8 : rtab .any (opsOf Try.f24 8) = Qaj.T8 := by kernel_rfl
theorem Qaj.bits8 : QbG Qaj.T8.2 Qaj.B8 = T := by kernel_rfl
def Qaj.T17 : Bool × List (List Nat × List Nat) := (T, [([], []), ([0], [0]), ([], []), ([2], [2]), ([], []), ([4], [4]), ([1, 0, 1], [1]), ([3, 6, 0, 1, 2, 3, 6], [3]), ([5, 7, 0, 1, 2, 3, 4, 5, 6, 7], [5]), ([8, 0, 1, 2, 3, 4, 5, 6, 7, 8], [])])
def Qaj.B17 : List Nat := [0, 1, 0, 4, 0, 16, 3, 79, 255, 511]
theorem Qaj.tab17 : rtab .any (opsOf Try.f24 17) = Qaj.T17 := by kernel_rfl
theorem Qaj.bits17 : QbG Qaj.T17.2 Qaj.B17 = T := by kernel_rfl
theorem Qaj.calls (k : Nat) (A0 : Option Addr) (c0 : Nat) (l0 : List (S100)) (a1 : ByteArray) (r1 : Int) (r2 : Int) (r3 : Int) (r4 : Int) (w : World) (hr0 : Kd.C k100 w A0 l0.length l0) (hc0 : l0.length ≤ c0) (h : Qaj.f k l0 a1 = some (r1, r2, r3, r4)) :
  Calls Try.prog 24 #[.slice A0 l0.length c0, .string a1] w fun e w' => e = .returned (.tuple #[.int .i64 r1, .int .i64 r2, .int .i64 r3, .int .i64 r4]) ∧ Below w.heap.size w w' := by
 have hu101 := Try.underlying101
 have hu102 := Try.underlying102
 have HR0 := Aside0.mk hr0
 have HC0 := Aside0.mk hc0
 clear hr0 hc0
 have HB := Aside0.mk (Below.refl w.heap.size w)
 have H : (Qaj.l0 k l0 a1 0 ([] : List Int) ([] : List Int) ([] : List Int)) = some (r1, r2, r3, r4) := h
 clear h
 have H' := Aside0.mk H
 clear H
 go_enter Try.func24, Try.ntmps24
 go_wp2_with (first | ((with_reducible refine QaJ (N := 8) rfl ?_); refine Zbx (N := 8) (cs := #[.slice none 0 0, .slice none 0 0, .slice none 0 0]) (t := 101) ?_; intro gb559 hg w3 hbox hb; have BK559 := Aside0.mk (hbox); have GW559 := Aside0.mk (Zt w hg (Zb)); have GE559 := GW559; replace HB := Aside0.mk (Qap (Zb) hb); clear hb hbox hg))
 go_loopg [9] k (fun kq v9 w' => ∃ (x9_1 : Int) (x560000_1 : List Int) (x560001_1 : List Int) (x560002_1 : List Int) (u560000 : Value) (u560001 : Value) (u560002 : Value), v9 = .int .i64 x9_1 ∧ Aside0 (Qaj.l0 kq l0 a1 x9_1 x560000_1 x560001_1 x560002_1 = some (r1, r2, r3, r4)) ∧ Aside0 (kq ≤ k) ∧ Aside0 (Kd.R (Kd.int .i64) 3 w' w.heap.size (fun k_ => some k_ ≠ (u560001 : Value).ownBlock ∧ some k_ ≠ (u560002 : Value).ownBlock) u560000 x560000_1) ∧ Aside0 (Kd.R (Kd.int .i64) 3 w' w.heap.size (fun k_ => some k_ ≠ (u560000 : Value).ownBlock ∧ some k_ ≠ (u560002 : Value).ownBlock) u560001 x560001_1) ∧ Aside0 (Kd.R (Kd.int .i64) 3 w' w.heap.size (fun k_ => some k_ ≠ (u560000 : Value).ownBlock ∧ some k_ ≠ (u560001 : Value).ownBlock) u560002 x560002_1) ∧ Aside0 (w'.heap[gb559]? = some (.cells #[u560000, u560001, u560002] 101 (0, 0))) ∧ Aside0 (Below w.heap.size w w'))
 case atStart => exact ⟨(0), (([] : List Int)), (([] : List Int)), (([] : List Int)), (.slice none 0 0), (.slice none 0 0), (.slice none 0 0), (Zs2), H', ⟨Nat.le_refl _⟩, ⟨by first | exact Kd.R_nil _ _ _ _ _ | exact Kd.N_nil _ _ _ _ _ | exact Kd.V_nil _ _ _ _ _ | exact Kd.Q_nil _ _ _ _ _ | exact Kd.S_nil _ _ _ _ _⟩, ⟨by first | exact Kd.R_nil _ _ _ _ _ | exact Kd.N_nil _ _ _ _ _ | exact Kd.V_nil _ _ _ _ _ | exact Kd.Q_nil _ _ _ _ _ | exact Kd.S_nil _ _ _ _ _⟩, ⟨by first | exact Kd.R_nil _ _ _ _ _ | exact Kd.N_nil _ _ _ _ _ | exact Kd.V_nil _ _ _ _ _ | exact Kd.Q_nil _ _ _ _ _ | exact Kd.S_nil _ _ _ _ _⟩, ⟨Zu BK559.out⟩, ⟨Zc1 GE559.out⟩⟩
 case round =>
  clear H'
  try clear c2
  try clear p2
  obtain ⟨x9_1, x560000_1, x560001_1, x560002_1, u560000, u560001, u560002, rfl, HA, HK1, HO_560000, HO_560001, HO_560002, BK559, HB⟩ := hrel
  cases gk with
  | zero => exact absurd HA.out (by simp [Qaj.l0])
  | succ k1 =>
   have H := HA.out
   clear HA
   simp only [Qaj.l0] at H
   by_cases c4 : x9_1 < (l0.length : Int)
   ·rw [if_pos c4] at H
    have c4b0 : decide (x9_1 < (l0.length : Int)) = T := decide_eq_true c4
    clear c4
    (try simp only [c4b0])
    by_cases c5 : 0 ≤ x9_1
    ·rw [if_pos c5] at H
     have c5b0 : decide (0 ≤ x9_1) = T := decide_eq_true c5
     clear c5
     have p560 : 0 ≤ (x9_1 : Int) := Ze
     have q560 : x9_1 < (l0.length : Int) := Ze
     obtain ⟨ad560, e560, hx560_0, hx560_1, hx560_2, hx560_3, hx560_4⟩ := Qbn HR0.out x9_1 p560 q560
     cases e560
     replace hx560_0 := Zx HB.out hx560_0
     replace hx560_1 := Zx HB.out hx560_1
     replace hx560_2 := Zx HB.out hx560_2
     replace hx560_3 := Zx HB.out hx560_3
     replace hx560_4 := Zx HB.out hx560_4
     replace p560 := eq_true p560
     replace q560 := eq_true q560
     go_upto_if 27 with (fail)
     by_cases c6 : ((Qas l0 x9_1).f0.f0).toList = a1.toList
     ·rw [if_pos c6] at H
      have c6b0 : (((Qas l0 x9_1).f0.f0).toList == a1.toList) = T := beq_iff_eq.mpr c6
      have c6b1 : (((Qas l0 x9_1).f0.f0).toList != a1.toList) = F := bne_eq_false_iff_eq.mpr c6
      clear c6
      (try simp only [c6b0, c6b1])
      by_cases c7 : x560000_1.length < 17592186044416
      ·rw [if_pos c7] at H
       have LMc7 := Aside0.mk c7
       clear c7
       obtain ⟨y562, hy562⟩ : ∃ y_ : List Int, y_ = (x560000_1 ++ [(Qas l0 x9_1).f1]) := ⟨_, rfl⟩
       replace H : (if x560001_1.length < 17592186044416 then (if x560002_1.length < 17592186044416 then (Qaj.l0 k1 l0 a1 (wrap64 (x9_1 + 1)) y562 (x560001_1 ++ [(Qas l0 x9_1).f2]) (x560002_1 ++ [(Qas l0 x9_1).f3])) else (none)) else (none)) = some (r1, r2, r3, r4) := by first | (rw [hy562]; with_reducible exact H) | (have H2_ := (Option.bind_some _ _).symm.trans H; rw [hy562]; with_reducible exact H2_) | (have H2_ := (Option.bind_some _ _).symm.trans H; with_reducible exact H2_) | with_reducible exact H | (rw [hy562]; exact H) | exact H
       have Ny562 := Aside0.mk hy562
       clear hy562
       by_cases c8 : x560001_1.length < 17592186044416
       ·rw [if_pos c8] at H
        have LMc8 := Aside0.mk c8
        clear c8
        obtain ⟨y566, hy566⟩ : ∃ y_ : List Int, y_ = (x560001_1 ++ [(Qas l0 x9_1).f2]) := ⟨_, rfl⟩
        replace H : (if x560002_1.length < 17592186044416 then (Qaj.l0 k1 l0 a1 (wrap64 (x9_1 + 1)) y562 y566 (x560002_1 ++ [(Qas l0 x9_1).f3])) else (none)) = some (r1, r2, r3, r4) := by first | (rw [hy566]; with_reducible exact H) | (have H2_ := (Option.bind_some _ _).symm.trans H; rw [hy566]; with_reducible exact H2_) | (have H2_ := (Option.bind_some _ _).symm.trans H; with_reducible exact H2_) | with_reducible exact H | (rw [hy566]; exact H) | exact H
        have Ny566 := Aside0.mk hy566
        clear hy566
        by_cases c9 : x560002_1.length < 17592186044416
        ·rw [if_pos c9] at H
         have LMc9 := Aside0.mk c9
         clear c9
         obtain ⟨y570, hy570⟩ : ∃ y_ : List Int, y_ = (x560002_1 ++ [(Qas l0 x9_1).f3]) := ⟨_, rfl⟩
         replace H : (Qaj.l0 k1 l0 a1 (wrap64 (x9_1 + 1)) y562 y566 y570) = some (r1, r2, r3, r4) := by first | (rw [hy570]; with_reducible exact H) | (have H2_ := (Option.bind_some _ _).symm.trans H; rw [hy570]; with_reducible exact H2_) | (have H2_ := (Option.bind_some _ _).symm.trans H; with_reducible exact H2_) | with_reducible exact H | (rw [hy570]; exact H) | exact H
         have Ny570 := Aside0.mk hy570
         clear hy570
         have H' := Aside0.mk H
         clear H
         try go_wp2
         replace HO_560000 := Aside0.mk (Kd.R_drew HO_560000.out)
         replace HO_560001 := Aside0.mk (Kd.R_drew HO_560001.out)
         replace HO_560002 := Aside0.mk (Kd.R_drew HO_560002.out)
         replace BK559 := Aside0.mk (Qad BK559.out)
         replace HB := Aside0.mk (Qag HB.out)
         have p561 : 0 ≤ (x9_1 : Int) := Ze
         have q561 : x9_1 < (l0.length : Int) := Ze
         obtain ⟨ad561, e561, hx561_0, hx561_1, hx561_2, hx561_3, hx561_4⟩ := Qbn HR0.out x9_1 p561 q561
         have hw561_4 := hx561_4
         have hw561_3 := hx561_3
         have hw561_2 := hx561_2
         have hw561_1 := hx561_1
         have hw561_0 := hx561_0
         obtain rfl : ad560 = ad561 := (by injection e561)
         replace hx561_0 := Zx HB.out hx561_0
         replace hx561_1 := Zx HB.out hx561_1
         replace hx561_2 := Zx HB.out hx561_2
         replace hx561_3 := Zx HB.out hx561_3
         replace hx561_4 := Zx HB.out hx561_4
         replace p561 := eq_true p561
         replace q561 := eq_true q561
         refine start_ (n := 11) (S := fun w' => w'.cell? ⟨gb559, 0, none⟩ = some (u560000) ∧ w'.cell? ⟨gb559, 1, none⟩ = some (u560001) ∧ w'.cell? ⟨gb559, 2, none⟩ = some (u560002) ∧ w'.cell? (ad560.add ((x9_1).toNat * 5)) = some (.string ((Qas l0 x9_1).f0.f0)) ∧ w'.cell? ⟨(ad560.add ((x9_1).toNat * 5)).block, (ad560.add ((x9_1).toNat * 5)).off + 1, none⟩ = some (.string ((Qas l0 x9_1).f0.f1)) ∧ w'.cell? ⟨(ad560.add ((x9_1).toNat * 5)).block, (ad560.add ((x9_1).toNat * 5)).off + 2, none⟩ = some (.int .i64 ((Qas l0 x9_1).f1)) ∧ w'.cell? ⟨(ad560.add ((x9_1).toNat * 5)).block, (ad560.add ((x9_1).toNat * 5)).off + 3, none⟩ = some (.int .i64 ((Qas l0 x9_1).f2)) ∧ w'.cell? ⟨(ad560.add ((x9_1).toNat * 5)).block, (ad560.add ((x9_1).toNat * 5)).off + 4, none⟩ = some (.int .i64 ((Qas l0 x9_1).f3))) (ds := [10]) #[F, F, F, F, F, F, F, F, F, F, F] (by kernel_rfl) rfl rfl ⟨(Qai BK559.out 0).trans rfl, (Qai BK559.out 1).trans rfl, (Qai BK559.out 2).trans rfl, ((HB.out.cell (World.block_lt_of_cell? w _ hw561_0)).trans hw561_0), ((HB.out.cell (World.block_lt_of_cell? w _ hw561_1)).trans hw561_1), ((HB.out.cell (World.block_lt_of_cell? w _ hw561_2)).trans hw561_2), ((HB.out.cell (World.block_lt_of_cell? w _ hw561_3)).trans hw561_3), ((HB.out.cell (World.block_lt_of_cell? w _ hw561_4)).trans hw561_4)⟩ (fun hHeld => ?_); refine QbH Qaj.tab6 Qaj.bits6 (fun HT_ HW_ => ?_)
         generalize wr.drew = w10 at HO_560000 HO_560001 HO_560002 BK559 HB hx561_0 hx561_1 hx561_2 hx561_3 hx561_4 hHeld ⊢
         refine pure_ (i := 0) (N := some 28) (v := ?_) (a' := ?_) #[T, F, F, F, F, F, F, F, F, F, F] rfl rfl (any_of HT_.out (by kernel_rfl)) (fun _ _ _ h => h) (Or.inl ⟨by rfl, ?_⟩) ?_ ?_
         rotate_left
         ·intro w'
          go_simp
          with_reducible rfl
         rotate_left
         ·simp only [Act.put, Zj, Zk, Zm, i64_w, i32_w]
          rfl
         refine pure_ (i := 2) (N := some 30) (v := ?_) (a' := ?_) #[T, F, T, F, F, F, F, F, F, F, F] rfl rfl (any_of HT_.out (by kernel_rfl)) (fun _ _ _ h => h) (Or.inl ⟨by rfl, ?_⟩) ?_ ?_
         rotate_left
         ·intro w'
          go_simp
          with_reducible rfl
         rotate_left
         ·simp only [Act.put, Zj, Zk, Zm, i64_w, i32_w]
          rfl
         refine pure_ (i := 3) (N := some 31) (v := ?_) (a' := ?_) #[T, F, T, T, F, F, F, F, F, F, F] rfl rfl (any_of HT_.out (by kernel_rfl)) (fun _ _ _ h => h) (Or.inl ⟨by rfl, ?_⟩) ?_ ?_
         rotate_left
         ·intro w'
          go_simp
          with_reducible rfl
         rotate_left
         ·simp only [Act.put, Zj, Zk, Zm, i64_w, i32_w]
          rfl
         refine pure_ (i := 4) (N := some 32) (v := ?_) (a' := ?_) #[T, F, T, T, T, F, F, F, F, F, F] rfl rfl (any_of HT_.out (by kernel_rfl)) (fun _ _ _ h => h) (Or.inl ⟨by rfl, ?_⟩) ?_ ?_
         rotate_left
         ·intro w'
          go_simp
          with_reducible rfl
         rotate_left
         ·simp only [Act.put, Zj, Zk, Zm, i64_w, i32_w]
          rfl
         refine pure_ (i := 5) (N := some 33) (v := ?_) (a' := ?_) #[T, F, T, T, T, T, F, F, F, F, F] rfl rfl (any_of HT_.out (by kernel_rfl)) (fun _ _ _ h => h) (Or.inl ⟨by rfl, ?_⟩) ?_ ?_
         rotate_left
         ·intro w'
          go_simp
          with_reducible rfl
         rotate_left
         ·simp only [Act.put, Zj, Zk, Zm, i64_w, i32_w]
          rfl
         refine take_ (i := 1) (N := some 29) (v := ?_) (a' := ?_) #[T, T, T, T, T, T, F, F, F, F, F] rfl rfl (Qbl HT_.out HW_.out (by kernel_rfl)) (fun _ _ _ h => h) (Or.inl ⟨by rfl, ?_⟩) hHeld ?_ ?_
         rotate_left
         ·rintro w' ⟨s0, s1, s2, s3, s4, s5, s6, s7⟩
          go_simp
          with_reducible rfl
         rotate_left
         ·simp only [Act.put, Zj, Zk, Zm, i64_w, i32_w]
          rfl
         refine take_ (i := 6) (N := some 34) (v := ?_) (a' := ?_) #[T, T, T, T, T, T, T, F, F, F, F] rfl rfl (Qbl HT_.out HW_.out (by kernel_rfl)) (fun _ _ _ h => h) (Or.inl ⟨by rfl, ?_⟩) hHeld ?_ ?_
         rotate_left
         ·rintro w' ⟨s0, s1, s2, s3, s4, s5, s6, s7⟩
          go_simp
          with_reducible rfl
         rotate_left
         ·simp only [Act.put, Zj, Zk, Zm, i64_w, i32_w]
          rfl
         refine one_ (i := 7) (N := some 35) #[T, T, T, T, T, T, T, T, F, F, F] rfl rfl (one_of HT_.out (by kernel_rfl)) (by decide) (fun K hK => ?_)
         refine value_ (w1 := ?_) (v := ?_) (by rfl) rfl ?_ ?_
         rotate_left 2
         ·go_simp
          constructor
          ·rfl
          rfl
         refine hK.out _ _ ⟨(Qai (Qab BK559.out _) 0).trans rfl, (Qai (Qab BK559.out _) 1).trans rfl, (Qai (Qab BK559.out _) 2).trans rfl, (World.cell?_alloc_lt _ _ _ (World.block_lt_of_cell? _ _ (((HB.out.cell (World.block_lt_of_cell? w _ hw561_0)).trans hw561_0)))).trans (((HB.out.cell (World.block_lt_of_cell? w _ hw561_0)).trans hw561_0)), (World.cell?_alloc_lt _ _ _ (World.block_lt_of_cell? _ _ (((HB.out.cell (World.block_lt_of_cell? w _ hw561_1)).trans hw561_1)))).trans (((HB.out.cell (World.block_lt_of_cell? w _ hw561_1)).trans hw561_1)), (World.cell?_alloc_lt _ _ _ (World.block_lt_of_cell? _ _ (((HB.out.cell (World.block_lt_of_cell? w _ hw561_2)).trans hw561_2)))).trans (((HB.out.cell (World.block_lt_of_cell? w _ hw561_2)).trans hw561_2)), (World.cell?_alloc_lt _ _ _ (World.block_lt_of_cell? _ _ (((HB.out.cell (World.block_lt_of_cell? w _ hw561_3)).trans hw561_3)))).trans (((HB.out.cell (World.block_lt_of_cell? w _ hw561_3)).trans hw561_3)), (World.cell?_alloc_lt _ _ _ (World.block_lt_of_cell? _ _ (((HB.out.cell (World.block_lt_of_cell? w _ hw561_4)).trans hw561_4)))).trans (((HB.out.cell (World.block_lt_of_cell? w _ hw561_4)).trans hw561_4))⟩ (fun hHeld => ?_)
         clear hK K
         refine norm_ (a' := ?_) ?_ ?_
         rotate_left
         ·show Act.put _ (some 35) _ = _
          simp only [Act.put, Zj, Zk, Zm, i64_w, i32_w]
          rfl
         refine one_ (i := 8) (N := some 36) #[T, T, T, T, T, T, T, T, T, F, F] rfl rfl (one_of HT_.out (by kernel_rfl)) (by decide) (fun K hK => ?_)
         refine Kd.R_append_step (Kd.int .i64) (w0 := w) w.heap.size (by rfl) (.tmp 29) (.tmp 35) 63 3 (.int .i64 0) 8 rfl Try.underlying63 info3 rfl (by decide) (by omega) u560000 x560000_1 ((Qas l0 x9_1).f1) [.int .i64 ((Qas l0 x9_1).f1)] (fun k_ => some k_ ≠ (u560001 : Value).ownBlock ∧ some k_ ≠ (u560002 : Value).ownBlock) (fun _ => False) rfl rfl ?aP (fun _ hk => hk.elim) ?aF ?aO ?aB ?aS ?aL ?_
         (case aP => exact rfl)
         (case aB => exact (Zc1 GE559.out))
         (case aF => exact (fun k_ hk => ⟨Kd.fresh' (Kd.R_lt (Zr HO_560001.out)) k_ hk, Kd.fresh' (Kd.R_lt (Zr HO_560002.out)) k_ hk⟩))
         (case aO => exact (Zr HO_560000.out))
         (case aS => exact (Qam (Zc1 GE559.out)))
         (case aL => have := LMc7.out; omega)
         intro v563 w11 ho hb hg hat
         rw [← Ny562.out] at ho
         have HO564 := Aside0.mk (ho)
         replace HO_560001 := Aside0.mk (Kd.R_after (ok := (fun k_ => some k_ ≠ (u560002 : Value).ownBlock)) (by (with_reducible repeat (first | apply Kd.R_alloc | apply Kd.R_drewN | apply Kd.R_drew)); exact Kd.R_mono HO_560001.out (fun _ hk => ⟨hk.2, hk.1⟩)) hg hat)
         replace HO_560002 := Aside0.mk (Kd.R_after (ok := (fun k_ => some k_ ≠ (u560001 : Value).ownBlock)) (by (with_reducible repeat (first | apply Kd.R_alloc | apply Kd.R_drewN | apply Kd.R_drew)); exact Kd.R_mono HO_560002.out (fun _ hk => ⟨hk.2, hk.1⟩)) hg hat)
         replace BK559 := Aside0.mk (QaK (g := gb559) (o := .cells #[u560000, u560001, u560002] 101 (0, 0)) (Zu BK559.out) hg (Kd.R_ne HO_560000.out BK559.out (by decide)))
         replace HB := Aside0.mk (hb)
         clear HO_560000
         clear ho hb hg hat
         obtain ⟨Ao12, co12, eo12⟩ := Kd.R_slice HO564.out
         (first | subst eo12 | (injection eo12 with f1_ f2_ f3_; have f4_ := f1_.symm; have f5_ := f3_.symm; clear f1_ f2_ f3_; subst f4_; subst f5_))
         refine hK.out _ _ ⟨(Qai BK559.out 0).trans rfl, (Qai BK559.out 1).trans rfl, (Qai BK559.out 2).trans rfl, ((HB.out.cell (World.block_lt_of_cell? w _ hw561_0)).trans hw561_0), ((HB.out.cell (World.block_lt_of_cell? w _ hw561_1)).trans hw561_1), ((HB.out.cell (World.block_lt_of_cell? w _ hw561_2)).trans hw561_2), ((HB.out.cell (World.block_lt_of_cell? w _ hw561_3)).trans hw561_3), ((HB.out.cell (World.block_lt_of_cell? w _ hw561_4)).trans hw561_4)⟩ (fun hHeld => ?_)
         clear hK K
         refine norm_ (a' := ?_) ?_ ?_
         rotate_left
         ·show Act.put _ (some 36) _ = _
          simp only [Act.put, Zj, Zk, Zm, i64_w, i32_w]
          rfl
         refine pure_ (i := 9) (N := some 37) (v := ?_) (a' := ?_) #[T, T, T, T, T, T, T, T, T, T, F] rfl rfl (any_of HT_.out (by kernel_rfl)) (fun _ _ _ h => h) (Or.inl ⟨by rfl, ?_⟩) ?_ ?_
         rotate_left
         ·intro w'
          go_simp
          with_reducible rfl
         rotate_left
         ·simp only [Act.put, Zj, Zk, Zm, i64_w, i32_w]
          rfl
         refine last_ (i := 10) (N := none) #[T, T, T, T, T, T, T, T, T, T, T] rfl rfl (one_of HT_.out (by kernel_rfl)) (by decide) (fun K hK => ?_)
         have hs13 : w11.cell? ⟨gb559, 0, none⟩ = some (u560000) := (Qai BK559.out 0).trans rfl
         have hfs13 := Qah BK559.out 0
         refine skip_ (w1 := ?_) (by rfl) rfl ?_ ?_
         rotate_left
         ·go_simp
          rfl
         refine hK.out _ _ ?_
         clear hK K
         refine done_ (QbN HT_.out (by kernel_rfl)) ?_
         try go_wp2
         have n0_ : Aside0 (Kd.R (Kd.int .i64) 3 (w11.setCell ⟨gb559, 0, none⟩ (.slice Ao12 y562.length co12)) w.heap.size (fun k_ => some k_ ≠ (u560002 : Value).ownBlock ∧ some k_ ≠ (.slice Ao12 y562.length co12 : Value).ownBlock) u560001 x560001_1) := ⟨by (with_reducible repeat (first | apply Kd.R_alloc | apply Kd.R_drewN | apply Kd.R_drew)); exact Kd.R_mono (Zf gb559 0 (Kd.R_types HO_560001.out BK559.out (by decide)) (.slice Ao12 y562.length co12)) (fun _ hk => ⟨hk.1.1, hk.1.2⟩)⟩
         have n1_ : Aside0 (Kd.R (Kd.int .i64) 3 (w11.setCell ⟨gb559, 0, none⟩ (.slice Ao12 y562.length co12)) w.heap.size (fun k_ => some k_ ≠ (u560001 : Value).ownBlock ∧ some k_ ≠ (.slice Ao12 y562.length co12 : Value).ownBlock) u560002 x560002_1) := ⟨by (with_reducible repeat (first | apply Kd.R_alloc | apply Kd.R_drewN | apply Kd.R_drew)); exact Kd.R_mono (Zf gb559 0 (Kd.R_types HO_560002.out BK559.out (by decide)) (.slice Ao12 y562.length co12)) (fun _ hk => ⟨hk.1.1, hk.1.2⟩)⟩
         have n2_ : Aside0 (Kd.R (Kd.int .i64) 3 (w11.setCell ⟨gb559, 0, none⟩ (.slice Ao12 y562.length co12)) w.heap.size (fun k_ => some k_ ≠ (u560001 : Value).ownBlock ∧ some k_ ≠ (u560002 : Value).ownBlock) (.slice Ao12 y562.length co12) y562) := ⟨by (with_reducible repeat (first | apply Kd.R_alloc | apply Kd.R_drewN | apply Kd.R_drew)); exact Kd.R_mono (Zf gb559 0 (Kd.R_types HO564.out BK559.out (by decide)) (.slice Ao12 y562.length co12)) (fun _ hk => ⟨hk.1.1, hk.1.2⟩)⟩
         have n3_ : Aside0 ((w11.setCell ⟨gb559, 0, none⟩ (.slice Ao12 y562.length co12)).heap[gb559]? = some (.cells #[.slice Ao12 y562.length co12, u560001, u560002] 101 (0, 0))) := ⟨Zp2 BK559.out⟩
         have n4_ : Aside0 (Below w.heap.size w (w11.setCell ⟨gb559, 0, none⟩ (.slice Ao12 y562.length co12))) := ⟨Zc1 GE559.out⟩
         (try clear HO_560001)
         (try clear HO_560002)
         (try clear HO564)
         (try clear BK559)
         (try clear HB)
         generalize (w11.setCell ⟨gb559, 0, none⟩ (.slice Ao12 y562.length co12)) = w14 at n0_ n1_ n2_ n3_ n4_ ⊢
         have HO_560001 := n0_
         have HO_560002 := n1_
         have HO564 := n2_
         have BK559 := n3_
         have HB := n4_
         clear n0_ n1_ n2_ n3_ n4_
         replace HO_560001 := Aside0.mk (Kd.R_drew HO_560001.out)
         replace HO_560002 := Aside0.mk (Kd.R_drew HO_560002.out)
         replace HO564 := Aside0.mk (Kd.R_drew HO564.out)
         replace BK559 := Aside0.mk (Qad BK559.out)
         replace HB := Aside0.mk (Qag HB.out)
         have p565 : 0 ≤ (x9_1 : Int) := Ze
         have q565 : x9_1 < (l0.length : Int) := Ze
         obtain ⟨ad565, e565, hx565_0, hx565_1, hx565_2, hx565_3, hx565_4⟩ := Qbn HR0.out x9_1 p565 q565
         have hw565_4 := hx565_4
         have hw565_3 := hx565_3
         have hw565_2 := hx565_2
         have hw565_1 := hx565_1
         have hw565_0 := hx565_0
         obtain rfl : ad560 = ad565 := (by injection e565)
         replace hx565_0 := Zx HB.out hx565_0
         replace hx565_1 := Zx HB.out hx565_1
         replace hx565_2 := Zx HB.out hx565_2
         replace hx565_3 := Zx HB.out hx565_3
         replace hx565_4 := Zx HB.out hx565_4
         replace p565 := eq_true p565
         replace q565 := eq_true q565
         refine start_ (n := 11) (S := fun w' => w'.cell? ⟨gb559, 0, none⟩ = some (.slice Ao12 y562.length co12) ∧ w'.cell? ⟨gb559, 1, none⟩ = some (u560001) ∧ w'.cell? ⟨gb559, 2, none⟩ = some (u560002) ∧ w'.cell? (ad560.add ((x9_1).toNat * 5)) = some (.string ((Qas l0 x9_1).f0.f0)) ∧ w'.cell? ⟨(ad560.add ((x9_1).toNat * 5)).block, (ad560.add ((x9_1).toNat * 5)).off + 1, none⟩ = some (.string ((Qas l0 x9_1).f0.f1)) ∧ w'.cell? ⟨(ad560.add ((x9_1).toNat * 5)).block, (ad560.add ((x9_1).toNat * 5)).off + 2, none⟩ = some (.int .i64 ((Qas l0 x9_1).f1)) ∧ w'.cell? ⟨(ad560.add ((x9_1).toNat * 5)).block, (ad560.add ((x9_1).toNat * 5)).off + 3, none⟩ = some (.int .i64 ((Qas l0 x9_1).f2)) ∧ w'.cell? ⟨(ad560.add ((x9_1).toNat * 5)).block, (ad560.add ((x9_1).toNat * 5)).off + 4, none⟩ = some (.int .i64 ((Qas l0 x9_1).f3))) (ds := [10]) #[F, F, F, F, F, F, F, F, F, F, F] (by kernel_rfl) rfl rfl ⟨(Qai BK559.out 0).trans rfl, (Qai BK559.out 1).trans rfl, (Qai BK559.out 2).trans rfl, ((HB.out.cell (World.block_lt_of_cell? w _ hw565_0)).trans hw565_0), ((HB.out.cell (World.block_lt_of_cell? w _ hw565_1)).trans hw565_1), ((HB.out.cell (World.block_lt_of_cell? w _ hw565_2)).trans hw565_2), ((HB.out.cell (World.block_lt_of_cell? w _ hw565_3)).trans hw565_3), ((HB.out.cell (World.block_lt_of_cell? w _ hw565_4)).trans hw565_4)⟩ (fun hHeld => ?_); refine QbH Qaj.tab7 Qaj.bits7 (fun HT_ HW_ => ?_)
         generalize w14.drew = w15 at HO_560001 HO_560002 HO564 BK559 HB hx565_0 hx565_1 hx565_2 hx565_3 hx565_4 hHeld ⊢
         refine pure_ (i := 0) (N := some 38) (v := ?_) (a' := ?_) #[T, F, F, F, F, F, F, F, F, F, F] rfl rfl (any_of HT_.out (by kernel_rfl)) (fun _ _ _ h => h) (Or.inl ⟨by rfl, ?_⟩) ?_ ?_
         rotate_left
         ·intro w'
          go_simp
          with_reducible rfl
         rotate_left
         ·simp only [Act.put, Zj, Zk, Zm, i64_w, i32_w]
          rfl
         refine pure_ (i := 2) (N := some 40) (v := ?_) (a' := ?_) #[T, F, T, F, F, F, F, F, F, F, F] rfl rfl (any_of HT_.out (by kernel_rfl)) (fun _ _ _ h => h) (Or.inl ⟨by rfl, ?_⟩) ?_ ?_
         rotate_left
         ·intro w'
          go_simp
          with_reducible rfl
         rotate_left
         ·simp only [Act.put, Zj, Zk, Zm, i64_w, i32_w]
          rfl
         refine pure_ (i := 3) (N := some 41) (v := ?_) (a' := ?_) #[T, F, T, T, F, F, F, F, F, F, F] rfl rfl (any_of HT_.out (by kernel_rfl)) (fun _ _ _ h => h) (Or.inl ⟨by rfl, ?_⟩) ?_ ?_
         rotate_left
         ·intro w'
          go_simp
          with_reducible rfl
         rotate_left
         ·simp only [Act.put, Zj, Zk, Zm, i64_w, i32_w]
          rfl
         refine pure_ (i := 4) (N := some 42) (v := ?_) (a' := ?_) #[T, F, T, T, T, F, F, F, F, F, F] rfl rfl (any_of HT_.out (by kernel_rfl)) (fun _ _ _ h => h) (Or.inl ⟨by rfl, ?_⟩) ?_ ?_
         rotate_left
         ·intro w'
          go_simp
          with_reducible rfl
         rotate_left
         ·simp only [Act.put, Zj, Zk, Zm, i64_w, i32_w]
          rfl
         refine pure_ (i := 5) (N := some 43) (v := ?_) (a' := ?_) #[T, F, T, T, T, T, F, F, F, F, F] rfl rfl (any_of HT_.out (by kernel_rfl)) (fun _ _ _ h => h) (Or.inl ⟨by rfl, ?_⟩) ?_ ?_
         rotate_left
         ·intro w'
          go_simp
          with_reducible rfl
         rotate_left
         ·simp only [Act.put, Zj, Zk, Zm, i64_w, i32_w]
          rfl
         refine take_ (i := 1) (N := some 39) (v := ?_) (a' := ?_) #[T, T, T, T, T, T, F, F, F, F, F] rfl rfl (Qbl HT_.out HW_.out (by kernel_rfl)) (fun _ _ _ h => h) (Or.inl ⟨by rfl, ?_⟩) hHeld ?_ ?_
         rotate_left
         ·rintro w' ⟨s0, s1, s2, s3, s4, s5, s6, s7⟩
          go_simp
          with_reducible rfl
         rotate_left
         ·simp only [Act.put, Zj, Zk, Zm, i64_w, i32_w]
          rfl
         refine take_ (i := 6) (N := some 44) (v := ?_) (a' := ?_) #[T, T, T, T, T, T, T, F, F, F, F] rfl rfl (Qbl HT_.out HW_.out (by kernel_rfl)) (fun _ _ _ h => h) (Or.inl ⟨by rfl, ?_⟩) hHeld ?_ ?_
         rotate_left
         ·rintro w' ⟨s0, s1, s2, s3, s4, s5, s6, s7⟩
          go_simp
          with_reducible rfl
         rotate_left
         ·simp only [Act.put, Zj, Zk, Zm, i64_w, i32_w]
          rfl
         refine one_ (i := 7) (N := some 45) #[T, T, T, T, T, T, T, T, F, F, F] rfl rfl (one_of HT_.out (by kernel_rfl)) (by decide) (fun K hK => ?_)
         refine value_ (w1 := ?_) (v := ?_) (by rfl) rfl ?_ ?_
         rotate_left 2
         ·go_simp
          constructor
          ·rfl
          rfl
         refine hK.out _ _ ⟨(Qai (Qab BK559.out _) 0).trans rfl, (Qai (Qab BK559.out _) 1).trans rfl, (Qai (Qab BK559.out _) 2).trans rfl, (World.cell?_alloc_lt _ _ _ (World.block_lt_of_cell? _ _ (((HB.out.cell (World.block_lt_of_cell? w _ hw565_0)).trans hw565_0)))).trans (((HB.out.cell (World.block_lt_of_cell? w _ hw565_0)).trans hw565_0)), (World.cell?_alloc_lt _ _ _ (World.block_lt_of_cell? _ _ (((HB.out.cell (World.block_lt_of_cell? w _ hw565_1)).trans hw565_1)))).trans (((HB.out.cell (World.block_lt_of_cell? w _ hw565_1)).trans hw565_1)), (World.cell?_alloc_lt _ _ _ (World.block_lt_of_cell? _ _ (((HB.out.cell (World.block_lt_of_cell? w _ hw565_2)).trans hw565_2)))).trans (((HB.out.cell (World.block_lt_of_cell? w _ hw565_2)).trans hw565_2)), (World.cell?_alloc_lt _ _ _ (World.block_lt_of_cell? _ _ (((HB.out.cell (World.block_lt_of_cell? w _ hw565_3)).trans hw565_3)))).trans (((HB.out.cell (World.block_lt_of_cell? w _ hw565_3)).trans hw565_3)), (World.cell?_alloc_lt _ _ _ (World.block_lt_of_cell? _ _ (((HB.out.cell (World.block_lt_of_cell? w _ hw565_4)).trans hw565_4)))).trans (((HB.out.cell (World.block_lt_of_cell? w _ hw565_4)).trans hw565_4))⟩ (fun hHeld => ?_)
         clear hK K
         refine norm_ (a' := ?_) ?_ ?_
         rotate_left
         ·show Act.put _ (some 45) _ = _
          simp only [Act.put, Zj, Zk, Zm, i64_w, i32_w]
          rfl
         refine one_ (i := 8) (N := some 46) #[T, T, T, T, T, T, T, T, T, F, F] rfl rfl (one_of HT_.out (by kernel_rfl)) (by decide) (fun K hK => ?_)
         refine Kd.R_append_step (Kd.int .i64) (w0 := w) w.heap.size (by rfl) (.tmp 39) (.tmp 45) 63 3 (.int .i64 0) 8 rfl Try.underlying63 info3 rfl (by decide) (by omega) u560001 x560001_1 ((Qas l0 x9_1).f2) [.int .i64 ((Qas l0 x9_1).f2)] (fun k_ => some k_ ≠ (u560002 : Value).ownBlock ∧ some k_ ≠ (.slice Ao12 y562.length co12 : Value).ownBlock) (fun _ => False) rfl rfl ?aP (fun _ hk => hk.elim) ?aF ?aO ?aB ?aS ?aL ?_
         (case aP => exact rfl)
         (case aB => exact (Zc1 GE559.out))
         (case aF => exact (fun k_ hk => ⟨Kd.fresh' (Kd.R_lt (Zr HO_560002.out)) k_ hk, Kd.fresh' (Kd.R_lt (Zr HO564.out)) k_ hk⟩))
         (case aO => exact (Zr HO_560001.out))
         (case aS => exact (Qam (Zc1 GE559.out)))
         (case aL => have := LMc8.out; omega)
         intro v567 w16 ho hb hg hat
         rw [← Ny566.out] at ho
         have HO568 := Aside0.mk (ho)
         replace HO_560002 := Aside0.mk (Kd.R_after (ok := (fun k_ => some k_ ≠ (.slice Ao12 y562.length co12 : Value).ownBlock)) (by (with_reducible repeat (first | apply Kd.R_alloc | apply Kd.R_drewN | apply Kd.R_drew)); exact Kd.R_mono HO_560002.out (fun _ hk => ⟨hk.2, hk.1⟩)) hg hat)
         replace BK559 := Aside0.mk (QaK (g := gb559) (o := .cells #[.slice Ao12 y562.length co12, u560001, u560002] 101 (0, 0)) (Zu BK559.out) hg (Kd.R_ne HO_560001.out BK559.out (by decide)))
         replace HO564 := Aside0.mk (Kd.R_after (ok := (fun k_ => some k_ ≠ (u560002 : Value).ownBlock)) (by (with_reducible repeat (first | apply Kd.R_alloc | apply Kd.R_drewN | apply Kd.R_drew)); exact Kd.R_mono HO564.out (fun _ hk => ⟨hk.2, hk.1⟩)) hg hat)
         replace HB := Aside0.mk (hb)
         clear HO_560001
         clear ho hb hg hat
         obtain ⟨Ao17, co17, eo17⟩ := Kd.R_slice HO568.out
         (first | subst eo17 | (injection eo17 with f1_ f2_ f3_; have f4_ := f1_.symm; have f5_ := f3_.symm; clear f1_ f2_ f3_; subst f4_; subst f5_))
         refine hK.out _ _ ⟨(Qai BK559.out 0).trans rfl, (Qai BK559.out 1).trans rfl, (Qai BK559.out 2).trans rfl, ((HB.out.cell (World.block_lt_of_cell? w _ hw565_0)).trans hw565_0), ((HB.out.cell (World.block_lt_of_cell? w _ hw565_1)).trans hw565_1), ((HB.out.cell (World.block_lt_of_cell? w _ hw565_2)).trans hw565_2), ((HB.out.cell (World.block_lt_of_cell? w _ hw565_3)).trans hw565_3), ((HB.out.cell (World.block_lt_of_cell? w _ hw565_4)).trans hw565_4)⟩ (fun hHeld => ?_)
         clear hK K
         refine norm_ (a' := ?_) ?_ ?_
         rotate_left
         ·show Act.put _ (some 46) _ = _
          simp only [Act.put, Zj, Zk, Zm, i64_w, i32_w]
          rfl
         refine pure_ (i := 9) (N := some 47) (v := ?_) (a' := ?_) #[T, T, T, T, T, T, T, T, T, T, F] rfl rfl (any_of HT_.out (by kernel_rfl)) (fun _ _ _ h => h) (Or.inl ⟨by rfl, ?_⟩) ?_ ?_
         rotate_left
         ·intro w'
          go_simp
          with_reducible rfl
         rotate_left
         ·simp only [Act.put, Zj, Zk, Zm, i64_w, i32_w]
          rfl
         refine last_ (i := 10) (N := none) #[T, T, T, T, T, T, T, T, T, T, T] rfl rfl (one_of HT_.out (by kernel_rfl)) (by decide) (fun K hK => ?_)
         have hs18 : w16.cell? ⟨gb559, 1, none⟩ = some (u560001) := (Qai BK559.out 1).trans rfl
         have hfs18 := Qah BK559.out 1
         refine skip_ (w1 := ?_) (by rfl) rfl ?_ ?_
         rotate_left
         ·go_simp
          rfl
         refine hK.out _ _ ?_
         clear hK K
         refine done_ (QbN HT_.out (by kernel_rfl)) ?_
         try go_wp2
         have n0_ : Aside0 (Kd.R (Kd.int .i64) 3 (w16.setCell ⟨gb559, 1, none⟩ (.slice Ao17 y566.length co17)) w.heap.size (fun k_ => some k_ ≠ (.slice Ao12 y562.length co12 : Value).ownBlock ∧ some k_ ≠ (.slice Ao17 y566.length co17 : Value).ownBlock) u560002 x560002_1) := ⟨by (with_reducible repeat (first | apply Kd.R_alloc | apply Kd.R_drewN | apply Kd.R_drew)); exact Kd.R_mono (Zf gb559 1 (Kd.R_types HO_560002.out BK559.out (by decide)) (.slice Ao17 y566.length co17)) (fun _ hk => ⟨hk.1.1, hk.1.2⟩)⟩
         have n1_ : Aside0 (Kd.R (Kd.int .i64) 3 (w16.setCell ⟨gb559, 1, none⟩ (.slice Ao17 y566.length co17)) w.heap.size (fun k_ => some k_ ≠ (u560002 : Value).ownBlock ∧ some k_ ≠ (.slice Ao17 y566.length co17 : Value).ownBlock) (.slice Ao12 y562.length co12) y562) := ⟨by (with_reducible repeat (first | apply Kd.R_alloc | apply Kd.R_drewN | apply Kd.R_drew)); exact Kd.R_mono (Zf gb559 1 (Kd.R_types HO564.out BK559.out (by decide)) (.slice Ao17 y566.length co17)) (fun _ hk => ⟨hk.1.1, hk.1.2⟩)⟩
         have n2_ : Aside0 (Kd.R (Kd.int .i64) 3 (w16.setCell ⟨gb559, 1, none⟩ (.slice Ao17 y566.length co17)) w.heap.size (fun k_ => some k_ ≠ (u560002 : Value).ownBlock ∧ some k_ ≠ (.slice Ao12 y562.length co12 : Value).ownBlock) (.slice Ao17 y566.length co17) y566) := ⟨by (with_reducible repeat (first | apply Kd.R_alloc | apply Kd.R_drewN | apply Kd.R_drew)); exact Kd.R_mono (Zf gb559 1 (Kd.R_types HO568.out BK559.out (by decide)) (.slice Ao17 y566.length co17)) (fun _ hk => ⟨hk.1.1, hk.1.2⟩)⟩
         have n3_ : Aside0 ((w16.setCell ⟨gb559, 1, none⟩ (.slice Ao17 y566.length co17)).heap[gb559]? = some (.cells #[.slice Ao12 y562.length co12, .slice Ao17 y566.length co17, u560002] 101 (0, 0))) := ⟨Zp2 BK559.out⟩
         have n4_ : Aside0 (Below w.heap.size w (w16.setCell ⟨gb559, 1, none⟩ (.slice Ao17 y566.length co17))) := ⟨Zc1 GE559.out⟩
         (try clear HO_560002)
         (try clear HO564)
         (try clear HO568)
         (try clear BK559)
         (try clear HB)
         generalize (w16.setCell ⟨gb559, 1, none⟩ (.slice Ao17 y566.length co17)) = w19 at n0_ n1_ n2_ n3_ n4_ ⊢
         have HO_560002 := n0_
         have HO564 := n1_
         have HO568 := n2_
         have BK559 := n3_
         have HB := n4_
         clear n0_ n1_ n2_ n3_ n4_
         replace HO_560002 := Aside0.mk (Kd.R_drew HO_560002.out)
         replace HO564 := Aside0.mk (Kd.R_drew HO564.out)
         replace HO568 := Aside0.mk (Kd.R_drew HO568.out)
         replace BK559 := Aside0.mk (Qad BK559.out)
         replace HB := Aside0.mk (Qag HB.out)
         have p569 : 0 ≤ (x9_1 : Int) := Ze
         have q569 : x9_1 < (l0.length : Int) := Ze
         obtain ⟨ad569, e569, hx569_0, hx569_1, hx569_2, hx569_3, hx569_4⟩ := Qbn HR0.out x9_1 p569 q569
         have hw569_4 := hx569_4
         have hw569_3 := hx569_3
         have hw569_2 := hx569_2
         have hw569_1 := hx569_1
         have hw569_0 := hx569_0
         obtain rfl : ad560 = ad569 := (by injection e569)
         replace hx569_0 := Zx HB.out hx569_0
         replace hx569_1 := Zx HB.out hx569_1
         replace hx569_2 := Zx HB.out hx569_2
         replace hx569_3 := Zx HB.out hx569_3
         replace hx569_4 := Zx HB.out hx569_4
         replace p569 := eq_true p569
         replace q569 := eq_true q569
         refine start_ (n := 11) (S := fun w' => w'.cell? ⟨gb559, 0, none⟩ = some (.slice Ao12 y562.length co12) ∧ w'.cell? ⟨gb559, 1, none⟩ = some (.slice Ao17 y566.length co17) ∧ w'.cell? ⟨gb559, 2, none⟩ = some (u560002) ∧ w'.cell? (ad560.add ((x9_1).toNat * 5)) = some (.string ((Qas l0 x9_1).f0.f0)) ∧ w'.cell? ⟨(ad560.add ((x9_1).toNat * 5)).block, (ad560.add ((x9_1).toNat * 5)).off + 1, none⟩ = some (.string ((Qas l0 x9_1).f0.f1)) ∧ w'.cell? ⟨(ad560.add ((x9_1).toNat * 5)).block, (ad560.add ((x9_1).toNat * 5)).off + 2, none⟩ = some (.int .i64 ((Qas l0 x9_1).f1)) ∧ w'.cell? ⟨(ad560.add ((x9_1).toNat * 5)).block, (ad560.add ((x9_1).toNat * 5)).off + 3, none⟩ = some (.int .i64 ((Qas l0 x9_1).f2)) ∧ w'.cell? ⟨(ad560.add ((x9_1).toNat * 5)).block, (ad560.add ((x9_1).toNat * 5)).off + 4, none⟩ = some (.int .i64 ((Qas l0 x9_1).f3))) (ds := [10]) #[F, F, F, F, F, F, F, F, F, F, F] (by kernel_rfl) rfl rfl ⟨(Qai BK559.out 0).trans rfl, (Qai BK559.out 1).trans rfl, (Qai BK559.out 2).trans rfl, ((HB.out.cell (World.block_lt_of_cell? w _ hw569_0)).trans hw569_0), ((HB.out.cell (World.block_lt_of_cell? w _ hw569_1)).trans hw569_1), ((HB.out.cell (World.block_lt_of_cell? w _ hw569_2)).trans hw569_2), ((HB.out.cell (World.block_lt_of_cell? w _ hw569_3)).trans hw569_3), ((HB.out.cell (World.block_lt_of_cell? w _ hw569_4)).trans hw569_4)⟩ (fun hHeld => ?_); refine QbH Qaj.tab8 Qaj.bits8 (fun HT_ HW_ => ?_)
         generalize w19.drew = w20 at HO_560002 HO564 HO568 BK559 HB hx569_0 hx569_1 hx569_2 hx569_3 hx569_4 hHeld ⊢
         refine pure_ (i := 0) (N := some 48) (v := ?_) (a' := ?_) #[T, F, F, F, F, F, F, F, F, F, F] rfl rfl (any_of HT_.out (by kernel_rfl)) (fun _ _ _ h => h) (Or.inl ⟨by rfl, ?_⟩) ?_ ?_
         rotate_left
         ·intro w'
          go_simp
          with_reducible rfl
         rotate_left
         ·simp only [Act.put, Zj, Zk, Zm, i64_w, i32_w]
          rfl
         refine pure_ (i := 2) (N := some 50) (v := ?_) (a' := ?_) #[T, F, T, F, F, F, F, F, F, F, F] rfl rfl (any_of HT_.out (by kernel_rfl)) (fun _ _ _ h => h) (Or.inl ⟨by rfl, ?_⟩) ?_ ?_
         rotate_left
         ·intro w'
          go_simp
          with_reducible rfl
         rotate_left
         ·simp only [Act.put, Zj, Zk, Zm, i64_w, i32_w]
          rfl
         refine pure_ (i := 3) (N := some 51) (v := ?_) (a' := ?_) #[T, F, T, T, F, F, F, F, F, F, F] rfl rfl (any_of HT_.out (by kernel_rfl)) (fun _ _ _ h => h) (Or.inl ⟨by rfl, ?_⟩) ?_ ?_
         rotate_left
         ·intro w'
          go_simp
          with_reducible rfl
         rotate_left
         ·simp only [Act.put, Zj, Zk, Zm, i64_w, i32_w]
          rfl
         refine pure_ (i := 4) (N := some 52) (v := ?_) (a' := ?_) #[T, F, T, T, T, F, F, F, F, F, F] rfl rfl (any_of HT_.out (by kernel_rfl)) (fun _ _ _ h => h) (Or.inl ⟨by rfl, ?_⟩) ?_ ?_
         rotate_left
         ·intro w'
          go_simp
          with_reducible rfl
         rotate_left
         ·simp only [Act.put, Zj, Zk, Zm, i64_w, i32_w]
          rfl
         refine pure_ (i := 5) (N := some 53) (v := ?_) (a' := ?_) #[T, F, T, T, T, T, F, F, F, F, F] rfl rfl (any_of HT_.out (by kernel_rfl)) (fun _ _ _ h => h) (Or.inl ⟨by rfl, ?_⟩) ?_ ?_
         rotate_left
         ·intro w'
          go_simp
          with_reducible rfl
         rotate_left
         ·simp only [Act.put, Zj, Zk, Zm, i64_w, i32_w]
          rfl
         refine take_ (i := 1) (N := some 49) (v := ?_) (a' := ?_) #[T, T, T, T, T, T, F, F, F, F, F] rfl rfl (Qbl HT_.out HW_.out (by kernel_rfl)) (fun _ _ _ h => h) (Or.inl ⟨by rfl, ?_⟩) hHeld ?_ ?_
         rotate_left
         ·rintro w' ⟨s0, s1, s2, s3, s4, s5, s6, s7⟩
          go_simp
          with_reducible rfl
         rotate_left
         ·simp only [Act.put, Zj, Zk, Zm, i64_w, i32_w]
          rfl
         refine take_ (i := 6) (N := some 54) (v := ?_) (a' := ?_) #[T, T, T, T, T, T, T, F, F, F, F] rfl rfl (Qbl HT_.out HW_.out (by kernel_rfl)) (fun _ _ _ h => h) (Or.inl ⟨by rfl, ?_⟩) hHeld ?_ ?_
         rotate_left
         ·rintro w' ⟨s0, s1, s2, s3, s4, s5, s6, s7⟩
          go_simp
          with_reducible rfl
         rotate_left
         ·simp only [Act.put, Zj, Zk, Zm, i64_w, i32_w]
          rfl
         refine one_ (i := 7) (N := some 55) #[T, T, T, T, T, T, T, T, F, F, F] rfl rfl (one_of HT_.out (by kernel_rfl)) (by decide) (fun K hK => ?_)
         refine value_ (w1 := ?_) (v := ?_) (by rfl) rfl ?_ ?_
         rotate_left 2
         ·go_simp
          constructor
          ·rfl
          rfl
         refine hK.out _ _ ⟨(Qai (Qab BK559.out _) 0).trans rfl, (Qai (Qab BK559.out _) 1).trans rfl, (Qai (Qab BK559.out _) 2).trans rfl, (World.cell?_alloc_lt _ _ _ (World.block_lt_of_cell? _ _ (((HB.out.cell (World.block_lt_of_cell? w _ hw569_0)).trans hw569_0)))).trans (((HB.out.cell (World.block_lt_of_cell? w _ hw569_0)).trans hw569_0)), (World.cell?_alloc_lt _ _ _ (World.block_lt_of_cell? _ _ (((HB.out.cell (World.block_lt_of_cell? w _ hw569_1)).trans hw569_1)))).trans (((HB.out.cell (World.block_lt_of_cell? w _ hw569_1)).trans hw569_1)), (World.cell?_alloc_lt _ _ _ (World.block_lt_of_cell? _ _ (((HB.out.cell (World.block_lt_of_cell? w _ hw569_2)).trans hw569_2)))).trans (((HB.out.cell (World.block_lt_of_cell? w _ hw569_2)).trans hw569_2)), (World.cell?_alloc_lt _ _ _ (World.block_lt_of_cell? _ _ (((HB.out.cell (World.block_lt_of_cell? w _ hw569_3)).trans hw569_3)))).trans (((HB.out.cell (World.block_lt_of_cell? w _ hw569_3)).trans hw569_3)), (World.cell?_alloc_lt _ _ _ (World.block_lt_of_cell? _ _ (((HB.out.cell (World.block_lt_of_cell? w _ hw569_4)).trans hw569_4)))).trans (((HB.out.cell (World.block_lt_of_cell? w _ hw569_4)).trans hw569_4))⟩ (fun hHeld => ?_)
         clear hK K
         refine norm_ (a' := ?_) ?_ ?_
         rotate_left
         ·show Act.put _ (some 55) _ = _
          simp only [Act.put, Zj, Zk, Zm, i64_w, i32_w]
          rfl
         refine one_ (i := 8) (N := some 56) #[T, T, T, T, T, T, T, T, T, F, F] rfl rfl (one_of HT_.out (by kernel_rfl)) (by decide) (fun K hK => ?_)
         refine Kd.R_append_step (Kd.int .i64) (w0 := w) w.heap.size (by rfl) (.tmp 49) (.tmp 55) 63 3 (.int .i64 0) 8 rfl Try.underlying63 info3 rfl (by decide) (by omega) u560002 x560002_1 ((Qas l0 x9_1).f3) [.int .i64 ((Qas l0 x9_1).f3)] (fun k_ => some k_ ≠ (.slice Ao12 y562.length co12 : Value).ownBlock ∧ some k_ ≠ (.slice Ao17 y566.length co17 : Value).ownBlock) (fun _ => False) rfl rfl ?aP (fun _ hk => hk.elim) ?aF ?aO ?aB ?aS ?aL ?_
         (case aP => exact rfl)
         (case aB => exact (Zc1 GE559.out))
         (case aF => exact (fun k_ hk => ⟨Kd.fresh' (Kd.R_lt (Zr HO564.out)) k_ hk, Kd.fresh' (Kd.R_lt (Zr HO568.out)) k_ hk⟩))
         (case aO => exact (Zr HO_560002.out))
         (case aS => exact (Qam (Zc1 GE559.out)))
         (case aL => have := LMc9.out; omega)
         intro v571 w21 ho hb hg hat
         rw [← Ny570.out] at ho
         have HO572 := Aside0.mk (ho)
         replace BK559 := Aside0.mk (QaK (g := gb559) (o := .cells #[.slice Ao12 y562.length co12, .slice Ao17 y566.length co17, u560002] 101 (0, 0)) (Zu BK559.out) hg (Kd.R_ne HO_560002.out BK559.out (by decide)))
         replace HO564 := Aside0.mk (Kd.R_after (ok := (fun k_ => some k_ ≠ (.slice Ao17 y566.length co17 : Value).ownBlock)) (by (with_reducible repeat (first | apply Kd.R_alloc | apply Kd.R_drewN | apply Kd.R_drew)); exact Kd.R_mono HO564.out (fun _ hk => ⟨hk.2, hk.1⟩)) hg hat)
         replace HO568 := Aside0.mk (Kd.R_after (ok := (fun k_ => some k_ ≠ (.slice Ao12 y562.length co12 : Value).ownBlock)) (by (with_reducible repeat (first | apply Kd.R_alloc | apply Kd.R_drewN | apply Kd.R_drew)); exact Kd.R_mono HO568.out (fun _ hk => ⟨hk.2, hk.1⟩)) hg hat)
         replace HB := Aside0.mk (hb)
         clear HO_560002
         clear ho hb hg hat
         obtain ⟨Ao22, co22, eo22⟩ := Kd.R_slice HO572.out
         (first | subst eo22 | (injection eo22 with f1_ f2_ f3_; have f4_ := f1_.symm; have f5_ := f3_.symm; clear f1_ f2_ f3_; subst f4_; subst f5_))
         refine hK.out _ _ ⟨(Qai BK559.out 0).trans rfl, (Qai BK559.out 1).trans rfl, (Qai BK559.out 2).trans rfl, ((HB.out.cell (World.block_lt_of_cell? w _ hw569_0)).trans hw569_0), ((HB.out.cell (World.block_lt_of_cell? w _ hw569_1)).trans hw569_1), ((HB.out.cell (World.block_lt_of_cell? w _ hw569_2)).trans hw569_2), ((HB.out.cell (World.block_lt_of_cell? w _ hw569_3)).trans hw569_3), ((HB.out.cell (World.block_lt_of_cell? w _ hw569_4)).trans hw569_4)⟩ (fun hHeld => ?_)
         clear hK K
         refine norm_ (a' := ?_) ?_ ?_
         rotate_left
         ·show Act.put _ (some 56) _ = _
          simp only [Act.put, Zj, Zk, Zm, i64_w, i32_w]
          rfl
         refine pure_ (i := 9) (N := some 57) (v := ?_) (a' := ?_) #[T, T, T, T, T, T, T, T, T, T, F] rfl rfl (any_of HT_.out (by kernel_rfl)) (fun _ _ _ h => h) (Or.inl ⟨by rfl, ?_⟩) ?_ ?_
         rotate_left
         ·intro w'
          go_simp
          with_reducible rfl
         rotate_left
         ·simp only [Act.put, Zj, Zk, Zm, i64_w, i32_w]
          rfl
         refine last_ (i := 10) (N := none) #[T, T, T, T, T, T, T, T, T, T, T] rfl rfl (one_of HT_.out (by kernel_rfl)) (by decide) (fun K hK => ?_)
         have hs23 : w21.cell? ⟨gb559, 2, none⟩ = some (u560002) := (Qai BK559.out 2).trans rfl
         have hfs23 := Qah BK559.out 2
         refine skip_ (w1 := ?_) (by rfl) rfl ?_ ?_
         rotate_left
         ·go_simp
          rfl
         refine hK.out _ _ ?_
         clear hK K
         refine done_ (QbN HT_.out (by kernel_rfl)) ?_
         try go_wp2
         go_roundg k1
         case measure => have := HK1.out; omega
         case rel => exact ⟨(wrap64 (x9_1 + 1)), (y562), (y566), (y570), (.slice Ao12 y562.length co12), (.slice Ao17 y566.length co17), (.slice Ao22 y570.length co22), (Zs2), H', ⟨by have := HK1.out; omega⟩, ⟨by (with_reducible repeat (first | apply Kd.R_alloc | apply Kd.R_drewN | apply Kd.R_drew)); exact Kd.R_mono (Zf gb559 2 (Kd.R_types HO564.out BK559.out (by decide)) (.slice Ao22 y570.length co22)) (fun _ hk => ⟨hk.1.1, hk.1.2⟩)⟩, ⟨by (with_reducible repeat (first | apply Kd.R_alloc | apply Kd.R_drewN | apply Kd.R_drew)); exact Kd.R_mono (Zf gb559 2 (Kd.R_types HO568.out BK559.out (by decide)) (.slice Ao22 y570.length co22)) (fun _ hk => ⟨hk.1.1, hk.1.2⟩)⟩, ⟨by (with_reducible repeat (first | apply Kd.R_alloc | apply Kd.R_drewN | apply Kd.R_drew)); exact Kd.R_mono (Zf gb559 2 (Kd.R_types HO572.out BK559.out (by decide)) (.slice Ao22 y570.length co22)) (fun _ hk => ⟨hk.1.1, hk.1.2⟩)⟩, ⟨Zp2 BK559.out⟩, ⟨Zc1 GE559.out⟩⟩
        rw [if_neg c9] at H
        exact absurd H (by simp)
       rw [if_neg c8] at H
       exact absurd H (by simp)
      rw [if_neg c7] at H
      exact absurd H (by simp)
     rw [if_neg c6] at H
     have c6b0 : (((Qas l0 x9_1).f0.f0).toList == a1.toList) = F := beq_eq_false_iff_ne.mpr c6
     have c6b1 : (((Qas l0 x9_1).f0.f0).toList != a1.toList) = T := bne_iff_ne.mpr c6
     (try simp only [c6b0, c6b1])
     have H' := Aside0.mk H
     clear H
     go_wp2
     go_roundg k1
     case measure => have := HK1.out; omega
     case rel => exact ⟨(wrap64 (x9_1 + 1)), (x560000_1), (x560001_1), (x560002_1), (u560000), (u560001), (u560002), (Zs2), H', ⟨by have := HK1.out; omega⟩, ⟨Zr HO_560000.out⟩, ⟨Zr HO_560001.out⟩, ⟨Zr HO_560002.out⟩, ⟨Zu BK559.out⟩, ⟨Zc1 GE559.out⟩⟩
    rw [if_neg c5] at H
    exact absurd H (by simp)
   rw [if_neg c4] at H
   have c4b0 : decide (x9_1 < (l0.length : Int)) = F := decide_eq_false c4
   clear c4
   (try simp only [c4b0])
   have H' := Aside0.mk H
   clear H
   go_wp2_with (first | ((with_reducible refine QaJ (N := 10) rfl ?_); refine Zbx (N := 10) (cs := #[.int .i64 0, .int .i64 0, .int .i64 0]) (t := 102) ?_; intro gb573 hg w24 hbox hb; have BK573 := Aside0.mk (hbox); have GW573 := Aside0.mk (Zt w hg (Zc1 GE559.out)); have GE573 := GW573; have NB559_573 := Aside0.mk (Zn hg BK559.out); have NB573_559 := Aside0.mk NB559_573.out.symm; replace HO_560000 := Aside0.mk (Kd.R_below (Zr HO_560000.out) hb); replace HO_560001 := Aside0.mk (Kd.R_below (Zr HO_560001.out) hb); replace HO_560002 := Aside0.mk (Kd.R_below (Zr HO_560002.out) hb); replace BK559 := Aside0.mk (Zi BK559.out hb); replace HB := Aside0.mk (Qap (Zc1 GE559.out) hb); clear hb hbox hg))
   go_loopg [11] k1 (fun kq v11 w' => ∃ (x11_2 : Int) (x574000_2 : Int) (x574001_2 : Int) (x574002_2 : Int), v11 = .int .i64 x11_2 ∧ Aside0 (Qaj.l1 kq x11_2 x560000_1 x560001_1 x560002_1 x574000_2 x574001_2 x574002_2 = some (r1, r2, r3, r4)) ∧ Aside0 (kq ≤ k1) ∧ Aside0 (Kd.R (Kd.int .i64) 3 w' w.heap.size (fun k_ => some k_ ≠ (u560001 : Value).ownBlock ∧ some k_ ≠ (u560002 : Value).ownBlock) u560000 x560000_1) ∧ Aside0 (Kd.R (Kd.int .i64) 3 w' w.heap.size (fun k_ => some k_ ≠ (u560000 : Value).ownBlock ∧ some k_ ≠ (u560002 : Value).ownBlock) u560001 x560001_1) ∧ Aside0 (Kd.R (Kd.int .i64) 3 w' w.heap.size (fun k_ => some k_ ≠ (u560000 : Value).ownBlock ∧ some k_ ≠ (u560001 : Value).ownBlock) u560002 x560002_1) ∧ Aside0 (w'.heap[gb559]? = some (.cells #[u560000, u560001, u560002] 101 (0, 0))) ∧ Aside0 (w'.heap[gb573]? = some (.cells #[.int .i64 x574000_2, .int .i64 x574001_2, .int .i64 x574002_2] 102 (0, 0))) ∧ Aside0 (Below w.heap.size w w'))
   case atStart => exact ⟨(0), (0), (0), (0), (Zs2), H', ⟨Nat.le_refl _⟩, ⟨Zr HO_560000.out⟩, ⟨Zr HO_560001.out⟩, ⟨Zr HO_560002.out⟩, ⟨Zu BK559.out⟩, ⟨Zu BK573.out⟩, ⟨Zc2 GE559.out GE573.out⟩⟩
   case round =>
    clear H'
    try clear p2
    try clear c4
    try clear c4b0
    try clear c5
    try clear c5b0
    try clear p5
    try clear q5
    try clear hx5
    try clear c6
    try clear c6b0
    try clear c6b1
    try clear p6
    try clear c7
    try clear c8
    try clear c9
    try clear hx560_0
    try clear hx560_1
    try clear hx560_2
    try clear hx560_3
    try clear hx560_4
    try clear hx561_0
    try clear hx561_1
    try clear hx561_2
    try clear hx561_3
    try clear hx561_4
    try clear hx565_0
    try clear hx565_1
    try clear hx565_2
    try clear hx565_3
    try clear hx565_4
    try clear hx569_0
    try clear hx569_1
    try clear hx569_2
    try clear hx569_3
    try clear hx569_4
    try clear p560
    try clear p561
    try clear p565
    try clear p569
    try clear q560
    try clear q561
    try clear q565
    try clear q569
    obtain ⟨x11_2, x574000_2, x574001_2, x574002_2, rfl, HA, HK2, HO_560000, HO_560001, HO_560002, BK559, BK573, HB⟩ := hrel
    cases gk with
    | zero => exact absurd HA.out (by simp [Qaj.l1])
    | succ k2 =>
     have H := HA.out
     clear HA
     simp only [Qaj.l1] at H
     by_cases c25 : x11_2 < 3
     ·rw [if_pos c25] at H
      have c25b0 : decide (x11_2 < 3) = T := decide_eq_true c25
      clear c25
      (try simp only [c25b0])
      by_cases c26 : x11_2 = 0
      ·rw [if_pos c26] at H
       have c26x := c26
       have c26b0 : (x11_2 == 0) = T := beq_iff_eq.mpr c26
       have c26b1 : (x11_2 != 0) = F := bne_eq_false_iff_eq.mpr c26
       clear c26
       replace H := Option.bind_eq_some_iff.mp H
       obtain ⟨⟨t574, t575⟩, A270, H⟩ := H
       replace H : (if t575 = T then (Qaj.l1 k2 (wrap64 (x11_2 + 1)) x560000_1 x560001_1 x560002_1 t574 x574001_2 x574002_2) else (some (0, 0, 0, 3))) = some (r1, r2, r3, r4) := H
       have A27 := Aside0.mk A270
       clear A270
       have hnb28 := NB559_573.out
       have hnc28 := NB573_559.out
       obtain ⟨hcz29_0, hfz29_0⟩ := Zy (v := (u560000)) BK559.out 0
       obtain ⟨hcz29_1, hfz29_1⟩ := Zy (v := (u560001)) BK559.out 1
       obtain ⟨hcz29_2, hfz29_2⟩ := Zy (v := (u560002)) BK559.out 2
       obtain ⟨Ao30, co30, eo30⟩ := Kd.R_slice HO_560000.out
       subst eo30
       go_upto_if 70 with (first | ((with_reducible refine Qay (f := 54) rfl ?_); refine goesL_ (some 66) rfl rfl Try.func54 (by kernel_rfl) rfl #[.slice Ao30 x560000_1.length co30] rfl (Zl) ?_; (with_reducible refine (QaE.calls k2 _ _ x560000_1 t574 t575 _ ?side1 ?side2 A27.out).mono ?_); (case side1 => exact Zv (Kd.R_reads' HO_560000.out).2.2); (case side2 => exact (Kd.R_reads' HO_560000.out).2.1); rintro e w' ⟨rfl, ⟨nd, rfl⟩⟩; refine ⟨_, rfl, ?_⟩))
       (try simp only [Act.put, Zj, Zk, Zm])
       by_cases c31 : t575 = T
       ·subst c31
        have H1 : (Qaj.l1 k2 (wrap64 (x11_2 + 1)) x560000_1 x560001_1 x560002_1 t574 x574001_2 x574002_2) = some (r1, r2, r3, r4) := by rw [if_pos rfl] at H; exact H
        clear H
        have H := H1
        clear H1
        have H' := Aside0.mk H
        clear H
        have hnb32 := NB573_559.out
        have hnc32 := NB559_573.out
        obtain ⟨hcz33_0, hfz33_0⟩ := Zy (v := (.int .i64 x574000_2)) BK573.out 0
        obtain ⟨hcz33_1, hfz33_1⟩ := Zy (v := (.int .i64 x574001_2)) BK573.out 1
        obtain ⟨hcz33_2, hfz33_2⟩ := Zy (v := (.int .i64 x574002_2)) BK573.out 2
        go_wp2
        go_roundg k2
        case measure => have := HK1.out; have := HK2.out; omega
        case rel => exact ⟨(wrap64 (x11_2 + 1)), (t574), (x574001_2), (x574002_2), (Zs2), H', ⟨by have := HK1.out; have := HK2.out; omega⟩, ⟨by (with_reducible repeat (first | apply Kd.R_alloc | apply Kd.R_drewN | apply Kd.R_drew)); exact Kd.R_mono (Zf gb573 0 (Kd.R_types HO_560000.out BK573.out (by decide)) (.int .i64 t574)) (fun _ hk => ⟨hk.1.1, hk.1.2⟩)⟩, ⟨by (with_reducible repeat (first | apply Kd.R_alloc | apply Kd.R_drewN | apply Kd.R_drew)); exact Kd.R_mono (Zf gb573 0 (Kd.R_types HO_560001.out BK573.out (by decide)) (.int .i64 t574)) (fun _ hk => ⟨hk.1.1, hk.1.2⟩)⟩, ⟨by (with_reducible repeat (first | apply Kd.R_alloc | apply Kd.R_drewN | apply Kd.R_drew)); exact Kd.R_mono (Zf gb573 0 (Kd.R_types HO_560002.out BK573.out (by decide)) (.int .i64 t574)) (fun _ hk => ⟨hk.1.1, hk.1.2⟩)⟩, ⟨Zg1 BK559.out NB559_573.out⟩, ⟨Zp2 BK573.out⟩, ⟨Zc2 GE559.out GE573.out⟩⟩
       replace c31 := Bool.eq_false_iff.mpr c31
       subst c31
       have H1 : (some (0, 0, 0, 3)) = some (r1, r2, r3, r4) := by rw [if_neg (show ¬ (F = T) by decide)] at H; exact H
       clear H
       have H := H1
       clear H1
       simp only [Option.some.injEq, Prod.mk.injEq] at H
       obtain ⟨rfl, rfl, rfl, rfl⟩ := H
       go_wp2
       refine bodyPost_ret (QbB (rs := [.tmp 4, .tmp 5, .tmp 6, .tmp 7]) rfl (by simp) (.tmp (.tmp (.tmp (.tmp .nil))))) rfl ?_
       exact ⟨Zq, Zc2 GE559.out GE573.out⟩
      rw [if_neg c26] at H
      have c26b0 : (x11_2 == 0) = F := beq_eq_false_iff_ne.mpr c26
      have c26b1 : (x11_2 != 0) = T := bne_iff_ne.mpr c26
      by_cases c34 : x11_2 = 1
      ·rw [if_pos c34] at H
       have c34x := c34
       have c34b0 : (x11_2 == 1) = T := beq_iff_eq.mpr c34
       have c34b1 : (x11_2 != 1) = F := bne_eq_false_iff_eq.mpr c34
       clear c34
       replace H := Option.bind_eq_some_iff.mp H
       obtain ⟨⟨t576, t577⟩, A350, H⟩ := H
       replace H : (if t577 = T then (Qaj.l1 k2 (wrap64 (x11_2 + 1)) x560000_1 x560001_1 x560002_1 x574000_2 t576 x574002_2) else (some (0, 0, 0, 3))) = some (r1, r2, r3, r4) := H
       have A35 := Aside0.mk A350
       clear A350
       have hnb36 := NB559_573.out
       have hnc36 := NB573_559.out
       obtain ⟨hcz37_0, hfz37_0⟩ := Zy (v := (u560000)) BK559.out 0
       obtain ⟨hcz37_1, hfz37_1⟩ := Zy (v := (u560001)) BK559.out 1
       obtain ⟨hcz37_2, hfz37_2⟩ := Zy (v := (u560002)) BK559.out 2
       obtain ⟨Ao38, co38, eo38⟩ := Kd.R_slice HO_560001.out
       subst eo38
       go_upto_if 70 with (first | ((with_reducible refine Qay (f := 54) rfl ?_); refine goesL_ (some 66) rfl rfl Try.func54 (by kernel_rfl) rfl #[.slice Ao38 x560001_1.length co38] rfl (Zl) ?_; (with_reducible refine (QaE.calls k2 _ _ x560001_1 t576 t577 _ ?side1 ?side2 A35.out).mono ?_); (case side1 => exact Zv (Kd.R_reads' HO_560001.out).2.2); (case side2 => exact (Kd.R_reads' HO_560001.out).2.1); rintro e w' ⟨rfl, ⟨nd, rfl⟩⟩; refine ⟨_, rfl, ?_⟩))
       (try simp only [Act.put, Zj, Zk, Zm])
       by_cases c39 : t577 = T
       ·subst c39
        have H1 : (Qaj.l1 k2 (wrap64 (x11_2 + 1)) x560000_1 x560001_1 x560002_1 x574000_2 t576 x574002_2) = some (r1, r2, r3, r4) := by rw [if_pos rfl] at H; exact H
        clear H
        have H := H1
        clear H1
        have H' := Aside0.mk H
        clear H
        have hnb40 := NB573_559.out
        have hnc40 := NB559_573.out
        obtain ⟨hcz41_0, hfz41_0⟩ := Zy (v := (.int .i64 x574000_2)) BK573.out 0
        obtain ⟨hcz41_1, hfz41_1⟩ := Zy (v := (.int .i64 x574001_2)) BK573.out 1
        obtain ⟨hcz41_2, hfz41_2⟩ := Zy (v := (.int .i64 x574002_2)) BK573.out 2
        go_wp2
        go_roundg k2
        case measure => have := HK1.out; have := HK2.out; omega
        case rel => exact ⟨(wrap64 (x11_2 + 1)), (x574000_2), (t576), (x574002_2), (Zs2), H', ⟨by have := HK1.out; have := HK2.out; omega⟩, ⟨by (with_reducible repeat (first | apply Kd.R_alloc | apply Kd.R_drewN | apply Kd.R_drew)); exact Kd.R_mono (Zf gb573 1 (Kd.R_types HO_560000.out BK573.out (by decide)) (.int .i64 t576)) (fun _ hk => ⟨hk.1.1, hk.1.2⟩)⟩, ⟨by (with_reducible repeat (first | apply Kd.R_alloc | apply Kd.R_drewN | apply Kd.R_drew)); exact Kd.R_mono (Zf gb573 1 (Kd.R_types HO_560001.out BK573.out (by decide)) (.int .i64 t576)) (fun _ hk => ⟨hk.1.1, hk.1.2⟩)⟩, ⟨by (with_reducible repeat (first | apply Kd.R_alloc | apply Kd.R_drewN | apply Kd.R_drew)); exact Kd.R_mono (Zf gb573 1 (Kd.R_types HO_560002.out BK573.out (by decide)) (.int .i64 t576)) (fun _ hk => ⟨hk.1.1, hk.1.2⟩)⟩, ⟨Zg1 BK559.out NB559_573.out⟩, ⟨Zp2 BK573.out⟩, ⟨Zc2 GE559.out GE573.out⟩⟩
       replace c39 := Bool.eq_false_iff.mpr c39
       subst c39
       have H1 : (some (0, 0, 0, 3)) = some (r1, r2, r3, r4) := by rw [if_neg (show ¬ (F = T) by decide)] at H; exact H
       clear H
       have H := H1
       clear H1
       simp only [Option.some.injEq, Prod.mk.injEq] at H
       obtain ⟨rfl, rfl, rfl, rfl⟩ := H
       go_wp2
       refine bodyPost_ret (QbB (rs := [.tmp 4, .tmp 5, .tmp 6, .tmp 7]) rfl (by simp) (.tmp (.tmp (.tmp (.tmp .nil))))) rfl ?_
       exact ⟨Zq, Zc2 GE559.out GE573.out⟩
      rw [if_neg c34] at H
      have c34b0 : (x11_2 == 1) = F := beq_eq_false_iff_ne.mpr c34
      have c34b1 : (x11_2 != 1) = T := bne_iff_ne.mpr c34
      by_cases c42 : x11_2 = 2
      ·rw [if_pos c42] at H
       have c42x := c42
       have c42b0 : (x11_2 == 2) = T := beq_iff_eq.mpr c42
       have c42b1 : (x11_2 != 2) = F := bne_eq_false_iff_eq.mpr c42
       clear c42
       replace H := Option.bind_eq_some_iff.mp H
       obtain ⟨⟨t578, t579⟩, A430, H⟩ := H
       replace H : (if t579 = T then (Qaj.l1 k2 (wrap64 (x11_2 + 1)) x560000_1 x560001_1 x560002_1 x574000_2 x574001_2 t578) else (some (0, 0, 0, 3))) = some (r1, r2, r3, r4) := H
       have A43 := Aside0.mk A430
       clear A430
       have hnb44 := NB559_573.out
       have hnc44 := NB573_559.out
       obtain ⟨hcz45_0, hfz45_0⟩ := Zy (v := (u560000)) BK559.out 0
       obtain ⟨hcz45_1, hfz45_1⟩ := Zy (v := (u560001)) BK559.out 1
       obtain ⟨hcz45_2, hfz45_2⟩ := Zy (v := (u560002)) BK559.out 2
       obtain ⟨Ao46, co46, eo46⟩ := Kd.R_slice HO_560002.out
       subst eo46
       go_upto_if 70 with (first | ((with_reducible refine Qay (f := 54) rfl ?_); refine goesL_ (some 66) rfl rfl Try.func54 (by kernel_rfl) rfl #[.slice Ao46 x560002_1.length co46] rfl (Zl) ?_; (with_reducible refine (QaE.calls k2 _ _ x560002_1 t578 t579 _ ?side1 ?side2 A43.out).mono ?_); (case side1 => exact Zv (Kd.R_reads' HO_560002.out).2.2); (case side2 => exact (Kd.R_reads' HO_560002.out).2.1); rintro e w' ⟨rfl, ⟨nd, rfl⟩⟩; refine ⟨_, rfl, ?_⟩))
       (try simp only [Act.put, Zj, Zk, Zm])
       by_cases c47 : t579 = T
       ·subst c47
        have H1 : (Qaj.l1 k2 (wrap64 (x11_2 + 1)) x560000_1 x560001_1 x560002_1 x574000_2 x574001_2 t578) = some (r1, r2, r3, r4) := by rw [if_pos rfl] at H; exact H
        clear H
        have H := H1
        clear H1
        have H' := Aside0.mk H
        clear H
        have hnb48 := NB573_559.out
        have hnc48 := NB559_573.out
        obtain ⟨hcz49_0, hfz49_0⟩ := Zy (v := (.int .i64 x574000_2)) BK573.out 0
        obtain ⟨hcz49_1, hfz49_1⟩ := Zy (v := (.int .i64 x574001_2)) BK573.out 1
        obtain ⟨hcz49_2, hfz49_2⟩ := Zy (v := (.int .i64 x574002_2)) BK573.out 2
        go_wp2
        go_roundg k2
        case measure => have := HK1.out; have := HK2.out; omega
        case rel => exact ⟨(wrap64 (x11_2 + 1)), (x574000_2), (x574001_2), (t578), (Zs2), H', ⟨by have := HK1.out; have := HK2.out; omega⟩, ⟨by (with_reducible repeat (first | apply Kd.R_alloc | apply Kd.R_drewN | apply Kd.R_drew)); exact Kd.R_mono (Zf gb573 2 (Kd.R_types HO_560000.out BK573.out (by decide)) (.int .i64 t578)) (fun _ hk => ⟨hk.1.1, hk.1.2⟩)⟩, ⟨by (with_reducible repeat (first | apply Kd.R_alloc | apply Kd.R_drewN | apply Kd.R_drew)); exact Kd.R_mono (Zf gb573 2 (Kd.R_types HO_560001.out BK573.out (by decide)) (.int .i64 t578)) (fun _ hk => ⟨hk.1.1, hk.1.2⟩)⟩, ⟨by (with_reducible repeat (first | apply Kd.R_alloc | apply Kd.R_drewN | apply Kd.R_drew)); exact Kd.R_mono (Zf gb573 2 (Kd.R_types HO_560002.out BK573.out (by decide)) (.int .i64 t578)) (fun _ hk => ⟨hk.1.1, hk.1.2⟩)⟩, ⟨Zg1 BK559.out NB559_573.out⟩, ⟨Zp2 BK573.out⟩, ⟨Zc2 GE559.out GE573.out⟩⟩
       replace c47 := Bool.eq_false_iff.mpr c47
       subst c47
       have H1 : (some (0, 0, 0, 3)) = some (r1, r2, r3, r4) := by rw [if_neg (show ¬ (F = T) by decide)] at H; exact H
       clear H
       have H := H1
       clear H1
       simp only [Option.some.injEq, Prod.mk.injEq] at H
       obtain ⟨rfl, rfl, rfl, rfl⟩ := H
       go_wp2
       refine bodyPost_ret (QbB (rs := [.tmp 4, .tmp 5, .tmp 6, .tmp 7]) rfl (by simp) (.tmp (.tmp (.tmp (.tmp .nil))))) rfl ?_
       exact ⟨Zq, Zc2 GE559.out GE573.out⟩
      rw [if_neg c42] at H
      exact absurd H (by simp)
     rw [if_neg c25] at H
     have c25b0 : decide (x11_2 < 3) = F := decide_eq_false c25
     clear c25
     (try simp only [c25b0])
     simp only [Option.some.injEq, Prod.mk.injEq] at H
     obtain ⟨rfl, rfl, rfl, rfl⟩ := H
     try go_wp2
     replace HO_560000 := Aside0.mk (Kd.R_drew HO_560000.out)
     replace HO_560001 := Aside0.mk (Kd.R_drew HO_560001.out)
     replace HO_560002 := Aside0.mk (Kd.R_drew HO_560002.out)
     replace BK559 := Aside0.mk (Qad BK559.out)
     replace BK573 := Aside0.mk (Qad BK573.out)
     replace HB := Aside0.mk (Qag HB.out)
     refine start_ (n := 10) (S := fun w' => w'.cell? ⟨gb573, 0, none⟩ = some (.int .i64 x574000_2) ∧ w'.cell? ⟨gb573, 1, none⟩ = some (.int .i64 x574001_2) ∧ w'.cell? ⟨gb573, 2, none⟩ = some (.int .i64 x574002_2)) (ds := []) #[F, F, F, F, F, F, F, F, F, F] (by kernel_rfl) rfl rfl ⟨(Qai BK573.out 0).trans rfl, (Qai BK573.out 1).trans rfl, (Qai BK573.out 2).trans rfl⟩ (fun hHeld => ?_); refine QbH Qaj.tab17 Qaj.bits17 (fun HT_ HW_ => ?_)
     generalize wr.drew = w50 at HO_560000 HO_560001 HO_560002 BK559 BK573 HB hHeld ⊢
     refine pure_ (i := 0) (N := some 74) (v := ?_) (a' := ?_) #[T, F, F, F, F, F, F, F, F, F] rfl rfl (any_of HT_.out (by kernel_rfl)) (fun _ _ _ h => h) (Or.inl ⟨by rfl, ?_⟩) ?_ ?_
     rotate_left
     ·intro w'
      go_simp
      with_reducible rfl
     rotate_left
     ·simp only [Act.put, Zj, Zk, Zm, i64_w, i32_w]
      rfl
     refine pure_ (i := 2) (N := some 76) (v := ?_) (a' := ?_) #[T, F, T, F, F, F, F, F, F, F] rfl rfl (any_of HT_.out (by kernel_rfl)) (fun _ _ _ h => h) (Or.inl ⟨by rfl, ?_⟩) ?_ ?_
     rotate_left
     ·intro w'
      go_simp
      with_reducible rfl
     rotate_left
     ·simp only [Act.put, Zj, Zk, Zm, i64_w, i32_w]
      rfl
     refine pure_ (i := 4) (N := some 78) (v := ?_) (a' := ?_) #[T, F, T, F, T, F, F, F, F, F] rfl rfl (any_of HT_.out (by kernel_rfl)) (fun _ _ _ h => h) (Or.inl ⟨by rfl, ?_⟩) ?_ ?_
     rotate_left
     ·intro w'
      go_simp
      with_reducible rfl
     rotate_left
     ·simp only [Act.put, Zj, Zk, Zm, i64_w, i32_w]
      rfl
     refine take_ (i := 1) (N := some 75) (v := ?_) (a' := ?_) #[T, T, T, F, T, F, F, F, F, F] rfl rfl (Qbl HT_.out HW_.out (by kernel_rfl)) (fun _ _ _ h => h) (Or.inl ⟨by rfl, ?_⟩) hHeld ?_ ?_
     rotate_left
     ·rintro w' ⟨s0, s1, s2⟩
      go_simp
      with_reducible rfl
     rotate_left
     ·simp only [Act.put, Zj, Zk, Zm, i64_w, i32_w]
      rfl
     refine pure_ (i := 6) (N := some 4) (v := ?_) (a' := ?_) #[T, T, T, F, T, F, T, F, F, F] rfl rfl (any_of HT_.out (by kernel_rfl)) (fun _ _ _ h => h) (Or.inl ⟨by rfl, ?_⟩) ?_ ?_
     rotate_left
     ·intro w'
      go_simp
      with_reducible rfl
     rotate_left
     ·simp only [Act.put, Zj, Zk, Zm, i64_w, i32_w]
      rfl
     refine take_ (i := 3) (N := some 77) (v := ?_) (a' := ?_) #[T, T, T, T, T, F, T, F, F, F] rfl rfl (Qbl HT_.out HW_.out (by kernel_rfl)) (fun _ _ _ h => h) (Or.inl ⟨by rfl, ?_⟩) hHeld ?_ ?_
     rotate_left
     ·rintro w' ⟨s0, s1, s2⟩
      go_simp
      with_reducible rfl
     rotate_left
     ·simp only [Act.put, Zj, Zk, Zm, i64_w, i32_w]
      rfl
     refine pure_ (i := 7) (N := some 5) (v := ?_) (a' := ?_) #[T, T, T, T, T, F, T, T, F, F] rfl rfl (any_of HT_.out (by kernel_rfl)) (fun _ _ _ h => h) (Or.inl ⟨by rfl, ?_⟩) ?_ ?_
     rotate_left
     ·intro w'
      go_simp
      with_reducible rfl
     rotate_left
     ·simp only [Act.put, Zj, Zk, Zm, i64_w, i32_w]
      rfl
     refine take_ (i := 5) (N := some 79) (v := ?_) (a' := ?_) #[T, T, T, T, T, T, T, T, F, F] rfl rfl (Qbl HT_.out HW_.out (by kernel_rfl)) (fun _ _ _ h => h) (Or.inl ⟨by rfl, ?_⟩) hHeld ?_ ?_
     rotate_left
     ·rintro w' ⟨s0, s1, s2⟩
      go_simp
      with_reducible rfl
     rotate_left
     ·simp only [Act.put, Zj, Zk, Zm, i64_w, i32_w]
      rfl
     refine pure_ (i := 8) (N := some 6) (v := ?_) (a' := ?_) #[T, T, T, T, T, T, T, T, T, F] rfl rfl (any_of HT_.out (by kernel_rfl)) (fun _ _ _ h => h) (Or.inl ⟨by rfl, ?_⟩) ?_ ?_
     rotate_left
     ·intro w'
      go_simp
      with_reducible rfl
     rotate_left
     ·simp only [Act.put, Zj, Zk, Zm, i64_w, i32_w]
      rfl
     refine pure_ (i := 9) (N := some 7) (v := ?_) (a' := ?_) #[T, T, T, T, T, T, T, T, T, T] rfl rfl (any_of HT_.out (by kernel_rfl)) (fun _ _ _ h => h) (Or.inl ⟨by rfl, ?_⟩) ?_ ?_
     rotate_left
     ·intro w'
      go_simp
      with_reducible rfl
     rotate_left
     ·simp only [Act.put, Zj, Zk, Zm, i64_w, i32_w]
      rfl
     refine done_ (QbN HT_.out (by kernel_rfl)) ?_
     try go_wp2
     refine bodyPost_ret (QbB (rs := [.tmp 4, .tmp 5, .tmp 6, .tmp 7]) rfl (by simp) (.tmp (.tmp (.tmp (.tmp .nil))))) rfl ?_
     exact ⟨Zq, Zc2 GE559.out GE573.out⟩
def contangolaw34_CoverCalls.f (k : Nat) (l0 : List (S100)) (a1 : Int) (a2 : ByteArray) : Option (Bool) := (QaC.f k l0).bind fun t586 => ((Qaw.f k t586 a2).bind fun bt589 => ((Qaj.f k l0 a2).bind fun bt593 => ((QaG.f k t586 a1).bind fun t597 => ((Qaz.f k l0 a1).bind fun t600 => ((Qav.f k t597 t600).bind fun t603 => (if t603 = T then (if bt589.1 = bt593.1 then (if bt589.2.1 = bt593.2.1 then (if bt589.2.2.1 = bt593.2.2.1 then (if bt589.2.2.2 = bt593.2.2.2 then ((Qa1.f k).bind fun t604 => (some t604)) else (some F)) else (some F)) else (some F)) else (some F)) else (some F)))))))
theorem contangolaw34_CoverCalls.mono : ∀ a0 a1 a2 k, LeO (contangolaw34_CoverCalls.f k a0 a1 a2) (contangolaw34_CoverCalls.f (k + 1) a0 a1 a2) := by
 intro a0 a1 a2 k
 unfold contangolaw34_CoverCalls.f
 exact ZM7 QaC.mono Qa1.mono Qav.mono Qaz.mono Qaj.mono QaG.mono Qaw.mono
theorem contangolaw34_CoverCalls.calls (k : Nat) (A0 : Option Addr) (c0 : Nat) (l0 : List (S100)) (a1 : Int) (a2 : ByteArray) (r : Bool) (w : World) (hr0 : Kd.C k100 w A0 l0.length l0) (hc0 : l0.length ≤ c0) (h : contangolaw34_CoverCalls.f k l0 a1 a2 = some r) :
  Calls Try.prog 7 #[.slice A0 l0.length c0, .int .i64 a1, .string a2] w fun e w' => e = .returned (.bool r) ∧ Below w.heap.size w w' := by
 have HR0 := Aside0.mk hr0
 have HC0 := Aside0.mk hc0
 clear hr0 hc0
 have HB := Aside0.mk (Below.refl w.heap.size w)
 have H : ((QaC.f k l0).bind fun t586 => ((Qaw.f k t586 a2).bind fun bt589 => ((Qaj.f k l0 a2).bind fun bt593 => ((QaG.f k t586 a1).bind fun t597 => ((Qaz.f k l0 a1).bind fun t600 => ((Qav.f k t597 t600).bind fun t603 => (if t603 = T then (if bt589.1 = bt593.1 then (if bt589.2.1 = bt593.2.1 then (if bt589.2.2.1 = bt593.2.2.1 then (if bt589.2.2.2 = bt593.2.2.2 then ((Qa1.f k).bind fun t604 => (some t604)) else (some F)) else (some F)) else (some F)) else (some F)) else (some F)))))))) = some r := h
 clear h
 replace H := Option.bind_eq_some_iff.mp H
 obtain ⟨t586, A40, H⟩ := H
 replace H : ((Qaw.f k t586 a2).bind fun bt589 => ((Qaj.f k l0 a2).bind fun bt593 => ((QaG.f k t586 a1).bind fun t597 => ((Qaz.f k l0 a1).bind fun t600 => ((Qav.f k t597 t600).bind fun t603 => (if t603 = T then (if bt589.1 = bt593.1 then (if bt589.2.1 = bt593.2.1 then (if bt589.2.2.1 = bt593.2.2.1 then (if bt589.2.2.2 = bt593.2.2.2 then ((Qa1.f k).bind fun t604 => (some t604)) else (some F)) else (some F)) else (some F)) else (some F)) else (some F))))))) = some r := H
 have A4 := Aside0.mk A40
 clear A40
 replace H := Option.bind_eq_some_iff.mp H
 obtain ⟨⟨t589, t590, t591, t592⟩, A50, H⟩ := H
 replace H : ((Qaj.f k l0 a2).bind fun bt593 => ((QaG.f k t586 a1).bind fun t597 => ((Qaz.f k l0 a1).bind fun t600 => ((Qav.f k t597 t600).bind fun t603 => (if t603 = T then (if t589 = bt593.1 then (if t590 = bt593.2.1 then (if t591 = bt593.2.2.1 then (if t592 = bt593.2.2.2 then ((Qa1.f k).bind fun t604 => (some t604)) else (some F)) else (some F)) else (some F)) else (some F)) else (some F)))))) = some r := H
 have A5 := Aside0.mk A50
 clear A50
 replace H := Option.bind_eq_some_iff.mp H
 obtain ⟨⟨t593, t594, t595, t596⟩, A60, H⟩ := H
 replace H : ((QaG.f k t586 a1).bind fun t597 => ((Qaz.f k l0 a1).bind fun t600 => ((Qav.f k t597 t600).bind fun t603 => (if t603 = T then (if t589 = t593 then (if t590 = t594 then (if t591 = t595 then (if t592 = t596 then ((Qa1.f k).bind fun t604 => (some t604)) else (some F)) else (some F)) else (some F)) else (some F)) else (some F))))) = some r := H
 have A6 := Aside0.mk A60
 clear A60
 go_enter Try.func7, Try.ntmps7
 go_upto_region 4 with (first | ((with_reducible refine Qay (f := 22) rfl ?_); refine goesL_ (some 17) rfl rfl Try.func22 (by kernel_rfl) rfl #[.slice A0 l0.length c0] rfl (Zl) ?_; (with_reducible refine (QaC.calls k _ _ l0 t586 _ ?side1 ?side2 A4.out).mono ?_); (case side1 => exact Zv HR0.out); (case side2 => exact HC0.out); rintro e w7 ⟨v587, rfl, ho0, hb⟩; refine ⟨_, rfl, ?_⟩; have HO588 := Aside0.mk (Kd.R_lower ho0 (Qam (Zb))); replace HB := Aside0.mk (Qap (Zb) hb); (try clear hb); (try clear hb2); (try clear hk); (try clear hi); (try clear ho0); obtain ⟨Ao8, co8, eo8⟩ := Kd.R_slice HO588.out; subst eo8) | ((with_reducible refine Qay (f := 23) rfl ?_); refine goesL_ (some 21) rfl rfl Try.func23 (by kernel_rfl) rfl #[.slice Ao8 t586.length co8, .string a2] rfl (Zl) ?_; (with_reducible refine (Qaw.calls k _ _ t586 a2 t589 t590 t591 t592 _ ?side1 ?side2 A5.out).mono ?_); (case side1 => exact Zv (Kd.R_reads' HO588.out).2.2); (case side2 => exact (Kd.R_reads' HO588.out).2.1); rintro e w9 ⟨rfl, hb⟩; refine ⟨_, rfl, ?_⟩; replace HO588 := Aside0.mk (Kd.R_below (Zr HO588.out) hb); replace HB := Aside0.mk (Qap (Zb) hb); (try clear hb); (try clear hb2); (try clear hk); (try clear hi)) | ((with_reducible refine Qay (f := 24) rfl ?_); refine goesL_ (some 29) rfl rfl Try.func24 (by kernel_rfl) rfl #[.slice A0 l0.length c0, .string a2] rfl (Zl) ?_; (with_reducible refine (Qaj.calls k _ _ l0 a2 t593 t594 t595 t596 _ ?side1 ?side2 A6.out).mono ?_); (case side1 => exact Zv (Kd.C_below HR0.out HB.out)); (case side2 => exact HC0.out); rintro e w10 ⟨rfl, hb⟩; refine ⟨_, rfl, ?_⟩; replace HO588 := Aside0.mk (Kd.R_below (Zr HO588.out) hb); replace HB := Aside0.mk (Qap (Zb) hb); (try clear hb); (try clear hb2); (try clear hk); (try clear hi)))
 (try simp only [Act.put, Zj, Zk, Zm])
 replace H := Option.bind_eq_some_iff.mp H
 obtain ⟨t597, A110, H⟩ := H
 replace H : ((Qaz.f k l0 a1).bind fun t600 => ((Qav.f k t597 t600).bind fun t603 => (if t603 = T then (if t589 = t593 then (if t590 = t594 then (if t591 = t595 then (if t592 = t596 then ((Qa1.f k).bind fun t604 => (some t604)) else (some F)) else (some F)) else (some F)) else (some F)) else (some F)))) = some r := H
 have A11 := Aside0.mk A110
 clear A110
 replace H := Option.bind_eq_some_iff.mp H
 obtain ⟨t600, A120, H⟩ := H
 replace H : ((Qav.f k t597 t600).bind fun t603 => (if t603 = T then (if t589 = t593 then (if t590 = t594 then (if t591 = t595 then (if t592 = t596 then ((Qa1.f k).bind fun t604 => (some t604)) else (some F)) else (some F)) else (some F)) else (some F)) else (some F))) = some r := H
 have A12 := Aside0.mk A120
 clear A120
 replace H := Option.bind_eq_some_iff.mp H
 obtain ⟨t603, A130, H⟩ := H
 replace H : (if t603 = T then (if t589 = t593 then (if t590 = t594 then (if t591 = t595 then (if t592 = t596 then ((Qa1.f k).bind fun t604 => (some t604)) else (some F)) else (some F)) else (some F)) else (some F)) else (some F)) = some r := H
 have A13 := Aside0.mk A130
 clear A130
 by_cases c14 : t603 = T
 ·subst c14
  have H1 : (if t589 = t593 then (if t590 = t594 then (if t591 = t595 then (if t592 = t596 then ((Qa1.f k).bind fun t604 => (some t604)) else (some F)) else (some F)) else (some F)) else (some F)) = some r := by rw [if_pos rfl] at H; exact H
  clear H
  have H := H1
  clear H1
  by_cases c15 : t589 = t593
  ·rw [if_pos c15] at H
   have c15b0 : (t589 == t593) = T := beq_iff_eq.mpr c15
   have c15b1 : (t589 != t593) = F := bne_eq_false_iff_eq.mpr c15
   clear c15
   (try simp only [c15b0, c15b1])
   by_cases c16 : t590 = t594
   ·rw [if_pos c16] at H
    have c16b0 : (t590 == t594) = T := beq_iff_eq.mpr c16
    have c16b1 : (t590 != t594) = F := bne_eq_false_iff_eq.mpr c16
    clear c16
    by_cases c17 : t591 = t595
    ·rw [if_pos c17] at H
     have c17b0 : (t591 == t595) = T := beq_iff_eq.mpr c17
     have c17b1 : (t591 != t595) = F := bne_eq_false_iff_eq.mpr c17
     clear c17
     by_cases c18 : t592 = t596
     ·rw [if_pos c18] at H
      have c18b0 : (t592 == t596) = T := beq_iff_eq.mpr c18
      have c18b1 : (t592 != t596) = F := bne_eq_false_iff_eq.mpr c18
      clear c18
      replace H := Option.bind_eq_some_iff.mp H
      obtain ⟨t604, A190, H⟩ := H
      replace H : (some t604) = some r := H
      have A19 := Aside0.mk A190
      clear A190
      obtain rfl := Option.some.inj H
      go_wp2_with (first | ((with_reducible refine Qay (f := 21) rfl ?_); refine goesL_ (some 36) rfl rfl Try.func21 (by kernel_rfl) rfl #[.slice Ao8 t586.length co8, .int .i64 a1] rfl (Zl) ?_; (with_reducible refine (QaG.calls k _ _ t586 a1 t597 _ ?side1 ?side2 A11.out).mono ?_); (case side1 => exact Zv (Kd.R_reads' HO588.out).2.2); (case side2 => exact (Kd.R_reads' HO588.out).2.1); rintro e w20 ⟨v598, rfl, ho0, hb⟩; refine ⟨_, rfl, ?_⟩; have HO599 := Aside0.mk (Kd.R_lower (Kd.R_new' ho0 (Kd.R_lt (Zr HO588.out))) (Qam (Zb))); replace HO588 := Aside0.mk (Kd.R_elder' (Zr HO588.out) (Kd.R_base ho0) hb); replace HB := Aside0.mk (Qap (Zb) hb); (try clear hb); (try clear hb2); (try clear hk); (try clear hi); (try clear ho0)) | ((with_reducible refine Qay (f := 25) rfl ?_); refine goesL_ (some 39) rfl rfl Try.func25 (by kernel_rfl) rfl #[.slice A0 l0.length c0, .int .i64 a1] rfl (Zl) ?_; (with_reducible refine (Qaz.calls k _ _ l0 a1 t600 _ ?side1 ?side2 A12.out).mono ?_); (case side1 => exact Zv (Kd.C_below HR0.out HB.out)); (case side2 => exact HC0.out); rintro e w21 ⟨v601, rfl, ho0, hb⟩; refine ⟨_, rfl, ?_⟩; have HO602 := Aside0.mk (Kd.R_lower ho0 (Qam (Zb))); replace HO588 := Aside0.mk (Kd.R_below (Zr HO588.out) hb); replace HO599 := Aside0.mk (Kd.R_below (Zr HO599.out) hb); replace HB := Aside0.mk (Qap (Zb) hb); (try clear hb); (try clear hb2); (try clear hk); (try clear hi); (try clear ho0); obtain ⟨Ao22, co22, eo22⟩ := Kd.R_slice HO599.out; subst eo22; obtain ⟨Ao23, co23, eo23⟩ := Kd.R_slice HO602.out; subst eo23) | ((with_reducible refine Qay (f := 20) rfl ?_); refine goesL_ (some 40) rfl rfl Try.func20 (by kernel_rfl) rfl #[.slice Ao22 t597.length co22, .slice Ao23 t600.length co23] rfl (Zl) ?_; (with_reducible refine (Qav.calls k _ _ t597 _ _ t600 T _ ?side1 ?side2 ?side3 ?side4 A13.out).mono ?_); (case side1 => exact Zv (Kd.R_reads' HO599.out).2.2); (case side2 => exact (Kd.R_reads' HO599.out).2.1); (case side3 => exact Zv (Kd.R_reads' HO602.out).2.2); (case side4 => exact (Kd.R_reads' HO602.out).2.1); rintro e w' ⟨rfl, ⟨nd, rfl⟩⟩; refine ⟨_, rfl, ?_⟩) | (go_at_call 17; (with_reducible refine (Qa1.calls k  t604 _ A19.out).mono ?_); rintro e w24 ⟨rfl, hb⟩; replace HO588 := Aside0.mk (Kd.R_below (Zr HO588.out) hb); replace HO599 := Aside0.mk (Kd.R_below (Zr HO599.out) hb); replace HO602 := Aside0.mk (Kd.R_below (Zr HO602.out) hb); replace HB := Aside0.mk (Qap (Zb) hb); (try clear hb); (try clear hb2); (try clear hk); (try clear hi)))
      go_ret
      exact ⟨Zq, Zb⟩
     rw [if_neg c18] at H
     have c18b0 : (t592 == t596) = F := beq_eq_false_iff_ne.mpr c18
     have c18b1 : (t592 != t596) = T := bne_iff_ne.mpr c18
     obtain rfl := Option.some.inj H
     go_wp2_with (first | ((with_reducible refine Qay (f := 21) rfl ?_); refine goesL_ (some 36) rfl rfl Try.func21 (by kernel_rfl) rfl #[.slice Ao8 t586.length co8, .int .i64 a1] rfl (Zl) ?_; (with_reducible refine (QaG.calls k _ _ t586 a1 t597 _ ?side1 ?side2 A11.out).mono ?_); (case side1 => exact Zv (Kd.R_reads' HO588.out).2.2); (case side2 => exact (Kd.R_reads' HO588.out).2.1); rintro e w25 ⟨v598, rfl, ho0, hb⟩; refine ⟨_, rfl, ?_⟩; have HO599 := Aside0.mk (Kd.R_lower (Kd.R_new' ho0 (Kd.R_lt (Zr HO588.out))) (Qam (Zb))); replace HO588 := Aside0.mk (Kd.R_elder' (Zr HO588.out) (Kd.R_base ho0) hb); replace HB := Aside0.mk (Qap (Zb) hb); (try clear hb); (try clear hb2); (try clear hk); (try clear hi); (try clear ho0)) | ((with_reducible refine Qay (f := 25) rfl ?_); refine goesL_ (some 39) rfl rfl Try.func25 (by kernel_rfl) rfl #[.slice A0 l0.length c0, .int .i64 a1] rfl (Zl) ?_; (with_reducible refine (Qaz.calls k _ _ l0 a1 t600 _ ?side1 ?side2 A12.out).mono ?_); (case side1 => exact Zv (Kd.C_below HR0.out HB.out)); (case side2 => exact HC0.out); rintro e w26 ⟨v601, rfl, ho0, hb⟩; refine ⟨_, rfl, ?_⟩; have HO602 := Aside0.mk (Kd.R_lower ho0 (Qam (Zb))); replace HO588 := Aside0.mk (Kd.R_below (Zr HO588.out) hb); replace HO599 := Aside0.mk (Kd.R_below (Zr HO599.out) hb); replace HB := Aside0.mk (Qap (Zb) hb); (try clear hb); (try clear hb2); (try clear hk); (try clear hi); (try clear ho0); obtain ⟨Ao27, co27, eo27⟩ := Kd.R_slice HO599.out; subst eo27; obtain ⟨Ao28, co28, eo28⟩ := Kd.R_slice HO602.out; subst eo28) | ((with_reducible refine Qay (f := 20) rfl ?_); refine goesL_ (some 40) rfl rfl Try.func20 (by kernel_rfl) rfl #[.slice Ao27 t597.length co27, .slice Ao28 t600.length co28] rfl (Zl) ?_; (with_reducible refine (Qav.calls k _ _ t597 _ _ t600 T _ ?side1 ?side2 ?side3 ?side4 A13.out).mono ?_); (case side1 => exact Zv (Kd.R_reads' HO599.out).2.2); (case side2 => exact (Kd.R_reads' HO599.out).2.1); (case side3 => exact Zv (Kd.R_reads' HO602.out).2.2); (case side4 => exact (Kd.R_reads' HO602.out).2.1); rintro e w' ⟨rfl, ⟨nd, rfl⟩⟩; refine ⟨_, rfl, ?_⟩))
     go_ret
     exact ⟨Zq, Zb⟩
    rw [if_neg c17] at H
    have c17b0 : (t591 == t595) = F := beq_eq_false_iff_ne.mpr c17
    have c17b1 : (t591 != t595) = T := bne_iff_ne.mpr c17
    obtain rfl := Option.some.inj H
    go_wp2_with (first | ((with_reducible refine Qay (f := 21) rfl ?_); refine goesL_ (some 36) rfl rfl Try.func21 (by kernel_rfl) rfl #[.slice Ao8 t586.length co8, .int .i64 a1] rfl (Zl) ?_; (with_reducible refine (QaG.calls k _ _ t586 a1 t597 _ ?side1 ?side2 A11.out).mono ?_); (case side1 => exact Zv (Kd.R_reads' HO588.out).2.2); (case side2 => exact (Kd.R_reads' HO588.out).2.1); rintro e w29 ⟨v598, rfl, ho0, hb⟩; refine ⟨_, rfl, ?_⟩; have HO599 := Aside0.mk (Kd.R_lower (Kd.R_new' ho0 (Kd.R_lt (Zr HO588.out))) (Qam (Zb))); replace HO588 := Aside0.mk (Kd.R_elder' (Zr HO588.out) (Kd.R_base ho0) hb); replace HB := Aside0.mk (Qap (Zb) hb); (try clear hb); (try clear hb2); (try clear hk); (try clear hi); (try clear ho0)) | ((with_reducible refine Qay (f := 25) rfl ?_); refine goesL_ (some 39) rfl rfl Try.func25 (by kernel_rfl) rfl #[.slice A0 l0.length c0, .int .i64 a1] rfl (Zl) ?_; (with_reducible refine (Qaz.calls k _ _ l0 a1 t600 _ ?side1 ?side2 A12.out).mono ?_); (case side1 => exact Zv (Kd.C_below HR0.out HB.out)); (case side2 => exact HC0.out); rintro e w30 ⟨v601, rfl, ho0, hb⟩; refine ⟨_, rfl, ?_⟩; have HO602 := Aside0.mk (Kd.R_lower ho0 (Qam (Zb))); replace HO588 := Aside0.mk (Kd.R_below (Zr HO588.out) hb); replace HO599 := Aside0.mk (Kd.R_below (Zr HO599.out) hb); replace HB := Aside0.mk (Qap (Zb) hb); (try clear hb); (try clear hb2); (try clear hk); (try clear hi); (try clear ho0); obtain ⟨Ao31, co31, eo31⟩ := Kd.R_slice HO599.out; subst eo31; obtain ⟨Ao32, co32, eo32⟩ := Kd.R_slice HO602.out; subst eo32) | ((with_reducible refine Qay (f := 20) rfl ?_); refine goesL_ (some 40) rfl rfl Try.func20 (by kernel_rfl) rfl #[.slice Ao31 t597.length co31, .slice Ao32 t600.length co32] rfl (Zl) ?_; (with_reducible refine (Qav.calls k _ _ t597 _ _ t600 T _ ?side1 ?side2 ?side3 ?side4 A13.out).mono ?_); (case side1 => exact Zv (Kd.R_reads' HO599.out).2.2); (case side2 => exact (Kd.R_reads' HO599.out).2.1); (case side3 => exact Zv (Kd.R_reads' HO602.out).2.2); (case side4 => exact (Kd.R_reads' HO602.out).2.1); rintro e w' ⟨rfl, ⟨nd, rfl⟩⟩; refine ⟨_, rfl, ?_⟩))
    go_ret
    exact ⟨Zq, Zb⟩
   rw [if_neg c16] at H
   have c16b0 : (t590 == t594) = F := beq_eq_false_iff_ne.mpr c16
   have c16b1 : (t590 != t594) = T := bne_iff_ne.mpr c16
   obtain rfl := Option.some.inj H
   go_wp2_with (first | ((with_reducible refine Qay (f := 21) rfl ?_); refine goesL_ (some 36) rfl rfl Try.func21 (by kernel_rfl) rfl #[.slice Ao8 t586.length co8, .int .i64 a1] rfl (Zl) ?_; (with_reducible refine (QaG.calls k _ _ t586 a1 t597 _ ?side1 ?side2 A11.out).mono ?_); (case side1 => exact Zv (Kd.R_reads' HO588.out).2.2); (case side2 => exact (Kd.R_reads' HO588.out).2.1); rintro e w33 ⟨v598, rfl, ho0, hb⟩; refine ⟨_, rfl, ?_⟩; have HO599 := Aside0.mk (Kd.R_lower (Kd.R_new' ho0 (Kd.R_lt (Zr HO588.out))) (Qam (Zb))); replace HO588 := Aside0.mk (Kd.R_elder' (Zr HO588.out) (Kd.R_base ho0) hb); replace HB := Aside0.mk (Qap (Zb) hb); (try clear hb); (try clear hb2); (try clear hk); (try clear hi); (try clear ho0)) | ((with_reducible refine Qay (f := 25) rfl ?_); refine goesL_ (some 39) rfl rfl Try.func25 (by kernel_rfl) rfl #[.slice A0 l0.length c0, .int .i64 a1] rfl (Zl) ?_; (with_reducible refine (Qaz.calls k _ _ l0 a1 t600 _ ?side1 ?side2 A12.out).mono ?_); (case side1 => exact Zv (Kd.C_below HR0.out HB.out)); (case side2 => exact HC0.out); rintro e w34 ⟨v601, rfl, ho0, hb⟩; refine ⟨_, rfl, ?_⟩; have HO602 := Aside0.mk (Kd.R_lower ho0 (Qam (Zb))); replace HO588 := Aside0.mk (Kd.R_below (Zr HO588.out) hb); replace HO599 := Aside0.mk (Kd.R_below (Zr HO599.out) hb); replace HB := Aside0.mk (Qap (Zb) hb); (try clear hb); (try clear hb2); (try clear hk); (try clear hi); (try clear ho0); obtain ⟨Ao35, co35, eo35⟩ := Kd.R_slice HO599.out; subst eo35; obtain ⟨Ao36, co36, eo36⟩ := Kd.R_slice HO602.out; subst eo36) | ((with_reducible refine Qay (f := 20) rfl ?_); refine goesL_ (some 40) rfl rfl Try.func20 (by kernel_rfl) rfl #[.slice Ao35 t597.length co35, .slice Ao36 t600.length co36] rfl (Zl) ?_; (with_reducible refine (Qav.calls k _ _ t597 _ _ t600 T _ ?side1 ?side2 ?side3 ?side4 A13.out).mono ?_); (case side1 => exact Zv (Kd.R_reads' HO599.out).2.2); (case side2 => exact (Kd.R_reads' HO599.out).2.1); (case side3 => exact Zv (Kd.R_reads' HO602.out).2.2); (case side4 => exact (Kd.R_reads' HO602.out).2.1); rintro e w' ⟨rfl, ⟨nd, rfl⟩⟩; refine ⟨_, rfl, ?_⟩))
   go_ret
   exact ⟨Zq, Zb⟩
  rw [if_neg c15] at H
  have c15b0 : (t589 == t593) = F := beq_eq_false_iff_ne.mpr c15
  have c15b1 : (t589 != t593) = T := bne_iff_ne.mpr c15
  (try simp only [c15b0, c15b1])
  obtain rfl := Option.some.inj H
  go_wp2_with (first | ((with_reducible refine Qay (f := 21) rfl ?_); refine goesL_ (some 36) rfl rfl Try.func21 (by kernel_rfl) rfl #[.slice Ao8 t586.length co8, .int .i64 a1] rfl (Zl) ?_; (with_reducible refine (QaG.calls k _ _ t586 a1 t597 _ ?side1 ?side2 A11.out).mono ?_); (case side1 => exact Zv (Kd.R_reads' HO588.out).2.2); (case side2 => exact (Kd.R_reads' HO588.out).2.1); rintro e w37 ⟨v598, rfl, ho0, hb⟩; refine ⟨_, rfl, ?_⟩; have HO599 := Aside0.mk (Kd.R_lower (Kd.R_new' ho0 (Kd.R_lt (Zr HO588.out))) (Qam (Zb))); replace HO588 := Aside0.mk (Kd.R_elder' (Zr HO588.out) (Kd.R_base ho0) hb); replace HB := Aside0.mk (Qap (Zb) hb); (try clear hb); (try clear hb2); (try clear hk); (try clear hi); (try clear ho0)) | ((with_reducible refine Qay (f := 25) rfl ?_); refine goesL_ (some 39) rfl rfl Try.func25 (by kernel_rfl) rfl #[.slice A0 l0.length c0, .int .i64 a1] rfl (Zl) ?_; (with_reducible refine (Qaz.calls k _ _ l0 a1 t600 _ ?side1 ?side2 A12.out).mono ?_); (case side1 => exact Zv (Kd.C_below HR0.out HB.out)); (case side2 => exact HC0.out); rintro e w38 ⟨v601, rfl, ho0, hb⟩; refine ⟨_, rfl, ?_⟩; have HO602 := Aside0.mk (Kd.R_lower ho0 (Qam (Zb))); replace HO588 := Aside0.mk (Kd.R_below (Zr HO588.out) hb); replace HO599 := Aside0.mk (Kd.R_below (Zr HO599.out) hb); replace HB := Aside0.mk (Qap (Zb) hb); (try clear hb); (try clear hb2); (try clear hk); (try clear hi); (try clear ho0); obtain ⟨Ao39, co39, eo39⟩ := Kd.R_slice HO599.out; subst eo39; obtain ⟨Ao40, co40, eo40⟩ := Kd.R_slice HO602.out; subst eo40) | ((with_reducible refine Qay (f := 20) rfl ?_); refine goesL_ (some 40) rfl rfl Try.func20 (by kernel_rfl) rfl #[.slice Ao39 t597.length co39, .slice Ao40 t600.length co40] rfl (Zl) ?_; (with_reducible refine (Qav.calls k _ _ t597 _ _ t600 T _ ?side1 ?side2 ?side3 ?side4 A13.out).mono ?_); (case side1 => exact Zv (Kd.R_reads' HO599.out).2.2); (case side2 => exact (Kd.R_reads' HO599.out).2.1); (case side3 => exact Zv (Kd.R_reads' HO602.out).2.2); (case side4 => exact (Kd.R_reads' HO602.out).2.1); rintro e w' ⟨rfl, ⟨nd, rfl⟩⟩; refine ⟨_, rfl, ?_⟩))
  go_ret
  exact ⟨Zq, Zb⟩
 replace c14 := Bool.eq_false_iff.mpr c14
 subst c14
 have H1 : (some F) = some r := by rw [if_neg (show ¬ (F = T) by decide)] at H; exact H
 clear H
 have H := H1
 clear H1
 obtain rfl := Option.some.inj H
 go_wp2_with (first | ((with_reducible refine Qay (f := 21) rfl ?_); refine goesL_ (some 36) rfl rfl Try.func21 (by kernel_rfl) rfl #[.slice Ao8 t586.length co8, .int .i64 a1] rfl (Zl) ?_; (with_reducible refine (QaG.calls k _ _ t586 a1 t597 _ ?side1 ?side2 A11.out).mono ?_); (case side1 => exact Zv (Kd.R_reads' HO588.out).2.2); (case side2 => exact (Kd.R_reads' HO588.out).2.1); rintro e w41 ⟨v598, rfl, ho0, hb⟩; refine ⟨_, rfl, ?_⟩; have HO599 := Aside0.mk (Kd.R_lower (Kd.R_new' ho0 (Kd.R_lt (Zr HO588.out))) (Qam (Zb))); replace HO588 := Aside0.mk (Kd.R_elder' (Zr HO588.out) (Kd.R_base ho0) hb); replace HB := Aside0.mk (Qap (Zb) hb); (try clear hb); (try clear hb2); (try clear hk); (try clear hi); (try clear ho0)) | ((with_reducible refine Qay (f := 25) rfl ?_); refine goesL_ (some 39) rfl rfl Try.func25 (by kernel_rfl) rfl #[.slice A0 l0.length c0, .int .i64 a1] rfl (Zl) ?_; (with_reducible refine (Qaz.calls k _ _ l0 a1 t600 _ ?side1 ?side2 A12.out).mono ?_); (case side1 => exact Zv (Kd.C_below HR0.out HB.out)); (case side2 => exact HC0.out); rintro e w42 ⟨v601, rfl, ho0, hb⟩; refine ⟨_, rfl, ?_⟩; have HO602 := Aside0.mk (Kd.R_lower ho0 (Qam (Zb))); replace HO588 := Aside0.mk (Kd.R_below (Zr HO588.out) hb); replace HO599 := Aside0.mk (Kd.R_below (Zr HO599.out) hb); replace HB := Aside0.mk (Qap (Zb) hb); (try clear hb); (try clear hb2); (try clear hk); (try clear hi); (try clear ho0); obtain ⟨Ao43, co43, eo43⟩ := Kd.R_slice HO599.out; subst eo43; obtain ⟨Ao44, co44, eo44⟩ := Kd.R_slice HO602.out; subst eo44) | ((with_reducible refine Qay (f := 20) rfl ?_); refine goesL_ (some 40) rfl rfl Try.func20 (by kernel_rfl) rfl #[.slice Ao43 t597.length co43, .slice Ao44 t600.length co44] rfl (Zl) ?_; (with_reducible refine (Qav.calls k _ _ t597 _ _ t600 F _ ?side1 ?side2 ?side3 ?side4 A13.out).mono ?_); (case side1 => exact Zv (Kd.R_reads' HO599.out).2.2); (case side2 => exact (Kd.R_reads' HO599.out).2.1); (case side3 => exact Zv (Kd.R_reads' HO602.out).2.2); (case side4 => exact (Kd.R_reads' HO602.out).2.1); rintro e w' ⟨rfl, ⟨nd, rfl⟩⟩; refine ⟨_, rfl, ?_⟩))
 go_ret
 exact ⟨Zq, Zb⟩
end Go.Proofs.Ytfcaaefdmabkhaa.Pr
