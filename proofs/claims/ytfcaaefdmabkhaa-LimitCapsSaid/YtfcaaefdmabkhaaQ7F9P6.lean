/- Functions' values and contracts, as the print wrote them. -/
import Derived.Test.YtfcaaefdmabkhaaQ7F9P0
import Derived.Test.YtfcaaefdmabkhaaQ7F9P1
import Derived.Test.YtfcaaefdmabkhaaQ7F9P5
import Derived.Test.YtfcaaefdmabkhaaQ7F9P4
import Derived.Test.YtfcaaefdmabkhaaQ7F9P2
namespace Go.Proofs.Ytfcaaefdmabkhaa.Pr
open Bool renaming true → T
open Bool renaming false → F
open Go.RowKit Go.Proofs.YtfcaaefdmabkhaaW.PrintWords Go.Proofs.YtfcaaefdmabkhaaW.PrintLast Go.Proofs.YtfcaaefdmabkhaaW.PrintMore
attribute [local go_sem] QaR QaT Qa0 Qa1 QaJ QaK QaS QaU   -- for this text's walks alone
set_option linter.unusedVariables false
set_option linter.unusedSimpArgs false
set_option maxRecDepth 100000
set_option maxHeartbeats 8000000
def Qav.l0 : Nat → List (S46) → Int → Int → ByteArray → ByteArray → ByteArray → Int → Option (Int × Bool)
 | 0, _, _, _, _, _, _, _ => none
 | k + 1, x0, x8, x9, x612000, x612001, x612002, x612003 => if x8 < x9 then (if 0 ≤ (wrap64 (Int.tdiv (wrap64 (x8 + x9)) 2)) then (if (wrap64 (Int.tdiv (wrap64 (x8 + x9)) 2)) < (x0.length : Int) then ((QbA.f ((rd_T46 x0 (wrap64 (Int.tdiv (wrap64 (x8 + x9)) 2))).f0.f0) ((rd_T46 x0 (wrap64 (Int.tdiv (wrap64 (x8 + x9)) 2))).f0.f1) ((rd_T46 x0 (wrap64 (Int.tdiv (wrap64 (x8 + x9)) 2))).f1) ((rd_T46 x0 (wrap64 (Int.tdiv (wrap64 (x8 + x9)) 2))).f2) x612000 x612001 x612002 x612003).bind fun t613 => (if t613 < 0 then (Qav.l0 k x0 (wrap64 ((wrap64 (Int.tdiv (wrap64 (x8 + x9)) 2)) + 1)) x9 x612000 x612001 x612002 x612003) else (Qav.l0 k x0 x8 (wrap64 (Int.tdiv (wrap64 (x8 + x9)) 2)) x612000 x612001 x612002 x612003))) else (none)) else (none)) else (if x8 < (x0.length : Int) then (if 0 ≤ x8 then ((QbA.f ((rd_T46 x0 x8).f0.f0) ((rd_T46 x0 x8).f0.f1) ((rd_T46 x0 x8).f1) ((rd_T46 x0 x8).f2) x612000 x612001 x612002 x612003).bind fun t615 => (some (x8, (t615 == 0)))) else (none)) else (some (x8, F)))
def Qav.f (k : Nat) (l0 : List (S46)) (a1_0 : ByteArray) (a1_1 : ByteArray) (a1_2 : ByteArray) (a1_3 : Int)  : Option (Int × Bool) := Qav.l0 k l0 0 (l0.length : Int) a1_0 a1_1 a1_2 a1_3
theorem Qav.mono_l : ∀ k, (∀ y0 y1 y2 y3 y4 y5 y6, LeO (Qav.l0 k y0 y1 y2 y3 y4 y5 y6) (Qav.l0 (k + 1) y0 y1 y2 y3 y4 y5 y6))
 | 0 => fun _ _ _ _ _ _ _ r h => by simp [Qav.l0] at h
 | k + 1 => by
  have ih0 := Qav.mono_l k
  intro y0 y1 y2 y3 y4 y5 y6
  unfold Qav.l0
  exact ZM1 ih0
theorem Qav.mono : ∀ a0 a1 a2 a3 a4 k, LeO (Qav.f k a0 a1 a2 a3 a4) (Qav.f (k + 1) a0 a1 a2 a3 a4) := by
 intro a0 a1 a2 a3 a4 k
 have ih0 := Qav.mono_l k
 unfold Qav.f
 exact ZM1 ih0
def Qav.T4 : Bool × List (List Nat × List Nat) := (T, [([], []), ([], []), ([], []), ([1, 2], [1, 2]), ([3], [3]), ([], []), ([0, 4, 5], [0, 4, 5]), ([6], [6])])
def Qav.B4 : List Nat := [0, 0, 0, 6, 14, 0, 63, 127]
theorem Qav.tab4 : rtab .any (opsOf Try.f73 4) = Qav.T4 := by kernel_rfl
theorem Qav.bits4 : QbY Qav.T4.2 Qav.B4 = T := by kernel_rfl
def Qav.T7 : Bool × List (List Nat × List Nat) := (T, [([], []), ([], []), ([], []), ([2], [2]), ([1, 3], [1, 3]), ([4], [4]), ([5], [5]), ([5], [5]), ([5], [5]), ([7, 8, 5], [5, 7, 8]), ([9, 5], [5, 9]), ([5], [5]), ([6, 10, 11, 5, 5], [5, 6, 10, 11]), ([12, 5], [5, 12]), ([5, 13], [5, 13]), ([0, 12, 0], [0]), ([14, 15, 0, 1, 2, 3, 4, 5, 6, 7, 8, 9, 10, 11, 12, 13, 14, 15], [14])])
def Qav.B7 : List Nat := [0, 0, 0, 4, 14, 30, 62, 62, 62, 446, 958, 62, 4094, 8190, 16382, 8191, 65535]
theorem Qav.tab7 : rtab .any (opsOf Try.f73 7) = Qav.T7 := by kernel_rfl
theorem Qav.bits7 : QbY Qav.T7.2 Qav.B7 = T := by kernel_rfl
theorem Qav.calls (k : Nat) (A0 : Option Addr) (c0 : Nat) (l0 : List (S46)) (a1_0 : ByteArray) (a1_1 : ByteArray) (a1_2 : ByteArray) (a1_3 : Int)  (r1 : Int) (r2 : Bool) (w : World) (hr0 : Kd.C k46 w A0 l0.length l0) (hc0 : l0.length ≤ c0) (h : Qav.f k l0 a1_0 a1_1 a1_2 a1_3 = some (r1, r2)) :
  Calls Try.prog 73 #[.slice A0 l0.length c0, .agg #[.string a1_0, .string a1_1, .string a1_2, .int .i64 a1_3], .func (.func 74) #[] #[]] w fun e w' => e = .returned (.tuple #[.int .i64 r1, .bool r2]) ∧ Below w.heap.size w w' := by
 have hu46 := Try.underlying46
 have HR0 := Aside0.mk hr0
 have HC0 := Aside0.mk hc0
 clear hr0 hc0
 have HB := Aside0.mk (Below.refl w.heap.size w)
 have H : (Qav.l0 k l0 0 (l0.length : Int) a1_0 a1_1 a1_2 a1_3) = some (r1, r2) := h
 clear h
 have H' := Aside0.mk H
 clear H
 go_enter Try.func73, Try.ntmps73
 go_wp2_with (first | ((with_reducible refine QaM (N := 4) rfl ?_); refine Zbx (N := 4) (cs := #[.string a1_0, .string a1_1, .string a1_2, .int .i64 a1_3]) (t := 46) ?_; intro gb611 hg w4 hbox hb; have BK611 := Aside0.mk (hbox); have GW611 := Aside0.mk (Zt w hg (Zb)); have GE611 := GW611; replace HB := Aside0.mk (Qan (Zb) hb); clear hb hbox hg))
 go_loopg [8, 9] k (fun kq v8 v9 w' => ∃ (x8_1 : Int) (x9_1 : Int), v8 = .int .i64 x8_1 ∧ v9 = .int .i64 x9_1 ∧ Aside0 (Qav.l0 kq l0 x8_1 x9_1 a1_0 a1_1 a1_2 a1_3 = some (r1, r2)) ∧ Aside0 (kq ≤ k) ∧ Aside0 (w'.heap[gb611]? = some (.cells #[.string a1_0, .string a1_1, .string a1_2, .int .i64 a1_3] 46 (0, 0))) ∧ Aside0 (Below w.heap.size w w'))
 case atStart => exact ⟨(0), ((l0.length : Int)), (Zs), (Zs), H', ⟨Nat.le_refl _⟩, ⟨Zu BK611.out⟩, ⟨Zc1 GE611.out⟩⟩
 case round =>
  clear H'
  try clear p2
  obtain ⟨x8_1, x9_1, rfl, rfl, HA, HK1, BK611, HB⟩ := hrel
  cases gk with
  | zero => exact absurd HA.out (by simp [Qav.l0])
  | succ k1 =>
   have H := HA.out
   clear HA
   simp only [Qav.l0] at H
   by_cases c5 : x8_1 < x9_1
   ·rw [if_pos c5] at H
    have c5b0 : decide (x8_1 < x9_1) = T := decide_eq_true c5
    clear c5
    (try simp only [c5b0])
    obtain ⟨ji6, hji6⟩ : ∃ j_ : Int, (wrap64 (Int.tdiv (wrap64 (x8_1 + x9_1)) 2)) = j_ := ⟨_, rfl⟩
    replace H : (if 0 ≤ (ji6) then (if (ji6) < (l0.length : Int) then ((QbA.f ((rd_T46 l0 (ji6)).f0.f0) ((rd_T46 l0 (ji6)).f0.f1) ((rd_T46 l0 (ji6)).f1) ((rd_T46 l0 (ji6)).f2) a1_0 a1_1 a1_2 a1_3).bind fun t613 => (if t613 < 0 then (Qav.l0 k1 l0 (wrap64 ((ji6) + 1)) x9_1 a1_0 a1_1 a1_2 a1_3) else (Qav.l0 k1 l0 x8_1 ji6 a1_0 a1_1 a1_2 a1_3))) else (none)) else (none)) = some (r1, r2) := by first | (rw [hji6] at H; exact H) | (simp only [hji6] at H ⊢; exact H)
    have hji6w : (IntKind.i64.wrap (Int.tdiv (wrap64 (x8_1 + x9_1)) 2)) = ji6 := (i64_w _).trans hji6
    by_cases c7 : 0 ≤ (ji6)
    ·rw [if_pos c7] at H
     have c7b0 : decide (0 ≤ (ji6)) = T := decide_eq_true c7
     clear c7
     by_cases c8 : (ji6) < (l0.length : Int)
     ·rw [if_pos c8] at H
      have c8b0 : decide ((ji6) < (l0.length : Int)) = T := decide_eq_true c8
      clear c8
      replace H := Option.bind_eq_some_iff.mp H
      obtain ⟨t613, A90, H⟩ := H
      replace H : (if t613 < 0 then (Qav.l0 k1 l0 (wrap64 ((ji6) + 1)) x9_1 a1_0 a1_1 a1_2 a1_3) else (Qav.l0 k1 l0 x8_1 ji6 a1_0 a1_1 a1_2 a1_3)) = some (r1, r2) := H
      have A9 := Aside0.mk A90
      clear A90
      try go_wp2
      replace BK611 := Aside0.mk (Qad BK611.out)
      replace HB := Aside0.mk (Qag HB.out)
      have p612 : 0 ≤ ((ji6) : Int) := Ze
      have q612 : (ji6) < (l0.length : Int) := Ze
      obtain ⟨ad612, e612, hx612_0, hx612_1, hx612_2, hx612_3⟩ := at_T46 HR0.out (ji6) p612 q612
      have hw612_3 := hx612_3
      have hw612_2 := hx612_2
      have hw612_1 := hx612_1
      have hw612_0 := hx612_0
      cases e612
      replace hx612_0 := Zx HB.out hx612_0
      replace hx612_1 := Zx HB.out hx612_1
      replace hx612_2 := Zx HB.out hx612_2
      replace hx612_3 := Zx HB.out hx612_3
      replace p612 := eq_true p612
      replace q612 := eq_true q612
      refine start_ (n := 8) (S := fun w' => w'.cell? ⟨gb611, 0, none⟩ = some (.string a1_0) ∧ w'.cell? ⟨gb611, 1, none⟩ = some (.string a1_1) ∧ w'.cell? ⟨gb611, 2, none⟩ = some (.string a1_2) ∧ w'.cell? ⟨gb611, 3, none⟩ = some (.int .i64 a1_3) ∧ w'.cell? (ad612.add (((ji6)).toNat * 4)) = some (.string ((rd_T46 l0 (ji6)).f0.f0)) ∧ w'.cell? ⟨(ad612.add (((ji6)).toNat * 4)).block, (ad612.add (((ji6)).toNat * 4)).off + 1, none⟩ = some (.string ((rd_T46 l0 (ji6)).f0.f1)) ∧ w'.cell? ⟨(ad612.add (((ji6)).toNat * 4)).block, (ad612.add (((ji6)).toNat * 4)).off + 2, none⟩ = some (.string ((rd_T46 l0 (ji6)).f1)) ∧ w'.cell? ⟨(ad612.add (((ji6)).toNat * 4)).block, (ad612.add (((ji6)).toNat * 4)).off + 3, none⟩ = some (.int .i64 ((rd_T46 l0 (ji6)).f2))) (ds := []) #[F, F, F, F, F, F, F, F] (by kernel_rfl) rfl rfl ⟨(Qai BK611.out 0).trans rfl, (Qai BK611.out 1).trans rfl, (Qai BK611.out 2).trans rfl, (Qai BK611.out 3).trans rfl, ((HB.out.cell (World.block_lt_of_cell? w _ hw612_0)).trans hw612_0), ((HB.out.cell (World.block_lt_of_cell? w _ hw612_1)).trans hw612_1), ((HB.out.cell (World.block_lt_of_cell? w _ hw612_2)).trans hw612_2), ((HB.out.cell (World.block_lt_of_cell? w _ hw612_3)).trans hw612_3)⟩ (fun hHeld => ?_); refine QbU Qav.tab4 Qav.bits4 (fun HT_ HW_ => ?_)
      generalize wr.drew = w10 at BK611 HB hx612_0 hx612_1 hx612_2 hx612_3 hHeld ⊢
      refine pure_ (i := 0) (N := some 20) (v := ?_) (a' := ?_) #[T, F, F, F, F, F, F, F] rfl rfl (any_of HT_.out (by kernel_rfl)) (fun _ _ _ h => h) (Or.inl ⟨by rfl, ?_⟩) ?_ ?_
      rotate_left
      ·intro w'
       go_simp
       with_reducible rfl
      rotate_left
      ·simp only [Act.put, Zj, Zk, Zm, i64_w, i32_w]
       rfl
      refine pure_ (i := 1) (N := some 21) (v := ?_) (a' := ?_) #[T, T, F, F, F, F, F, F] rfl rfl (any_of HT_.out (by kernel_rfl)) (fun _ _ _ h => h) (Or.inl ⟨by rfl, ?_⟩) ?_ ?_
      rotate_left
      ·intro w'
       go_simp
       with_reducible rfl
      rotate_left
      ·simp only [Act.put, Zj, Zk, Zm, i64_w, i32_w]
       rfl
      refine pure_ (i := 2) (N := some 22) (v := ?_) (a' := ?_) #[T, T, T, F, F, F, F, F] rfl rfl (any_of HT_.out (by kernel_rfl)) (fun _ _ _ h => h) (Or.inl ⟨by rfl, ?_⟩) ?_ ?_
      rotate_left
      ·intro w'
       go_simp
       with_reducible rfl
      rotate_left
      ·simp only [Act.put, Zj, Zk, Zm, i64_w, i32_w]
       rfl
      refine pure_ (i := 3) (N := some 23) (v := ?_) (a' := ?_) #[T, T, T, T, F, F, F, F] rfl rfl (any_of HT_.out (by kernel_rfl)) (fun _ _ _ h => h) (Or.inl ⟨by rfl, ?_⟩) ?_ ?_
      rotate_left
      ·intro w'
       go_simp
       with_reducible rfl
      rotate_left
      ·simp only [Act.put, Zj, Zk, Zm, i64_w, i32_w]
       rfl
      refine take_ (i := 4) (N := some 24) (v := ?_) (a' := ?_) #[T, T, T, T, T, F, F, F] rfl rfl (QbD HT_.out HW_.out (by kernel_rfl)) (fun _ _ _ h => h) (Or.inl ⟨by rfl, ?_⟩) hHeld ?_ ?_
      rotate_left
      ·rintro w' ⟨s0, s1, s2, s3, s4, s5, s6, s7⟩
       go_simp
       with_reducible rfl
      rotate_left
      ·simp only [Act.put, Zj, Zk, Zm, i64_w, i32_w]
       rfl
      refine take_ (i := 5) (N := some 25) (v := ?_) (a' := ?_) #[T, T, T, T, T, T, F, F] rfl rfl (QbD HT_.out HW_.out (by kernel_rfl)) (fun _ _ _ h => h) (Or.inl ⟨by rfl, ?_⟩) hHeld ?_ ?_
      rotate_left
      ·rintro w' ⟨s0, s1, s2, s3, s4, s5, s6, s7⟩
       go_simp
       with_reducible rfl
      rotate_left
      ·simp only [Act.put, Zj, Zk, Zm, i64_w, i32_w]
       rfl
      refine one_ (i := 6) (N := some 26) #[T, T, T, T, T, T, T, F] rfl rfl (one_of HT_.out (by kernel_rfl)) (by decide) (fun K hK => ?_)
      refine goesV_ Try.func74 (by kernel_rfl) rfl #[.agg #[.string ((rd_T46 l0 (ji6)).f0.f0), .string ((rd_T46 l0 (ji6)).f0.f1), .string ((rd_T46 l0 (ji6)).f1), .int .i64 ((rd_T46 l0 (ji6)).f2)], .agg #[.string a1_0, .string a1_1, .string a1_2, .int .i64 a1_3]] (by rfl) rfl rfl rfl (by (try simp only [List.map_toArray, List.map_cons, List.map_nil]); first | done | (simp only [hji6]; rfl) | rfl | (simp only [List.length_drop, List.length_take]; rfl)) ?_
      with_reducible refine (QbA.calls ((rd_T46 l0 (ji6)).f0.f0) ((rd_T46 l0 (ji6)).f0.f1) ((rd_T46 l0 (ji6)).f1) ((rd_T46 l0 (ji6)).f2) a1_0 a1_1 a1_2 a1_3 t613 _ A9.out).mono ?_
      rintro e w11 ⟨rfl, hb⟩
      refine ⟨_, rfl, ?_⟩
      replace BK611 := Aside0.mk (Zi BK611.out hb)
      replace HB := Aside0.mk (Qan (Zc1 GE611.out) hb)
      (try clear hb)
      (try clear hb2)
      (try clear hk)
      (try clear hi)
      refine hK.out _ _ ⟨(Qai BK611.out 0).trans rfl, (Qai BK611.out 1).trans rfl, (Qai BK611.out 2).trans rfl, (Qai BK611.out 3).trans rfl, ((HB.out.cell (World.block_lt_of_cell? w _ hw612_0)).trans hw612_0), ((HB.out.cell (World.block_lt_of_cell? w _ hw612_1)).trans hw612_1), ((HB.out.cell (World.block_lt_of_cell? w _ hw612_2)).trans hw612_2), ((HB.out.cell (World.block_lt_of_cell? w _ hw612_3)).trans hw612_3)⟩ (fun hHeld => ?_)
      clear hK K
      refine norm_ (a' := ?_) ?_ ?_
      rotate_left
      ·show Act.put _ (some 26) _ = _
       simp only [Act.put, Zj, Zk, Zm, i64_w, i32_w]
       rfl
      refine pure_ (i := 7) (N := some 27) (v := ?_) (a' := ?_) #[T, T, T, T, T, T, T, T] rfl rfl (any_of HT_.out (by kernel_rfl)) (fun _ _ _ h => h) (Or.inl ⟨by rfl, ?_⟩) ?_ ?_
      rotate_left
      ·intro w'
       go_simp
       with_reducible rfl
      rotate_left
      ·simp only [Act.put, Zj, Zk, Zm, i64_w, i32_w]
       rfl
      refine done_ (Qb1 HT_.out (by kernel_rfl)) ?_
      go_upto_if 27 with (fail)
      by_cases c12 : t613 < 0
      ·rw [if_pos c12] at H
       have c12b0 : decide (t613 < 0) = T := decide_eq_true c12
       clear c12
       (try simp only [c12b0])
       have H' := Aside0.mk H
       clear H
       go_wp2
       go_roundg k1
       case measure => have := HK1.out; omega
       case rel => exact ⟨(wrap64 ((ji6) + 1)), (x9_1), (by first | rfl | (simp; done) | (simp only [← hji6] <;> (first | rfl | simp)) | (simp [*]; done)), (Zs), H', ⟨by have := HK1.out; omega⟩, ⟨Zu BK611.out⟩, ⟨Zc1 GE611.out⟩⟩
      rw [if_neg c12] at H
      have c12b0 : decide (t613 < 0) = F := decide_eq_false c12
      clear c12
      (try simp only [c12b0])
      have H' := Aside0.mk H
      clear H
      go_wp2
      go_roundg k1
      case measure => have := HK1.out; omega
      case rel => exact ⟨(x8_1), (ji6), (Zs), (by first | rfl | (simp; done) | (simp only [← hji6] <;> (first | rfl | simp)) | (simp [*]; done)), H', ⟨by have := HK1.out; omega⟩, ⟨Zu BK611.out⟩, ⟨Zc1 GE611.out⟩⟩
     rw [if_neg c8] at H
     exact absurd H (by simp)
    rw [if_neg c7] at H
    exact absurd H (by simp)
   rw [if_neg c5] at H
   have c5b0 : decide (x8_1 < x9_1) = F := decide_eq_false c5
   clear c5
   (try simp only [c5b0])
   by_cases c13 : x8_1 < (l0.length : Int)
   ·rw [if_pos c13] at H
    have c13b0 : decide (x8_1 < (l0.length : Int)) = T := decide_eq_true c13
    clear c13
    by_cases c14 : 0 ≤ x8_1
    ·rw [if_pos c14] at H
     have c14b0 : decide (0 ≤ x8_1) = T := decide_eq_true c14
     clear c14
     replace H := Option.bind_eq_some_iff.mp H
     obtain ⟨t615, A150, H⟩ := H
     replace H : (some (x8_1, (t615 == 0))) = some (r1, r2) := H
     have A15 := Aside0.mk A150
     clear A150
     simp only [Option.some.injEq, Prod.mk.injEq] at H
     obtain ⟨rfl, rfl⟩ := H
     try go_wp2
     replace BK611 := Aside0.mk (Qad BK611.out)
     replace HB := Aside0.mk (Qag HB.out)
     have p614 : 0 ≤ (x8_1 : Int) := Ze
     have q614 : x8_1 < (l0.length : Int) := Ze
     obtain ⟨ad614, e614, hx614_0, hx614_1, hx614_2, hx614_3⟩ := at_T46 HR0.out x8_1 p614 q614
     have hw614_3 := hx614_3
     have hw614_2 := hx614_2
     have hw614_1 := hx614_1
     have hw614_0 := hx614_0
     cases e614
     replace hx614_0 := Zx HB.out hx614_0
     replace hx614_1 := Zx HB.out hx614_1
     replace hx614_2 := Zx HB.out hx614_2
     replace hx614_3 := Zx HB.out hx614_3
     replace p614 := eq_true p614
     replace q614 := eq_true q614
     refine start_ (n := 17) (S := fun w' => w'.cell? ⟨gb611, 0, none⟩ = some (.string a1_0) ∧ w'.cell? ⟨gb611, 1, none⟩ = some (.string a1_1) ∧ w'.cell? ⟨gb611, 2, none⟩ = some (.string a1_2) ∧ w'.cell? ⟨gb611, 3, none⟩ = some (.int .i64 a1_3) ∧ w'.cell? (ad614.add ((x8_1).toNat * 4)) = some (.string ((rd_T46 l0 x8_1).f0.f0)) ∧ w'.cell? ⟨(ad614.add ((x8_1).toNat * 4)).block, (ad614.add ((x8_1).toNat * 4)).off + 1, none⟩ = some (.string ((rd_T46 l0 x8_1).f0.f1)) ∧ w'.cell? ⟨(ad614.add ((x8_1).toNat * 4)).block, (ad614.add ((x8_1).toNat * 4)).off + 2, none⟩ = some (.string ((rd_T46 l0 x8_1).f1)) ∧ w'.cell? ⟨(ad614.add ((x8_1).toNat * 4)).block, (ad614.add ((x8_1).toNat * 4)).off + 3, none⟩ = some (.int .i64 ((rd_T46 l0 x8_1).f2))) (ds := []) #[F, F, F, F, F, F, F, F, F, F, F, F, F, F, F, F, F] (by kernel_rfl) rfl rfl ⟨(Qai BK611.out 0).trans rfl, (Qai BK611.out 1).trans rfl, (Qai BK611.out 2).trans rfl, (Qai BK611.out 3).trans rfl, ((HB.out.cell (World.block_lt_of_cell? w _ hw614_0)).trans hw614_0), ((HB.out.cell (World.block_lt_of_cell? w _ hw614_1)).trans hw614_1), ((HB.out.cell (World.block_lt_of_cell? w _ hw614_2)).trans hw614_2), ((HB.out.cell (World.block_lt_of_cell? w _ hw614_3)).trans hw614_3)⟩ (fun hHeld => ?_); refine QbU Qav.tab7 Qav.bits7 (fun HT_ HW_ => ?_)
     generalize wr.drew = w16 at BK611 HB hx614_0 hx614_1 hx614_2 hx614_3 hHeld ⊢
     refine pure_ (i := 0) (N := some 31) (v := ?_) (a' := ?_) #[T, F, F, F, F, F, F, F, F, F, F, F, F, F, F, F, F] rfl rfl (any_of HT_.out (by kernel_rfl)) (fun _ _ _ h => h) (Or.inl ⟨by rfl, ?_⟩) ?_ ?_
     rotate_left
     ·intro w'
      go_simp
      with_reducible rfl
     rotate_left
     ·simp only [Act.put, Zj, Zk, Zm, i64_w, i32_w]
      rfl
     refine pure_ (i := 1) (N := some 32) (v := ?_) (a' := ?_) #[T, T, F, F, F, F, F, F, F, F, F, F, F, F, F, F, F] rfl rfl (any_of HT_.out (by kernel_rfl)) (fun _ _ _ h => h) (Or.inl ⟨by rfl, ?_⟩) ?_ ?_
     rotate_left
     ·intro w'
      go_simp
      with_reducible rfl
     rotate_left
     ·simp only [Act.put, Zj, Zk, Zm, i64_w, i32_w]
      rfl
     refine pure_ (i := 2) (N := some 33) (v := ?_) (a' := ?_) #[T, T, T, F, F, F, F, F, F, F, F, F, F, F, F, F, F] rfl rfl (any_of HT_.out (by kernel_rfl)) (fun _ _ _ h => h) (Or.inl ⟨by rfl, ?_⟩) ?_ ?_
     rotate_left
     ·intro w'
      go_simp
      with_reducible rfl
     rotate_left
     ·simp only [Act.put, Zj, Zk, Zm, i64_w, i32_w]
      rfl
     refine pure_ (i := 3) (N := some 34) (v := ?_) (a' := ?_) #[T, T, T, T, F, F, F, F, F, F, F, F, F, F, F, F, F] rfl rfl (any_of HT_.out (by kernel_rfl)) (fun _ _ _ h => h) (Or.inl ⟨by rfl, ?_⟩) ?_ ?_
     rotate_left
     ·intro w'
      go_simp
      with_reducible rfl
     rotate_left
     ·simp only [Act.put, Zj, Zk, Zm, i64_w, i32_w]
      rfl
     refine pure_ (i := 4) (N := some 35) (v := ?_) (a' := ?_) #[T, T, T, T, T, F, F, F, F, F, F, F, F, F, F, F, F] rfl rfl (any_of HT_.out (by kernel_rfl)) (fun _ _ _ h => h) (Or.inl ⟨by rfl, ?_⟩) ?_ ?_
     rotate_left
     ·intro w'
      go_simp
      with_reducible rfl
     rotate_left
     ·simp only [Act.put, Zj, Zk, Zm, i64_w, i32_w]
      rfl
     refine pure_ (i := 5) (N := some 36) (v := ?_) (a' := ?_) #[T, T, T, T, T, T, F, F, F, F, F, F, F, F, F, F, F] rfl rfl (any_of HT_.out (by kernel_rfl)) (fun _ _ _ h => h) (Or.inl ⟨by rfl, ?_⟩) ?_ ?_
     rotate_left
     ·intro w'
      go_simp
      with_reducible rfl
     rotate_left
     ·simp only [Act.put, Zj, Zk, Zm, i64_w, i32_w]
      rfl
     refine pure_ (i := 6) (N := some 37) (v := ?_) (a' := ?_) #[T, T, T, T, T, T, T, F, F, F, F, F, F, F, F, F, F] rfl rfl (any_of HT_.out (by kernel_rfl)) (fun _ _ _ h => h) (Or.inl ⟨by rfl, ?_⟩) ?_ ?_
     rotate_left
     ·intro w'
      go_simp
      with_reducible rfl
     rotate_left
     ·simp only [Act.put, Zj, Zk, Zm, i64_w, i32_w]
      rfl
     refine pure_ (i := 7) (N := some 38) (v := ?_) (a' := ?_) #[T, T, T, T, T, T, T, T, F, F, F, F, F, F, F, F, F] rfl rfl (any_of HT_.out (by kernel_rfl)) (fun _ _ _ h => h) (Or.inl ⟨by rfl, ?_⟩) ?_ ?_
     rotate_left
     ·intro w'
      go_simp
      with_reducible rfl
     rotate_left
     ·simp only [Act.put, Zj, Zk, Zm, i64_w, i32_w]
      rfl
     refine pure_ (i := 8) (N := some 39) (v := ?_) (a' := ?_) #[T, T, T, T, T, T, T, T, T, F, F, F, F, F, F, F, F] rfl rfl (any_of HT_.out (by kernel_rfl)) (fun _ _ _ h => h) (Or.inl ⟨by rfl, ?_⟩) ?_ ?_
     rotate_left
     ·intro w'
      go_simp
      with_reducible rfl
     rotate_left
     ·simp only [Act.put, Zj, Zk, Zm, i64_w, i32_w]
      rfl
     refine pure_ (i := 9) (N := some 40) (v := ?_) (a' := ?_) #[T, T, T, T, T, T, T, T, T, T, F, F, F, F, F, F, F] rfl rfl (any_of HT_.out (by kernel_rfl)) (fun _ _ _ h => h) (Or.inl ⟨by rfl, ?_⟩) ?_ ?_
     rotate_left
     ·intro w'
      go_simp
      with_reducible rfl
     rotate_left
     ·simp only [Act.put, Zj, Zk, Zm, i64_w, i32_w]
      rfl
     refine take_ (i := 10) (N := some 41) (v := ?_) (a' := ?_) #[T, T, T, T, T, T, T, T, T, T, T, F, F, F, F, F, F] rfl rfl (QbD HT_.out HW_.out (by kernel_rfl)) (fun _ _ _ h => h) (Or.inl ⟨by rfl, ?_⟩) hHeld ?_ ?_
     rotate_left
     ·rintro w' ⟨s0, s1, s2, s3, s4, s5, s6, s7⟩
      go_simp
      with_reducible rfl
     rotate_left
     ·simp only [Act.put, Zj, Zk, Zm, i64_w, i32_w]
      rfl
     refine take_ (i := 11) (N := some 42) (v := ?_) (a' := ?_) #[T, T, T, T, T, T, T, T, T, T, T, T, F, F, F, F, F] rfl rfl (QbD HT_.out HW_.out (by kernel_rfl)) (fun _ _ _ h => h) (Or.inl ⟨by rfl, ?_⟩) hHeld ?_ ?_
     rotate_left
     ·rintro w' ⟨s0, s1, s2, s3, s4, s5, s6, s7⟩
      go_simp
      with_reducible rfl
     rotate_left
     ·simp only [Act.put, Zj, Zk, Zm, i64_w, i32_w]
      rfl
     refine one_ (i := 12) (N := some 43) #[T, T, T, T, T, T, T, T, T, T, T, T, T, F, F, F, F] rfl rfl (one_of HT_.out (by kernel_rfl)) (by decide) (fun K hK => ?_)
     refine goesV_ Try.func74 (by kernel_rfl) rfl #[.agg #[.string ((rd_T46 l0 x8_1).f0.f0), .string ((rd_T46 l0 x8_1).f0.f1), .string ((rd_T46 l0 x8_1).f1), .int .i64 ((rd_T46 l0 x8_1).f2)], .agg #[.string a1_0, .string a1_1, .string a1_2, .int .i64 a1_3]] (by rfl) rfl rfl rfl (Zl) ?_
     with_reducible refine (QbA.calls ((rd_T46 l0 x8_1).f0.f0) ((rd_T46 l0 x8_1).f0.f1) ((rd_T46 l0 x8_1).f1) ((rd_T46 l0 x8_1).f2) a1_0 a1_1 a1_2 a1_3 t615 _ A15.out).mono ?_
     rintro e w17 ⟨rfl, hb⟩
     refine ⟨_, rfl, ?_⟩
     replace BK611 := Aside0.mk (Zi BK611.out hb)
     replace HB := Aside0.mk (Qan (Zc1 GE611.out) hb)
     (try clear hb)
     (try clear hb2)
     (try clear hk)
     (try clear hi)
     refine hK.out _ _ ⟨(Qai BK611.out 0).trans rfl, (Qai BK611.out 1).trans rfl, (Qai BK611.out 2).trans rfl, (Qai BK611.out 3).trans rfl, ((HB.out.cell (World.block_lt_of_cell? w _ hw614_0)).trans hw614_0), ((HB.out.cell (World.block_lt_of_cell? w _ hw614_1)).trans hw614_1), ((HB.out.cell (World.block_lt_of_cell? w _ hw614_2)).trans hw614_2), ((HB.out.cell (World.block_lt_of_cell? w _ hw614_3)).trans hw614_3)⟩ (fun hHeld => ?_)
     clear hK K
     refine norm_ (a' := ?_) ?_ ?_
     rotate_left
     ·show Act.put _ (some 43) _ = _
      simp only [Act.put, Zj, Zk, Zm, i64_w, i32_w]
      rfl
     refine pure_ (i := 13) (N := some 44) (v := ?_) (a' := ?_) #[T, T, T, T, T, T, T, T, T, T, T, T, T, T, F, F, F] rfl rfl (any_of HT_.out (by kernel_rfl)) (fun _ _ _ h => h) (Or.inl ⟨by rfl, ?_⟩) ?_ ?_
     rotate_left
     ·intro w'
      go_simp
      with_reducible rfl
     rotate_left
     ·simp only [Act.put, Zj, Zk, Zm, i64_w, i32_w]
      rfl
     refine pure_ (i := 14) (N := some 45) (v := ?_) (a' := ?_) #[T, T, T, T, T, T, T, T, T, T, T, T, T, T, T, F, F] rfl rfl (any_of HT_.out (by kernel_rfl)) (fun _ _ _ h => h) (Or.inl ⟨by rfl, ?_⟩) ?_ ?_
     rotate_left
     ·intro w'
      go_simp
      with_reducible rfl
     rotate_left
     ·simp only [Act.put, Zj, Zk, Zm, i64_w, i32_w]
      rfl
     refine pure_ (i := 15) (N := some 6) (v := ?_) (a' := ?_) #[T, T, T, T, T, T, T, T, T, T, T, T, T, T, T, T, F] rfl rfl (any_of HT_.out (by kernel_rfl)) (fun _ _ _ h => h) (Or.inl ⟨by rfl, ?_⟩) ?_ ?_
     rotate_left
     ·intro w'
      go_simp
      with_reducible rfl
     rotate_left
     ·simp only [Act.put, Zj, Zk, Zm, i64_w, i32_w]
      rfl
     refine pure_ (i := 16) (N := some 7) (v := ?_) (a' := ?_) #[T, T, T, T, T, T, T, T, T, T, T, T, T, T, T, T, T] rfl rfl (any_of HT_.out (by kernel_rfl)) (fun _ _ _ h => h) (Or.inl ⟨by rfl, ?_⟩) ?_ ?_
     rotate_left
     ·intro w'
      go_simp
      with_reducible rfl
     rotate_left
     ·simp only [Act.put, Zj, Zk, Zm, i64_w, i32_w]
      rfl
     refine done_ (Qb1 HT_.out (by kernel_rfl)) ?_
     try go_wp2
     go_ret2
     exact ⟨Zq, Zc1 GE611.out⟩
    rw [if_neg c14] at H
    exact absurd H (by simp)
   rw [if_neg c13] at H
   have c13b0 : decide (x8_1 < (l0.length : Int)) = F := decide_eq_false c13
   clear c13
   simp only [Option.some.injEq, Prod.mk.injEq] at H
   obtain ⟨rfl, rfl⟩ := H
   try go_wp2
   replace BK611 := Aside0.mk (Qad BK611.out)
   replace HB := Aside0.mk (Qag HB.out)
   refine start_ (n := 17) (S := fun w' => True) (ds := []) #[F, F, F, F, F, F, F, F, F, F, F, F, F, F, F, F, F] (by kernel_rfl) rfl rfl trivial (fun hHeld => ?_); refine QbU Qav.tab7 Qav.bits7 (fun HT_ HW_ => ?_)
   generalize wr.drew = w18 at BK611 HB hHeld ⊢
   refine pure_ (i := 0) (N := some 31) (v := ?_) (a' := ?_) #[T, F, F, F, F, F, F, F, F, F, F, F, F, F, F, F, F] rfl rfl (any_of HT_.out (by kernel_rfl)) (fun _ _ _ h => h) (Or.inl ⟨by rfl, ?_⟩) ?_ ?_
   rotate_left
   ·intro w'
    go_simp
    with_reducible rfl
   rotate_left
   ·simp only [Act.put, Zj, Zk, Zm, i64_w, i32_w]
    rfl
   refine pure_ (i := 1) (N := some 32) (v := ?_) (a' := ?_) #[T, T, F, F, F, F, F, F, F, F, F, F, F, F, F, F, F] rfl rfl (any_of HT_.out (by kernel_rfl)) (fun _ _ _ h => h) (Or.inl ⟨by rfl, ?_⟩) ?_ ?_
   rotate_left
   ·intro w'
    go_simp
    with_reducible rfl
   rotate_left
   ·simp only [Act.put, Zj, Zk, Zm, i64_w, i32_w]
    rfl
   refine pure_ (i := 2) (N := some 33) (v := ?_) (a' := ?_) #[T, T, T, F, F, F, F, F, F, F, F, F, F, F, F, F, F] rfl rfl (any_of HT_.out (by kernel_rfl)) (fun _ _ _ h => h) (Or.inl ⟨by rfl, ?_⟩) ?_ ?_
   rotate_left
   ·intro w'
    go_simp
    with_reducible rfl
   rotate_left
   ·simp only [Act.put, Zj, Zk, Zm, i64_w, i32_w]
    rfl
   refine pure_ (i := 3) (N := some 34) (v := ?_) (a' := ?_) #[T, T, T, T, F, F, F, F, F, F, F, F, F, F, F, F, F] rfl rfl (any_of HT_.out (by kernel_rfl)) (fun _ _ _ h => h) (Or.inl ⟨by rfl, ?_⟩) ?_ ?_
   rotate_left
   ·intro w'
    go_simp
    with_reducible rfl
   rotate_left
   ·simp only [Act.put, Zj, Zk, Zm, i64_w, i32_w]
    rfl
   refine pure_ (i := 4) (N := some 35) (v := ?_) (a' := ?_) #[T, T, T, T, T, F, F, F, F, F, F, F, F, F, F, F, F] rfl rfl (any_of HT_.out (by kernel_rfl)) (fun _ _ _ h => h) (Or.inl ⟨by rfl, ?_⟩) ?_ ?_
   rotate_left
   ·intro w'
    go_simp
    with_reducible rfl
   rotate_left
   ·simp only [Act.put, Zj, Zk, Zm, i64_w, i32_w]
    rfl
   refine pure_ (i := 5) (N := some 36) (v := ?_) (a' := ?_) #[T, T, T, T, T, T, F, F, F, F, F, F, F, F, F, F, F] rfl rfl (any_of HT_.out (by kernel_rfl)) (fun _ _ _ h => h) (Or.inl ⟨by rfl, ?_⟩) ?_ ?_
   rotate_left
   ·intro w'
    go_simp
    with_reducible rfl
   rotate_left
   ·simp only [Act.put, Zj, Zk, Zm, i64_w, i32_w]
    rfl
   refine pure_ (i := 6) (N := some 37) (v := undef) (a' := ?_) #[T, T, T, T, T, T, T, F, F, F, F, F, F, F, F, F, F] rfl rfl (any_of HT_.out (by kernel_rfl)) (fun _ _ _ h => h) (Or.inr ⟨by rfl, rfl⟩) ?_ ?_
   rotate_left
   ·simp only [Act.put, Zj, Zk, Zm, i64_w, i32_w]
    rfl
   refine pure_ (i := 7) (N := some 38) (v := undef) (a' := ?_) #[T, T, T, T, T, T, T, T, F, F, F, F, F, F, F, F, F] rfl rfl (any_of HT_.out (by kernel_rfl)) (fun _ _ _ h => h) (Or.inr ⟨by rfl, rfl⟩) ?_ ?_
   rotate_left
   ·simp only [Act.put, Zj, Zk, Zm, i64_w, i32_w]
    rfl
   refine pure_ (i := 8) (N := some 39) (v := undef) (a' := ?_) #[T, T, T, T, T, T, T, T, T, F, F, F, F, F, F, F, F] rfl rfl (any_of HT_.out (by kernel_rfl)) (fun _ _ _ h => h) (Or.inr ⟨by rfl, rfl⟩) ?_ ?_
   rotate_left
   ·simp only [Act.put, Zj, Zk, Zm, i64_w, i32_w]
    rfl
   refine pure_ (i := 9) (N := some 40) (v := undef) (a' := ?_) #[T, T, T, T, T, T, T, T, T, T, F, F, F, F, F, F, F] rfl rfl (any_of HT_.out (by kernel_rfl)) (fun _ _ _ h => h) (Or.inr ⟨by rfl, rfl⟩) ?_ ?_
   rotate_left
   ·simp only [Act.put, Zj, Zk, Zm, i64_w, i32_w]
    rfl
   refine pure_ (i := 10) (N := some 41) (v := undef) (a' := ?_) #[T, T, T, T, T, T, T, T, T, T, T, F, F, F, F, F, F] rfl rfl (any_of HT_.out (by kernel_rfl)) (fun _ _ _ h => h) (Or.inr ⟨by rfl, rfl⟩) ?_ ?_
   rotate_left
   ·simp only [Act.put, Zj, Zk, Zm, i64_w, i32_w]
    rfl
   refine pure_ (i := 11) (N := some 42) (v := undef) (a' := ?_) #[T, T, T, T, T, T, T, T, T, T, T, T, F, F, F, F, F] rfl rfl (any_of HT_.out (by kernel_rfl)) (fun _ _ _ h => h) (Or.inr ⟨by rfl, rfl⟩) ?_ ?_
   rotate_left
   ·simp only [Act.put, Zj, Zk, Zm, i64_w, i32_w]
    rfl
   refine pure_ (i := 12) (N := some 43) (v := undef) (a' := ?_) #[T, T, T, T, T, T, T, T, T, T, T, T, T, F, F, F, F] rfl rfl (any_of HT_.out (by kernel_rfl)) (fun _ _ _ h => h) (Or.inr ⟨by rfl, rfl⟩) ?_ ?_
   rotate_left
   ·simp only [Act.put, Zj, Zk, Zm, i64_w, i32_w]
    rfl
   refine pure_ (i := 13) (N := some 44) (v := undef) (a' := ?_) #[T, T, T, T, T, T, T, T, T, T, T, T, T, T, F, F, F] rfl rfl (any_of HT_.out (by kernel_rfl)) (fun _ _ _ h => h) (Or.inr ⟨by rfl, rfl⟩) ?_ ?_
   rotate_left
   ·simp only [Act.put, Zj, Zk, Zm, i64_w, i32_w]
    rfl
   refine pure_ (i := 14) (N := some 45) (v := ?_) (a' := ?_) #[T, T, T, T, T, T, T, T, T, T, T, T, T, T, T, F, F] rfl rfl (any_of HT_.out (by kernel_rfl)) (fun _ _ _ h => h) (Or.inl ⟨by rfl, ?_⟩) ?_ ?_
   rotate_left
   ·intro w'
    go_simp
    with_reducible rfl
   rotate_left
   ·simp only [Act.put, Zj, Zk, Zm, i64_w, i32_w]
    rfl
   refine pure_ (i := 15) (N := some 6) (v := ?_) (a' := ?_) #[T, T, T, T, T, T, T, T, T, T, T, T, T, T, T, T, F] rfl rfl (any_of HT_.out (by kernel_rfl)) (fun _ _ _ h => h) (Or.inl ⟨by rfl, ?_⟩) ?_ ?_
   rotate_left
   ·intro w'
    go_simp
    with_reducible rfl
   rotate_left
   ·simp only [Act.put, Zj, Zk, Zm, i64_w, i32_w]
    rfl
   refine pure_ (i := 16) (N := some 7) (v := ?_) (a' := ?_) #[T, T, T, T, T, T, T, T, T, T, T, T, T, T, T, T, T] rfl rfl (any_of HT_.out (by kernel_rfl)) (fun _ _ _ h => h) (Or.inl ⟨by rfl, ?_⟩) ?_ ?_
   rotate_left
   ·intro w'
    go_simp
    with_reducible rfl
   rotate_left
   ·simp only [Act.put, Zj, Zk, Zm, i64_w, i32_w]
    rfl
   refine done_ (Qb1 HT_.out (by kernel_rfl)) ?_
   try go_wp2
   go_ret2
   exact ⟨Zq, Zc1 GE611.out⟩
def Qbe.j0 : Nat → List (S46) → Int → Int → Bool → ByteArray → ByteArray → ByteArray → Int → Option ((List (S46)) × Int)
 | 0, _, _, _, _, _, _, _, _ => none
 | k + 1, x0, x3, x11, x40, x640000, x640001, x640002, x640003 => if x40 = T then (some (([] : List (S46)), 23)) else (if 0 ≤ x11 then (if x11 < (x0.length : Int) then (if (wrap64 (((rd_T46 x0 x11).f2) - x3)) = 0 then ((Qbx.f x0 x11 1 ([] : List (S46))).bind fun t644 => (some (t644, 0))) else ((Qbx.f x0 x11 1 (([(⟨(⟨x640000, x640001⟩ : S44), x640002, wrap64 (((rd_T46 x0 x11).f2) - x3)⟩ : S46)] : List (S46)))).bind fun t650 => (some (t650, 0)))) else (none)) else (none))
def Qbe.f (k : Nat) (l0 : List (S46)) (a1_0 : ByteArray) (a1_1 : ByteArray) (a2 : ByteArray) (a3 : Int) : Option ((List (S46)) × Int) := (QaD.f k l0).bind fun t637 => (if t637 = 0 then ((QbS.f a3).bind fun t638 => (if t638 = T then ((Qav.f k l0 a1_0 a1_1 a2 0).bind fun bt640 => (if bt640.2 = T then (if 0 ≤ bt640.1 then (if bt640.1 < (l0.length : Int) then (Qbe.j0 k l0 a3 bt640.1 (decide (((rd_T46 l0 bt640.1).f2) < a3)) a1_0 a1_1 a2 0) else (none)) else (none)) else (Qbe.j0 k l0 a3 bt640.1 T a1_0 a1_1 a2 0))) else (some (([] : List (S46)), 18)))) else (some (([] : List (S46)), t637)))
theorem Qbe.mono_l : ∀ k, (∀ y0 y1 y2 y3 y4 y5 y6 y7, LeO (Qbe.j0 k y0 y1 y2 y3 y4 y5 y6 y7) (Qbe.j0 (k + 1) y0 y1 y2 y3 y4 y5 y6 y7))
 | 0 => fun _ _ _ _ _ _ _ _ r h => by simp [Qbe.j0] at h
 | k + 1 => by
  have ih0 := Qbe.mono_l k
  intro y0 y1 y2 y3 y4 y5 y6 y7
  unfold Qbe.j0
  exact ZM3 ih0 QaD.mono Qav.mono
theorem Qbe.mono : ∀ a0 a1 a2 a3 a4 k, LeO (Qbe.f k a0 a1 a2 a3 a4) (Qbe.f (k + 1) a0 a1 a2 a3 a4) := by
 intro a0 a1 a2 a3 a4 k
 have ih0 := Qbe.mono_l k
 unfold Qbe.f
 exact ZM3 ih0 QaD.mono Qav.mono
theorem Qbe.calls (k : Nat) (A0 : Option Addr) (c0 : Nat) (l0 : List (S46)) (a1_0 : ByteArray) (a1_1 : ByteArray) (a2 : ByteArray) (a3 : Int) (r1 : List (S46)) (r2 : Int) (w : World) (hr0 : Kd.C k46 w A0 l0.length l0) (hc0 : l0.length ≤ c0) (h : Qbe.f k l0 a1_0 a1_1 a2 a3 = some (r1, r2)) :
  Calls Try.prog 47 #[.slice A0 l0.length c0, .agg #[.string a1_0, .string a1_1], .string a2, .int .i64 a3] w fun e w' => ∃ v0_ : Value, e = .returned (.tuple #[v0_, .int .i64 r2]) ∧ Kd.R k46 46 w' w.heap.size (fun _ => True) v0_ r1 ∧ Below w.heap.size w w' := by
 have hu44 := Try.underlying44
 have hu46 := Try.underlying46
 have HR0 := Aside0.mk hr0
 have HC0 := Aside0.mk hc0
 clear hr0 hc0
 have HB := Aside0.mk (Below.refl w.heap.size w)
 have H : ((QaD.f k l0).bind fun t637 => (if t637 = 0 then ((QbS.f a3).bind fun t638 => (if t638 = T then ((Qav.f k l0 a1_0 a1_1 a2 0).bind fun bt640 => (if bt640.2 = T then (if 0 ≤ bt640.1 then (if bt640.1 < (l0.length : Int) then (Qbe.j0 k l0 a3 bt640.1 (decide (((rd_T46 l0 bt640.1).f2) < a3)) a1_0 a1_1 a2 0) else (none)) else (none)) else (Qbe.j0 k l0 a3 bt640.1 T a1_0 a1_1 a2 0))) else (some (([] : List (S46)), 18)))) else (some (([] : List (S46)), t637)))) = some (r1, r2) := h
 clear h
 replace H := Option.bind_eq_some_iff.mp H
 obtain ⟨t637, A50, H⟩ := H
 replace H : (if t637 = 0 then ((QbS.f a3).bind fun t638 => (if t638 = T then ((Qav.f k l0 a1_0 a1_1 a2 0).bind fun bt640 => (if bt640.2 = T then (if 0 ≤ bt640.1 then (if bt640.1 < (l0.length : Int) then (Qbe.j0 k l0 a3 bt640.1 (decide (((rd_T46 l0 bt640.1).f2) < a3)) a1_0 a1_1 a2 0) else (none)) else (none)) else (Qbe.j0 k l0 a3 bt640.1 T a1_0 a1_1 a2 0))) else (some (([] : List (S46)), 18)))) else (some (([] : List (S46)), t637))) = some (r1, r2) := H
 have A5 := Aside0.mk A50
 clear A50
 go_enter Try.func47, Try.ntmps47
 go_upto_if 16 with (first | ((with_reducible refine QaM (N := 5) rfl ?_); refine Zbx (N := 5) (cs := #[.string a1_0, .string a1_1]) (t := 44) ?_; intro gb636 hg w6 hbox hb; have BK636 := Aside0.mk (hbox); have GW636 := Aside0.mk (Zt w hg (Zb)); have GE636 := GW636; replace HB := Aside0.mk (Qan (Zb) hb); clear hb hbox hg) | ((with_reducible refine Qay (f := 71) rfl ?_); refine goesL_ (some 14) rfl rfl Try.func71 (by kernel_rfl) rfl #[.slice A0 l0.length c0] rfl (Zl) ?_; (with_reducible refine (QaD.calls k _ _ l0 t637 _ ?side1 ?side2 A5.out).mono ?_); (case side1 => exact Zv (Kd.C_below HR0.out HB.out)); (case side2 => exact HC0.out); rintro e w7 ⟨rfl, hb⟩; refine ⟨_, rfl, ?_⟩; replace BK636 := Aside0.mk (Zi BK636.out hb); replace HB := Aside0.mk (Qan (Zc1 GE636.out) hb); (try clear hb); (try clear hb2); (try clear hk); (try clear hi)))
 (try simp only [Act.put, Zj, Zk, Zm])
 by_cases c8 : t637 = 0
 ·rw [if_pos c8] at H
  have c8b0 : (t637 == 0) = T := beq_iff_eq.mpr c8
  have c8b1 : (t637 != 0) = F := bne_eq_false_iff_eq.mpr c8
  clear c8
  (try simp only [c8b0, c8b1])
  replace H := Option.bind_eq_some_iff.mp H
  obtain ⟨t638, A90, H⟩ := H
  replace H : (if t638 = T then ((Qav.f k l0 a1_0 a1_1 a2 0).bind fun bt640 => (if bt640.2 = T then (if 0 ≤ bt640.1 then (if bt640.1 < (l0.length : Int) then (Qbe.j0 k l0 a3 bt640.1 (decide (((rd_T46 l0 bt640.1).f2) < a3)) a1_0 a1_1 a2 0) else (none)) else (none)) else (Qbe.j0 k l0 a3 bt640.1 T a1_0 a1_1 a2 0))) else (some (([] : List (S46)), 18))) = some (r1, r2) := H
  have A9 := Aside0.mk A90
  clear A90
  go_upto_if 20 with (first | ((with_reducible refine Qay (f := 72) rfl ?_); refine goesL_ (some 19) rfl rfl Try.func72 (by kernel_rfl) rfl #[.int .i64 a3] rfl (Zl) ?_; (with_reducible refine (QbS.calls a3 t638 _ A9.out).mono ?_); rintro e w' ⟨rfl, ⟨nd, rfl⟩⟩; refine ⟨_, rfl, ?_⟩))
  (try simp only [Act.put, Zj, Zk, Zm])
  by_cases c10 : t638 = T
  ·subst c10
   have H1 : ((Qav.f k l0 a1_0 a1_1 a2 0).bind fun bt640 => (if bt640.2 = T then (if 0 ≤ bt640.1 then (if bt640.1 < (l0.length : Int) then (Qbe.j0 k l0 a3 bt640.1 (decide (((rd_T46 l0 bt640.1).f2) < a3)) a1_0 a1_1 a2 0) else (none)) else (none)) else (Qbe.j0 k l0 a3 bt640.1 T a1_0 a1_1 a2 0))) = some (r1, r2) := by rw [if_pos rfl] at H; exact H
   clear H
   have H := H1
   clear H1
   replace H := Option.bind_eq_some_iff.mp H
   obtain ⟨⟨t640, t641⟩, A110, H⟩ := H
   replace H : (if t641 = T then (if 0 ≤ t640 then (if t640 < (l0.length : Int) then (Qbe.j0 k l0 a3 t640 (decide (((rd_T46 l0 t640).f2) < a3)) a1_0 a1_1 a2 0) else (none)) else (none)) else (Qbe.j0 k l0 a3 t640 T a1_0 a1_1 a2 0)) = some (r1, r2) := H
   have A11 := Aside0.mk A110
   clear A110
   have HC12 := Aside0.mk H
   clear H
   obtain ⟨hcz13_0, hfz13_0⟩ := Zy (v := (.string a1_0)) BK636.out 0
   obtain ⟨hcz13_1, hfz13_1⟩ := Zy (v := (.string a1_1)) BK636.out 1
   go_upto_region 8 with (first | ((with_reducible refine QaM (N := 10) rfl ?_); refine Zbx (N := 10) (cs := #[.string (⟨#[]⟩ : ByteArray), .string (⟨#[]⟩ : ByteArray), .string (⟨#[]⟩ : ByteArray), .int .i64 0]) (t := 46) ?_; intro gb639 hg w14 hbox hb; have BK639 := Aside0.mk (hbox); have GW639 := Aside0.mk (Zt w hg (Zc1 GE636.out)); have GE639 := GW639; have NB636_639 := Aside0.mk (Zn hg BK636.out); have NB639_636 := Aside0.mk NB636_639.out.symm; replace BK636 := Aside0.mk (Zi BK636.out hb); replace HB := Aside0.mk (Qan (Zc1 GE636.out) hb); clear hb hbox hg; have hnb15 := NB639_636.out; have hnc15 := NB636_639.out; obtain ⟨hcz16_0, hfz16_0⟩ := Zy (v := (.string (⟨#[]⟩ : ByteArray))) BK639.out 0; obtain ⟨hcz16_1, hfz16_1⟩ := Zy (v := (.string (⟨#[]⟩ : ByteArray))) BK639.out 1; obtain ⟨hcz16_2, hfz16_2⟩ := Zy (v := (.string (⟨#[]⟩ : ByteArray))) BK639.out 2; obtain ⟨hcz16_3, hfz16_3⟩ := Zy (v := (.int .i64 0)) BK639.out 3) | ((with_reducible refine Qay (f := 73) rfl ?_); refine goesL_ (some 27) rfl rfl Try.func73 (by kernel_rfl) rfl #[.slice A0 l0.length c0, .agg #[.string a1_0, .string a1_1, .string a2, .int .i64 0], .func (.func 74) #[] #[]] rfl (Zl) ?_; (with_reducible refine (Qav.calls k _ _ l0 a1_0 a1_1 a2 0  t640 t641 _ ?side1 ?side2 A11.out).mono ?_); (case side1 => exact Kd.C_below HR0.out (Zc2 GE636.out GE639.out)); (case side2 => exact HC0.out); rintro e w17 ⟨rfl, hb⟩; refine ⟨_, rfl, ?_⟩; replace BK636 := Aside0.mk (Qal (g := gb636) (o := .cells #[.string a1_0, .string a1_1] 44 (0, 0)) (Zg4 BK636.out NB636_639.out NB636_639.out NB636_639.out NB636_639.out) hb); replace BK639 := Aside0.mk (Zpi #[.string a1_0, .string a1_1, .string a2, .int .i64 0] BK639.out hb); replace HB := Aside0.mk (Qan (Zc2 GE636.out GE639.out) hb); (try clear hb); (try clear hb2); (try clear hk); (try clear hi)))
   (try simp only [Act.put, Zj, Zk, Zm])
   go_cut [40] (fun v40 wc => ∃ (kq : Nat) (x40_11 : Bool), v40 = .bool x40_11 ∧ Aside0 (Qbe.j0 kq l0 a3 t640 x40_11 a1_0 a1_1 a2 0 = some (r1, r2)) ∧ Aside0 (kq ≤ k) ∧ Aside0 (wc.heap[gb636]? = some (.cells #[.string a1_0, .string a1_1] 44 (0, 0))) ∧ Aside0 (wc.heap[gb639]? = some (.cells #[.string a1_0, .string a1_1, .string a2, .int .i64 0] 46 (0, 0))) ∧ Aside0 (Below w.heap.size w wc))
   case first =>
    have H := HC12.out
    clear HC12
    by_cases c18 : t641 = T
    ·subst c18
     have H1 : (if 0 ≤ t640 then (if t640 < (l0.length : Int) then (Qbe.j0 k l0 a3 t640 (decide (((rd_T46 l0 t640).f2) < a3)) a1_0 a1_1 a2 0) else (none)) else (none)) = some (r1, r2) := by rw [if_pos rfl] at H; exact H
     clear H
     have H := H1
     clear H1
     by_cases c19 : 0 ≤ t640
     ·rw [if_pos c19] at H
      have c19b0 : decide (0 ≤ t640) = T := decide_eq_true c19
      clear c19
      by_cases c20 : t640 < (l0.length : Int)
      ·rw [if_pos c20] at H
       have c20b0 : decide (t640 < (l0.length : Int)) = T := decide_eq_true c20
       clear c20
       have H' := Aside0.mk H
       clear H
       have p642 : 0 ≤ (t640 : Int) := Ze
       have q642 : t640 < (l0.length : Int) := Ze
       obtain ⟨ad642, e642, hx642_0, hx642_1, hx642_2, hx642_3⟩ := at_T46 HR0.out t640 p642 q642
       cases e642
       replace hx642_0 := Zx HB.out hx642_0
       replace hx642_1 := Zx HB.out hx642_1
       replace hx642_2 := Zx HB.out hx642_2
       replace hx642_3 := Zx HB.out hx642_3
       replace p642 := eq_true p642
       replace q642 := eq_true q642
       go_wp2
       go_meet
       case rel => exact ⟨_, (decide (((rd_T46 l0 t640).f2) < a3)), (Zs), H', ⟨by first | omega | exact Nat.le_refl _⟩, ⟨Zu BK636.out⟩, ⟨Zu BK639.out⟩, ⟨Zc2 GE636.out GE639.out⟩⟩
      rw [if_neg c20] at H
      exact absurd H (by simp)
     rw [if_neg c19] at H
     exact absurd H (by simp)
    replace c18 := Bool.eq_false_iff.mpr c18
    subst c18
    have H1 : (Qbe.j0 k l0 a3 t640 T a1_0 a1_1 a2 0) = some (r1, r2) := by rw [if_neg (show ¬ (F = T) by decide)] at H; exact H
    clear H
    have H := H1
    clear H1
    have H' := Aside0.mk H
    clear H
    go_wp2
    go_meet
    case rel => exact ⟨_, (T), (Zs), H', ⟨by first | omega | exact Nat.le_refl _⟩, ⟨Zu BK636.out⟩, ⟨Zu BK639.out⟩, ⟨Zc2 GE636.out GE639.out⟩⟩
   case rest =>
    clear HC12
    try clear c1
    try clear c2
    try clear p2
    try clear c4
    try clear p6
    try clear q6
    try clear hx6
    try clear c7
    try clear c8
    try clear c8b0
    try clear c8b1
    try clear c10
    try clear c15
    try clear c18
    try clear c19
    try clear c19b0
    try clear c20
    try clear c20b0
    try clear hcz13_0
    try clear hcz13_1
    try clear hcz16_0
    try clear hcz16_1
    try clear hcz16_2
    try clear hcz16_3
    try clear hfz13_0
    try clear hfz13_1
    try clear hfz16_0
    try clear hfz16_1
    try clear hfz16_2
    try clear hfz16_3
    try clear hx642_0
    try clear hx642_1
    try clear hx642_2
    try clear hx642_3
    try clear p642
    try clear q642
    obtain ⟨kq, x40_11, rfl, HA, HJ11, BK636, BK639, HB⟩ := hcut
    cases kq with
    | zero => exact absurd HA.out (by simp [Qbe.j0])
    | succ kj11 =>
     have H := HA.out
     clear HA
     simp only [Qbe.j0] at H
     by_cases c21 : x40_11 = T
     ·subst c21
      have H1 : (some (([] : List (S46)), 23)) = some (r1, r2) := by rw [if_pos rfl] at H; exact H
      clear H
      have H := H1
      clear H1
      simp only [Option.some.injEq, Prod.mk.injEq] at H
      obtain ⟨rfl, rfl⟩ := H
      go_wp2
      go_ret2
      exact ⟨_, Zq, by first | exact Kd.R_nil _ _ _ _ _ | exact Kd.N_nil _ _ _ _ _ | exact Kd.V_nil _ _ _ _ _ | exact Kd.Q_nil _ _ _ _ _ | exact Kd.S_nil _ _ _ _ _, Zc2 GE636.out GE639.out⟩
     replace c21 := Bool.eq_false_iff.mpr c21
     subst c21
     have H1 : (if 0 ≤ t640 then (if t640 < (l0.length : Int) then (if (wrap64 (((rd_T46 l0 t640).f2) - a3)) = 0 then ((Qbx.f l0 t640 1 ([] : List (S46))).bind fun t644 => (some (t644, 0))) else ((Qbx.f l0 t640 1 (([(⟨(⟨a1_0, a1_1⟩ : S44), a2, wrap64 (((rd_T46 l0 t640).f2) - a3)⟩ : S46)] : List (S46)))).bind fun t650 => (some (t650, 0)))) else (none)) else (none)) = some (r1, r2) := by rw [if_neg (show ¬ (F = T) by decide)] at H; exact H
     clear H
     have H := H1
     clear H1
     by_cases c22 : 0 ≤ t640
     ·rw [if_pos c22] at H
      have c22b0 : decide (0 ≤ t640) = T := decide_eq_true c22
      clear c22
      (try simp only [c22b0])
      by_cases c23 : t640 < (l0.length : Int)
      ·rw [if_pos c23] at H
       have c23b0 : decide (t640 < (l0.length : Int)) = T := decide_eq_true c23
       clear c23
       have p643 : 0 ≤ (t640 : Int) := Ze
       have q643 : t640 < (l0.length : Int) := Ze
       obtain ⟨ad643, e643, hx643_0, hx643_1, hx643_2, hx643_3⟩ := at_T46 HR0.out t640 p643 q643
       cases e643
       replace hx643_0 := Zx HB.out hx643_0
       replace hx643_1 := Zx HB.out hx643_1
       replace hx643_2 := Zx HB.out hx643_2
       replace hx643_3 := Zx HB.out hx643_3
       replace p643 := eq_true p643
       replace q643 := eq_true q643
       have hnb24 := NB639_636.out
       have hnc24 := NB636_639.out
       obtain ⟨hcz25_0, hfz25_0⟩ := Zy (v := (.string a1_0)) BK639.out 0
       obtain ⟨hcz25_1, hfz25_1⟩ := Zy (v := (.string a1_1)) BK639.out 1
       obtain ⟨hcz25_2, hfz25_2⟩ := Zy (v := (.string a2)) BK639.out 2
       obtain ⟨hcz25_3, hfz25_3⟩ := Zy (v := (.int .i64 0)) BK639.out 3
       go_upto_if 51 with (fail)
       by_cases c26 : (wrap64 (((rd_T46 l0 t640).f2) - a3)) = 0
       ·rw [if_pos c26] at H
        have c26b0 : ((wrap64 (((rd_T46 l0 t640).f2) - a3)) == 0) = T := beq_iff_eq.mpr c26
        have c26b1 : ((wrap64 (((rd_T46 l0 t640).f2) - a3)) != 0) = F := bne_eq_false_iff_eq.mpr c26
        clear c26
        (try simp only [c26b0, c26b1])
        replace H := Option.bind_eq_some_iff.mp H
        obtain ⟨t644, A270, H⟩ := H
        replace H : (some (t644, 0)) = some (r1, r2) := H
        have A27 := Aside0.mk A270
        clear A270
        simp only [Option.some.injEq, Prod.mk.injEq] at H
        obtain ⟨rfl, rfl⟩ := H
        go_wp2_with (first | ((with_reducible refine Qay (f := 75) rfl ?_); refine goesL_ (some 54) rfl rfl Try.func75 (by kernel_rfl) rfl #[.slice (some ad643) l0.length c0, .int .i64 t640, .int .i64 1, .slice none 0 0] rfl (Zl) ?_; (refine (Qbx.calls _ _ l0 t640 1 _ _ ([] : List (S46)) t644 _ ?side1 ?side2 ?side3 ?side4 A27.out).mono ?_); (case side1 => exact Kd.C_below HR0.out (Zc2 GE636.out GE639.out)); (case side2 => exact HC0.out); (case side3 => exact Kd.C_nil _ _); (case side4 => exact Nat.le_refl _); rintro e w28 ⟨v645, rfl, ho0, hb⟩; refine ⟨_, rfl, ?_⟩; have HO646 := Aside0.mk (Kd.R_lower (Kd.R_newB ho0 (g := gb639) (o := .cells #[.string a1_0, .string a1_1, .string a2, .int .i64 (wrap64 (((rd_T46 l0 t640).f2) - a3))] 46 (0, 0)) (Zp2 BK639.out)) (Qam (Zc2 GE636.out GE639.out))); replace BK636 := Aside0.mk (Qal (g := gb636) (o := .cells #[.string a1_0, .string a1_1] 44 (0, 0)) (Zg1 BK636.out NB636_639.out) hb); replace BK639 := Aside0.mk (Zpi #[.string a1_0, .string a1_1, .string a2, .int .i64 (wrap64 (((rd_T46 l0 t640).f2) - a3))] BK639.out hb); replace HB := Aside0.mk (Qan (Zc2 GE636.out GE639.out) hb); (try clear hb); (try clear hb2); (try clear hk); (try clear hi); (try clear ho0)))
        go_ret2
        exact ⟨_, Zq, by (with_reducible repeat (first | apply Kd.R_alloc | apply Kd.R_drewN | apply Kd.R_drew)); exact Kd.R_mono HO646.out (fun _ hk => trivial), Zc2 GE636.out GE639.out⟩
       rw [if_neg c26] at H
       have c26b0 : ((wrap64 (((rd_T46 l0 t640).f2) - a3)) == 0) = F := beq_eq_false_iff_ne.mpr c26
       have c26b1 : ((wrap64 (((rd_T46 l0 t640).f2) - a3)) != 0) = T := bne_iff_ne.mpr c26
       (try simp only [c26b0, c26b1])
       obtain ⟨y647, hy647⟩ : ∃ y_ : List (S46), y_ = (([(⟨(⟨a1_0, a1_1⟩ : S44), a2, wrap64 (((rd_T46 l0 t640).f2) - a3)⟩ : S46)] : List (S46))) := ⟨_, rfl⟩
       replace H : ((Qbx.f l0 t640 1 y647).bind fun t650 => (some (t650, 0))) = some (r1, r2) := by first | (rw [hy647]; with_reducible exact H) | (have H2_ := (Option.bind_some _ _).symm.trans H; rw [hy647]; with_reducible exact H2_) | (have H2_ := (Option.bind_some _ _).symm.trans H; with_reducible exact H2_) | with_reducible exact H | (rw [hy647]; exact H) | exact H
       have Ny647 := Aside0.mk hy647
       clear hy647
       replace H := Option.bind_eq_some_iff.mp H
       obtain ⟨t650, A290, H⟩ := H
       replace H : (some (t650, 0)) = some (r1, r2) := H
       have A29 := Aside0.mk A290
       clear A290
       simp only [Option.some.injEq, Prod.mk.injEq] at H
       obtain ⟨rfl, rfl⟩ := H
       have hnb30 := NB639_636.out
       have hnc30 := NB636_639.out
       obtain ⟨hcz31_0, hfz31_0⟩ := Zy (v := (.string a1_0)) BK639.out 0
       obtain ⟨hcz31_1, hfz31_1⟩ := Zy (v := (.string a1_1)) BK639.out 1
       obtain ⟨hcz31_2, hfz31_2⟩ := Zy (v := (.string a2)) BK639.out 2
       obtain ⟨hcz31_3, hfz31_3⟩ := Zy (v := (.int .i64 0)) BK639.out 3
       go_wp2_with (first | ((with_reducible refine QaM (N := 58) rfl ?_); refine Kd.R_lit k46 _ 46 ?hg (N := 58) ?hd (xs := ([(⟨(⟨a1_0, a1_1⟩ : S44), a2, wrap64 (((rd_T46 l0 t640).f2) - a3)⟩ : S46)] : List (S46))) (inner := [.string a1_0, .string a1_1, .string a2, .int .i64 (wrap64 (((rd_T46 l0 t640).f2) - a3))]) (ok := fun _ => True) (okp := fun _ => True) ?hr ?hp (fun _ hk => hk) trivial (Below.refl _ _) (Nat.le_refl _) (by simp) ?_; (case hd => rfl); (case hg => rfl); (case hr => first | (go_simp; done) | (go_simp; rfl)); (case hp => exact (Reps.c4 (show Kd.M k46 _ _ _ (⟨(⟨a1_0, a1_1⟩ : S44), a2, wrap64 (((rd_T46 l0 t640).f2) - a3)⟩ : S46) [.string a1_0, .string a1_1, .string a2, .int .i64 (wrap64 (((rd_T46 l0 t640).f2) - a3))] from (Qcq _ _ _ (⟨(⟨a1_0, a1_1⟩ : S44), a2, wrap64 (((rd_T46 l0 t640).f2) - a3)⟩ : S46) )) (Reps.none _ _))); intro v648 w32 ho33 hb hg_ hnew_; clear hg_ hnew_; (first | rw [← Ny647.out] at ho33 | (simp only [Int.reduceToNat] at ho33; rw [← Ny647.out] at ho33)); have HO649 := Aside0.mk (Kd.R_lower (Kd.R_newB ho33 (g := gb639) (o := .cells #[.string a1_0, .string a1_1, .string a2, .int .i64 (wrap64 (((rd_T46 l0 t640).f2) - a3))] 46 (0, 0)) (Zp2 BK639.out)) (Qam (Zc2 GE636.out GE639.out))); replace BK636 := Aside0.mk (Qal (g := gb636) (o := .cells #[.string a1_0, .string a1_1] 44 (0, 0)) (Zg1 BK636.out NB636_639.out) hb); replace BK639 := Aside0.mk (Zpi #[.string a1_0, .string a1_1, .string a2, .int .i64 (wrap64 (((rd_T46 l0 t640).f2) - a3))] BK639.out hb); replace HB := Aside0.mk (Qan (Zc2 GE636.out GE639.out) hb); clear hb ho33; obtain ⟨Ao34, co34, eo34⟩ := Kd.R_slice HO649.out; subst eo34) | ((with_reducible refine Qay (f := 75) rfl ?_); refine goesL_ (some 59) rfl rfl Try.func75 (by kernel_rfl) rfl #[.slice (some ad643) l0.length c0, .int .i64 t640, .int .i64 1, .slice Ao34 y647.length co34] rfl (Zl) ?_; (with_reducible refine (Qbx.calls _ _ l0 t640 1 _ _ y647 t650 _ ?side1 ?side2 ?side3 ?side4 A29.out).mono ?_); (case side1 => exact Zv (Kd.C_below HR0.out HB.out)); (case side2 => exact HC0.out); (case side3 => exact Zv (Kd.R_reads' HO649.out).2.2); (case side4 => exact (Kd.R_reads' HO649.out).2.1); rintro e w35 ⟨v651, rfl, ho0, hb⟩; refine ⟨_, rfl, ?_⟩; have HO652 := Aside0.mk (Kd.R_lower (Kd.R_newB (Kd.R_new' ho0 (Kd.R_lt (Zr HO649.out))) (g := gb639) (o := .cells #[.string a1_0, .string a1_1, .string a2, .int .i64 (wrap64 (((rd_T46 l0 t640).f2) - a3))] 46 (0, 0)) (Zu BK639.out)) (Qam (Zc2 GE636.out GE639.out))); replace HO649 := Aside0.mk (Kd.R_elder' (Zr HO649.out) (Kd.R_base ho0) hb); replace BK636 := Aside0.mk (Zi BK636.out hb); replace BK639 := Aside0.mk (Zi BK639.out hb); replace HB := Aside0.mk (Qan (Zc2 GE636.out GE639.out) hb); (try clear hb); (try clear hb2); (try clear hk); (try clear hi); (try clear ho0)))
       go_ret2
       exact ⟨_, Zq, by (with_reducible repeat (first | apply Kd.R_alloc | apply Kd.R_drewN | apply Kd.R_drew)); exact Kd.R_mono HO652.out (fun _ hk => trivial), Zc2 GE636.out GE639.out⟩
      rw [if_neg c23] at H
      exact absurd H (by simp)
     rw [if_neg c22] at H
     exact absurd H (by simp)
  replace c10 := Bool.eq_false_iff.mpr c10
  subst c10
  have H1 : (some (([] : List (S46)), 18)) = some (r1, r2) := by rw [if_neg (show ¬ (F = T) by decide)] at H; exact H
  clear H
  have H := H1
  clear H1
  simp only [Option.some.injEq, Prod.mk.injEq] at H
  obtain ⟨rfl, rfl⟩ := H
  go_wp2
  go_ret2
  exact ⟨_, Zq, by first | exact Kd.R_nil _ _ _ _ _ | exact Kd.N_nil _ _ _ _ _ | exact Kd.V_nil _ _ _ _ _ | exact Kd.Q_nil _ _ _ _ _ | exact Kd.S_nil _ _ _ _ _, Zc1 GE636.out⟩
 rw [if_neg c8] at H
 have c8b0 : (t637 == 0) = F := beq_eq_false_iff_ne.mpr c8
 have c8b1 : (t637 != 0) = T := bne_iff_ne.mpr c8
 (try simp only [c8b0, c8b1])
 simp only [Option.some.injEq, Prod.mk.injEq] at H
 obtain ⟨rfl, rfl⟩ := H
 go_wp2
 go_ret2
 exact ⟨_, Zq, by first | exact Kd.R_nil _ _ _ _ _ | exact Kd.N_nil _ _ _ _ _ | exact Kd.V_nil _ _ _ _ _ | exact Kd.Q_nil _ _ _ _ _ | exact Kd.S_nil _ _ _ _ _, Zc1 GE636.out⟩
def QaX.l0 : Nat → Int → Int → List (S46) → ByteArray → ByteArray → ByteArray → Int → List (S84) → List (S98) → Option (Int × Int)
 | 0, _, _, _, _, _, _, _, _, _ => none
 | k + 1, x305, x306, x654000, x655000, x655001, x656000, x657000, x658000, x659000 => if x305 < x306 then (if (wrap64 ((IntKind.u64.wrap (wrap64 (x305 + x306))) / 2)) > 0 then ((Qbe.f k x654000 x655000 x655001 x656000 (wrap64 ((IntKind.u64.wrap (wrap64 (x305 + x306))) / 2))).bind fun bt671 => (if bt671.2 = 0 then ((Qa8.f k bt671.1 x655000 x655001 x657000 x658000 x659000).bind fun bt675 => (if bt675.2 = 0 then (if bt675.1 ≥ x657000 then (QaX.l0 k (wrap64 ((wrap64 ((IntKind.u64.wrap (wrap64 (x305 + x306))) / 2)) + 1)) x306 x654000 x655000 x655001 x656000 x657000 x658000 x659000) else (QaX.l0 k x305 (wrap64 ((IntKind.u64.wrap (wrap64 (x305 + x306))) / 2)) x654000 x655000 x655001 x656000 x657000 x658000 x659000)) else (QaX.l0 k x305 (wrap64 ((IntKind.u64.wrap (wrap64 (x305 + x306))) / 2)) x654000 x655000 x655001 x656000 x657000 x658000 x659000))) else (QaX.l0 k x305 (wrap64 ((IntKind.u64.wrap (wrap64 (x305 + x306))) / 2)) x654000 x655000 x655001 x656000 x657000 x658000 x659000))) else ((Qa8.f k x654000 x655000 x655001 x657000 x658000 x659000).bind fun bt677 => (if bt677.2 = 0 then (if bt677.1 ≥ x657000 then (QaX.l0 k (wrap64 ((wrap64 ((IntKind.u64.wrap (wrap64 (x305 + x306))) / 2)) + 1)) x306 x654000 x655000 x655001 x656000 x657000 x658000 x659000) else (QaX.l0 k x305 (wrap64 ((IntKind.u64.wrap (wrap64 (x305 + x306))) / 2)) x654000 x655000 x655001 x656000 x657000 x658000 x659000)) else (QaX.l0 k x305 (wrap64 ((IntKind.u64.wrap (wrap64 (x305 + x306))) / 2)) x654000 x655000 x655001 x656000 x657000 x658000 x659000)))) else (some (mx (wrap64 (x305 - 1)) 0, 0))
def QaX.f (k : Nat) (l0 : List (S46)) (a1_0 : ByteArray) (a1_1 : ByteArray) (a2 : ByteArray) (a3 : Int) (l4 : List (S84)) (l5 : List (S98)) : Option (Int × Int) := (Qa8.f k l0 a1_0 a1_1 a3 l4 l5).bind fun bt659 => (if bt659.2 = 0 then ((Qbg.f k l4 a2).bind fun bt661 => (if bt661.2.2.2.2.2.2 = T then ((Qbp.f k l0 a1_0 a1_1 a2).bind fun t670 => (QaX.l0 k 0 (wrap64 (t670 + 1)) l0 a1_0 a1_1 a2 a3 l4 l5)) else (some (0, 11)))) else (some (0, bt659.2)))
theorem QaX.mono_l : ∀ k, (∀ y0 y1 y2 y3 y4 y5 y6 y7 y8, LeO (QaX.l0 k y0 y1 y2 y3 y4 y5 y6 y7 y8) (QaX.l0 (k + 1) y0 y1 y2 y3 y4 y5 y6 y7 y8))
 | 0 => fun _ _ _ _ _ _ _ _ _ r h => by simp [QaX.l0] at h
 | k + 1 => by
  have ih0 := QaX.mono_l k
  intro y0 y1 y2 y3 y4 y5 y6 y7 y8
  unfold QaX.l0
  exact ZM5 ih0 Qbg.mono Qa8.mono Qbp.mono Qbe.mono
theorem QaX.mono : ∀ a0 a1 a2 a3 a4 a5 a6 k, LeO (QaX.f k a0 a1 a2 a3 a4 a5 a6) (QaX.f (k + 1) a0 a1 a2 a3 a4 a5 a6) := by
 intro a0 a1 a2 a3 a4 a5 a6 k
 have ih0 := QaX.mono_l k
 unfold QaX.f
 exact ZM5 ih0 Qbg.mono Qa8.mono Qbp.mono Qbe.mono
theorem QaX.calls (k : Nat) (A0 : Option Addr) (c0 : Nat) (l0 : List (S46)) (a1_0 : ByteArray) (a1_1 : ByteArray) (a2 : ByteArray) (a3 : Int) (A4 : Option Addr) (c4 : Nat) (l4 : List (S84)) (A5 : Option Addr) (c5 : Nat) (l5 : List (S98)) (r1 : Int) (r2 : Int) (w : World) (hr0 : Kd.C k46 w A0 l0.length l0) (hc0 : l0.length ≤ c0) (hr4 : Kd.C k84 w A4 l4.length l4) (hc4 : l4.length ≤ c4) (hr5 : Kd.C k98 w A5 l5.length l5) (hc5 : l5.length ≤ c5) (h : QaX.f k l0 a1_0 a1_1 a2 a3 l4 l5 = some (r1, r2)) :
  Calls Try.prog 33 #[.slice A0 l0.length c0, .agg #[.string a1_0, .string a1_1], .string a2, .int .i64 a3, .slice A4 l4.length c4, .slice A5 l5.length c5] w fun e w' => e = .returned (.tuple #[.int .i64 r1, .int .i64 r2]) ∧ Below w.heap.size w w' := by
 have hu44 := Try.underlying44
 have hu84 := Try.underlying84
 have HR0 := Aside0.mk hr0
 have HC0 := Aside0.mk hc0
 clear hr0 hc0
 have HR4 := Aside0.mk hr4
 have HC4 := Aside0.mk hc4
 clear hr4 hc4
 have HR5 := Aside0.mk hr5
 have HC5 := Aside0.mk hc5
 clear hr5 hc5
 have HB := Aside0.mk (Below.refl w.heap.size w)
 have H : ((Qa8.f k l0 a1_0 a1_1 a3 l4 l5).bind fun bt659 => (if bt659.2 = 0 then ((Qbg.f k l4 a2).bind fun bt661 => (if bt661.2.2.2.2.2.2 = T then ((Qbp.f k l0 a1_0 a1_1 a2).bind fun t670 => (QaX.l0 k 0 (wrap64 (t670 + 1)) l0 a1_0 a1_1 a2 a3 l4 l5)) else (some (0, 11)))) else (some (0, bt659.2)))) = some (r1, r2) := h
 clear h
 replace H := Option.bind_eq_some_iff.mp H
 obtain ⟨⟨t659, t660⟩, A70, H⟩ := H
 replace H : (if t660 = 0 then ((Qbg.f k l4 a2).bind fun bt661 => (if bt661.2.2.2.2.2.2 = T then ((Qbp.f k l0 a1_0 a1_1 a2).bind fun t670 => (QaX.l0 k 0 (wrap64 (t670 + 1)) l0 a1_0 a1_1 a2 a3 l4 l5)) else (some (0, 11)))) else (some (0, t660))) = some (r1, r2) := H
 have A7 := Aside0.mk A70
 clear A70
 go_enter Try.func33, Try.ntmps33
 go_upto_if 29 with (first | ((with_reducible refine QaM (N := 6) rfl ?_); (refine gate_n (n := 51) rfl ?_); refine Zbx (N := 6) (cs := #[.slice A0 l0.length c0]) (t := 30) ?_; intro gb653 hg w8 hbox hb; have BK653 := Aside0.mk (hbox); have GW653 := Aside0.mk (Zt w hg (Zb)); have GE653 := GW653; replace HB := Aside0.mk (Qan (Zb) hb); clear hb hbox hg) | ((with_reducible refine QaM (N := 7) rfl ?_); (refine gate_n (n := 51) rfl ?_); refine Zbx (N := 7) (cs := #[.string a1_0, .string a1_1]) (t := 44) ?_; intro gb654 hg w9 hbox hb; have BK654 := Aside0.mk (hbox); have GW654 := Aside0.mk (Zt w hg (Zc1 GE653.out)); have GE654 := GW654; have NB653_654 := Aside0.mk (Zn hg BK653.out); have NB654_653 := Aside0.mk NB653_654.out.symm; replace BK653 := Aside0.mk (Zi BK653.out hb); replace HB := Aside0.mk (Qan (Zc1 GE653.out) hb); clear hb hbox hg) | ((with_reducible refine QaM (N := 8) rfl ?_); (refine gate_n (n := 51) rfl ?_); refine Zbx (N := 8) (cs := #[.string a2]) (t := 9) ?_; intro gb655 hg w10 hbox hb; have BK655 := Aside0.mk (hbox); have GW655 := Aside0.mk (Zt w hg (Zc2 GE653.out GE654.out)); have GE655 := GW655; have NB653_655 := Aside0.mk (Zn hg BK653.out); have NB655_653 := Aside0.mk NB653_655.out.symm; have NB654_655 := Aside0.mk (Zn hg BK654.out); have NB655_654 := Aside0.mk NB654_655.out.symm; replace BK653 := Aside0.mk (Zi BK653.out hb); replace BK654 := Aside0.mk (Zi BK654.out hb); replace HB := Aside0.mk (Qan (Zc2 GE653.out GE654.out) hb); clear hb hbox hg) | ((with_reducible refine QaM (N := 9) rfl ?_); (refine gate_n (n := 51) rfl ?_); refine Zbx (N := 9) (cs := #[.int .i64 a3]) (t := 3) ?_; intro gb656 hg w11 hbox hb; have BK656 := Aside0.mk (hbox); have GW656 := Aside0.mk (Zt w hg (Zc3 GE653.out GE654.out GE655.out)); have GE656 := GW656; have NB653_656 := Aside0.mk (Zn hg BK653.out); have NB656_653 := Aside0.mk NB653_656.out.symm; have NB654_656 := Aside0.mk (Zn hg BK654.out); have NB656_654 := Aside0.mk NB654_656.out.symm; have NB655_656 := Aside0.mk (Zn hg BK655.out); have NB656_655 := Aside0.mk NB655_656.out.symm; replace BK653 := Aside0.mk (Zi BK653.out hb); replace BK654 := Aside0.mk (Zi BK654.out hb); replace BK655 := Aside0.mk (Zi BK655.out hb); replace HB := Aside0.mk (Qan (Zc3 GE653.out GE654.out GE655.out) hb); clear hb hbox hg) | ((with_reducible refine QaM (N := 10) rfl ?_); (refine gate_n (n := 51) rfl ?_); refine Zbx (N := 10) (cs := #[.slice A4 l4.length c4]) (t := 31) ?_; intro gb657 hg w12 hbox hb; have BK657 := Aside0.mk (hbox); have GW657 := Aside0.mk (Zt w hg (Zc4 GE653.out GE654.out GE655.out GE656.out)); have GE657 := GW657; have NB653_657 := Aside0.mk (Zn hg BK653.out); have NB657_653 := Aside0.mk NB653_657.out.symm; have NB654_657 := Aside0.mk (Zn hg BK654.out); have NB657_654 := Aside0.mk NB654_657.out.symm; have NB655_657 := Aside0.mk (Zn hg BK655.out); have NB657_655 := Aside0.mk NB655_657.out.symm; have NB656_657 := Aside0.mk (Zn hg BK656.out); have NB657_656 := Aside0.mk NB656_657.out.symm; replace BK653 := Aside0.mk (Zi BK653.out hb); replace BK654 := Aside0.mk (Zi BK654.out hb); replace BK655 := Aside0.mk (Zi BK655.out hb); replace BK656 := Aside0.mk (Zi BK656.out hb); replace HB := Aside0.mk (Qan (Zc4 GE653.out GE654.out GE655.out GE656.out) hb); clear hb hbox hg) | ((with_reducible refine QaM (N := 11) rfl ?_); (refine gate_n (n := 51) rfl ?_); refine Zbx (N := 11) (cs := #[.slice A5 l5.length c5]) (t := 32) ?_; intro gb658 hg w13 hbox hb; have BK658 := Aside0.mk (hbox); have GW658 := Aside0.mk (Zt w hg (Zc5 GE653.out GE654.out GE655.out GE656.out GE657.out)); have GE658 := GW658; have NB653_658 := Aside0.mk (Zn hg BK653.out); have NB658_653 := Aside0.mk NB653_658.out.symm; have NB654_658 := Aside0.mk (Zn hg BK654.out); have NB658_654 := Aside0.mk NB654_658.out.symm; have NB655_658 := Aside0.mk (Zn hg BK655.out); have NB658_655 := Aside0.mk NB655_658.out.symm; have NB656_658 := Aside0.mk (Zn hg BK656.out); have NB658_656 := Aside0.mk NB656_658.out.symm; have NB657_658 := Aside0.mk (Zn hg BK657.out); have NB658_657 := Aside0.mk NB657_658.out.symm; replace BK653 := Aside0.mk (Zi BK653.out hb); replace BK654 := Aside0.mk (Zi BK654.out hb); replace BK655 := Aside0.mk (Zi BK655.out hb); replace BK656 := Aside0.mk (Zi BK656.out hb); replace BK657 := Aside0.mk (Zi BK657.out hb); replace HB := Aside0.mk (Qan (Zc5 GE653.out GE654.out GE655.out GE656.out GE657.out) hb); clear hb hbox hg; have hnb14 := NB653_654.out; have hnc14 := NB654_653.out; have hnb15 := NB653_655.out; have hnc15 := NB655_653.out; have hnb16 := NB653_656.out; have hnc16 := NB656_653.out; have hnb17 := NB653_657.out; have hnc17 := NB657_653.out; have hnb18 := NB653_658.out; have hnc18 := NB658_653.out; obtain ⟨hcz19_0, hfz19_0⟩ := Zy (v := (.slice A0 l0.length c0)) BK653.out 0; have hnb20 := NB654_655.out; have hnc20 := NB655_654.out; have hnb21 := NB654_656.out; have hnc21 := NB656_654.out; have hnb22 := NB654_657.out; have hnc22 := NB657_654.out; have hnb23 := NB654_658.out; have hnc23 := NB658_654.out; obtain ⟨hcz24_0, hfz24_0⟩ := Zy (v := (.string a1_0)) BK654.out 0; obtain ⟨hcz24_1, hfz24_1⟩ := Zy (v := (.string a1_1)) BK654.out 1; have hnb25 := NB656_655.out; have hnc25 := NB655_656.out; have hnb26 := NB656_657.out; have hnc26 := NB657_656.out; have hnb27 := NB656_658.out; have hnc27 := NB658_656.out; obtain ⟨hcz28_0, hfz28_0⟩ := Zy (v := (.int .i64 a3)) BK656.out 0; have hnb29 := NB657_655.out; have hnc29 := NB655_657.out; have hnb30 := NB657_658.out; have hnc30 := NB658_657.out; obtain ⟨hcz31_0, hfz31_0⟩ := Zy (v := (.slice A4 l4.length c4)) BK657.out 0; have hnb32 := NB658_655.out; have hnc32 := NB655_658.out; obtain ⟨hcz33_0, hfz33_0⟩ := Zy (v := (.slice A5 l5.length c5)) BK658.out 0) | ((with_reducible refine Qay (f := 30) rfl ?_); refine goesL_ (some 25) rfl rfl Try.func30 (by kernel_rfl) rfl #[.slice A0 l0.length c0, .agg #[.string a1_0, .string a1_1], .int .i64 a3, .slice A4 l4.length c4, .slice A5 l5.length c5] rfl (Zl) ?_; (with_reducible refine (Qa8.calls k _ _ l0 a1_0 a1_1 a3 _ _ l4 _ _ l5 t659 t660 _ ?side1 ?side2 ?side3 ?side4 ?side5 ?side6 A7.out).mono ?_); (case side1 => exact Zv (Kd.C_below HR0.out HB.out)); (case side2 => exact HC0.out); (case side3 => exact Zv (Kd.C_below HR4.out HB.out)); (case side4 => exact HC4.out); (case side5 => exact Zv (Kd.C_below HR5.out HB.out)); (case side6 => exact HC5.out); rintro e w34 ⟨rfl, hb⟩; refine ⟨_, rfl, ?_⟩; replace BK653 := Aside0.mk (Zi BK653.out hb); replace BK654 := Aside0.mk (Zi BK654.out hb); replace BK655 := Aside0.mk (Zi BK655.out hb); replace BK656 := Aside0.mk (Zi BK656.out hb); replace BK657 := Aside0.mk (Zi BK657.out hb); replace BK658 := Aside0.mk (Zi BK658.out hb); replace HB := Aside0.mk (Qan (Zc6 GE653.out GE654.out GE655.out GE656.out GE657.out GE658.out) hb); (try clear hb); (try clear hb2); (try clear hk); (try clear hi)))
 (try simp only [Act.put, Zj, Zk, Zm])
 by_cases c35 : t660 = 0
 ·rw [if_pos c35] at H
  have c35b0 : (t660 == 0) = T := beq_iff_eq.mpr c35
  have c35b1 : (t660 != 0) = F := bne_eq_false_iff_eq.mpr c35
  clear c35
  (try simp only [c35b0, c35b1])
  replace H := Option.bind_eq_some_iff.mp H
  obtain ⟨⟨t661, t662, t663, t664, t665, t666, t667⟩, A360, H⟩ := H
  replace H : (if t667 = T then ((Qbp.f k l0 a1_0 a1_1 a2).bind fun t670 => (QaX.l0 k 0 (wrap64 (t670 + 1)) l0 a1_0 a1_1 a2 a3 l4 l5)) else (some (0, 11))) = some (r1, r2) := H
  have A36 := Aside0.mk A360
  clear A360
  have hnb37 := NB657_653.out
  have hnc37 := NB653_657.out
  have hnb38 := NB657_654.out
  have hnc38 := NB654_657.out
  have hnb39 := NB657_655.out
  have hnc39 := NB655_657.out
  have hnb40 := NB657_656.out
  have hnc40 := NB656_657.out
  have hnb41 := NB657_658.out
  have hnc41 := NB658_657.out
  obtain ⟨hcz42_0, hfz42_0⟩ := Zy (v := (.slice A4 l4.length c4)) BK657.out 0
  have hnb43 := NB655_653.out
  have hnc43 := NB653_655.out
  have hnb44 := NB655_654.out
  have hnc44 := NB654_655.out
  have hnb45 := NB655_656.out
  have hnc45 := NB656_655.out
  have hnb46 := NB655_658.out
  have hnc46 := NB658_655.out
  obtain ⟨hcz47_0, hfz47_0⟩ := Zy (v := (.string a2)) BK655.out 0
  go_upto_if 38 with (first | ((with_reducible refine Qay (f := 48) rfl ?_); refine goesL_ (some 34) rfl rfl Try.func48 (by kernel_rfl) rfl #[.slice A4 l4.length c4, .string a2] rfl (Zl) ?_; (with_reducible refine (Qbg.calls k _ _ l4 a2 t661 t662 t663 t664 t665 t666 t667 _ ?side1 ?side2 A36.out).mono ?_); (case side1 => exact Zv (Kd.C_below HR4.out HB.out)); (case side2 => exact HC4.out); rintro e w48 ⟨rfl, hb⟩; refine ⟨_, rfl, ?_⟩; replace BK653 := Aside0.mk (Zi BK653.out hb); replace BK654 := Aside0.mk (Zi BK654.out hb); replace BK655 := Aside0.mk (Zi BK655.out hb); replace BK656 := Aside0.mk (Zi BK656.out hb); replace BK657 := Aside0.mk (Zi BK657.out hb); replace BK658 := Aside0.mk (Zi BK658.out hb); replace HB := Aside0.mk (Qan (Zc6 GE653.out GE654.out GE655.out GE656.out GE657.out GE658.out) hb); (try clear hb); (try clear hb2); (try clear hk); (try clear hi)) | ((with_reducible refine QaM (N := 14) rfl ?_); (refine gate_n (n := 51) rfl ?_); refine Zbx (N := 14) (cs := #[.string (⟨#[]⟩ : ByteArray), .int .i64 0, .int .i64 0, .int .i64 0, .int .i64 0, .int .i64 0]) (t := 84) ?_; intro gb668 hg w49 hbox hb; have BK668 := Aside0.mk (hbox); have GW668 := Aside0.mk (Zt w hg (Zc6 GE653.out GE654.out GE655.out GE656.out GE657.out GE658.out)); have GE668 := GW668; have NB653_668 := Aside0.mk (Zn hg BK653.out); have NB668_653 := Aside0.mk NB653_668.out.symm; have NB654_668 := Aside0.mk (Zn hg BK654.out); have NB668_654 := Aside0.mk NB654_668.out.symm; have NB655_668 := Aside0.mk (Zn hg BK655.out); have NB668_655 := Aside0.mk NB655_668.out.symm; have NB656_668 := Aside0.mk (Zn hg BK656.out); have NB668_656 := Aside0.mk NB656_668.out.symm; have NB657_668 := Aside0.mk (Zn hg BK657.out); have NB668_657 := Aside0.mk NB657_668.out.symm; have NB658_668 := Aside0.mk (Zn hg BK658.out); have NB668_658 := Aside0.mk NB658_668.out.symm; replace BK653 := Aside0.mk (Zi BK653.out hb); replace BK654 := Aside0.mk (Zi BK654.out hb); replace BK655 := Aside0.mk (Zi BK655.out hb); replace BK656 := Aside0.mk (Zi BK656.out hb); replace BK657 := Aside0.mk (Zi BK657.out hb); replace BK658 := Aside0.mk (Zi BK658.out hb); replace HB := Aside0.mk (Qan (Zc6 GE653.out GE654.out GE655.out GE656.out GE657.out GE658.out) hb); clear hb hbox hg; have hnb50 := NB668_653.out; have hnc50 := NB653_668.out; have hnb51 := NB668_654.out; have hnc51 := NB654_668.out; have hnb52 := NB668_655.out; have hnc52 := NB655_668.out; have hnb53 := NB668_656.out; have hnc53 := NB656_668.out; have hnb54 := NB668_657.out; have hnc54 := NB657_668.out; have hnb55 := NB668_658.out; have hnc55 := NB658_668.out; obtain ⟨hcz56_0, hfz56_0⟩ := Zy (v := (.string (⟨#[]⟩ : ByteArray))) BK668.out 0; obtain ⟨hcz56_1, hfz56_1⟩ := Zy (v := (.int .i64 0)) BK668.out 1; obtain ⟨hcz56_2, hfz56_2⟩ := Zy (v := (.int .i64 0)) BK668.out 2; obtain ⟨hcz56_3, hfz56_3⟩ := Zy (v := (.int .i64 0)) BK668.out 3; obtain ⟨hcz56_4, hfz56_4⟩ := Zy (v := (.int .i64 0)) BK668.out 4; obtain ⟨hcz56_5, hfz56_5⟩ := Zy (v := (.int .i64 0)) BK668.out 5) | ((with_reducible refine Qdt (t := 84) (p := 14) rfl ?_); (refine gate_n (n := 51) rfl ?_); refine Qdg (t := 84) (p := 14) (v := ?vo_w57) (w1 := ((((((w49.setCell ⟨gb668, 0, none⟩ (.string t661)).setCell ⟨gb668, 1, none⟩ (.int .i64 t662)).setCell ⟨gb668, 2, none⟩ (.int .i64 t663)).setCell ⟨gb668, 3, none⟩ (.int .i64 t664)).setCell ⟨gb668, 4, none⟩ (.int .i64 t665)).setCell ⟨gb668, 5, none⟩ (.int .i64 t666))) ?hg ?ho ?hn ?hr ?_; (case ho => rfl); (case hg => rfl); (case hn => rfl); (case hr => first | (exact QcV (cs := #[.string (⟨#[]⟩ : ByteArray), .int .i64 0, .int .i64 0, .int .i64 0, .int .i64 0, .int .i64 0]) (seg := [.string t661, .int .i64 t662, .int .i64 t663, .int .i64 t664, .int .i64 t665, .int .i64 t666]) BK668.out rfl (by first | rfl | (go_simp; done)) (by first | rfl | (go_simp; done)) (by rfl) (by first | rfl | kernel_rfl) (by simp) (by first | rfl | simp [Value.oneCell'])) | (go_simp; done) | (go_simp; rfl)); intro w57 hw; replace BK653 : Aside0 (w57.heap[gb653]? = some (.cells #[.slice A0 l0.length c0] 30 (0, 0))) := ⟨(by rw [hw]; exact (Zg6 BK653.out NB653_668.out NB653_668.out NB653_668.out NB653_668.out NB653_668.out NB653_668.out))⟩; replace BK654 : Aside0 (w57.heap[gb654]? = some (.cells #[.string a1_0, .string a1_1] 44 (0, 0))) := ⟨(by rw [hw]; exact (Zg6 BK654.out NB654_668.out NB654_668.out NB654_668.out NB654_668.out NB654_668.out NB654_668.out))⟩; replace BK655 : Aside0 (w57.heap[gb655]? = some (.cells #[.string a2] 9 (0, 0))) := ⟨(by rw [hw]; exact (Zg6 BK655.out NB655_668.out NB655_668.out NB655_668.out NB655_668.out NB655_668.out NB655_668.out))⟩; replace BK656 : Aside0 (w57.heap[gb656]? = some (.cells #[.int .i64 a3] 3 (0, 0))) := ⟨(by rw [hw]; exact (Zg6 BK656.out NB656_668.out NB656_668.out NB656_668.out NB656_668.out NB656_668.out NB656_668.out))⟩; replace BK657 : Aside0 (w57.heap[gb657]? = some (.cells #[.slice A4 l4.length c4] 31 (0, 0))) := ⟨(by rw [hw]; exact (Zg6 BK657.out NB657_668.out NB657_668.out NB657_668.out NB657_668.out NB657_668.out NB657_668.out))⟩; replace BK658 : Aside0 (w57.heap[gb658]? = some (.cells #[.slice A5 l5.length c5] 32 (0, 0))) := ⟨(by rw [hw]; exact (Zg6 BK658.out NB658_668.out NB658_668.out NB658_668.out NB658_668.out NB658_668.out NB658_668.out))⟩; replace BK668 : Aside0 (w57.heap[gb668]? = some (.cells #[.string t661, .int .i64 t662, .int .i64 t663, .int .i64 t664, .int .i64 t665, .int .i64 t666] 84 (0, 0))) := ⟨(by rw [hw]; exact (Zp2 BK668.out))⟩; replace HB : Aside0 (Below w.heap.size w w57) := ⟨(by rw [hw]; exact (Zc7 GE653.out GE654.out GE655.out GE656.out GE657.out GE658.out GE668.out))⟩; clear hw))
  (try simp only [Act.put, Zj, Zk, Zm])
  by_cases c58 : t667 = T
  ·subst c58
   have H1 : ((Qbp.f k l0 a1_0 a1_1 a2).bind fun t670 => (QaX.l0 k 0 (wrap64 (t670 + 1)) l0 a1_0 a1_1 a2 a3 l4 l5)) = some (r1, r2) := by rw [if_pos rfl] at H; exact H
   clear H
   have H := H1
   clear H1
   replace H := Option.bind_eq_some_iff.mp H
   obtain ⟨t670, A590, H⟩ := H
   replace H : (QaX.l0 k 0 (wrap64 (t670 + 1)) l0 a1_0 a1_1 a2 a3 l4 l5) = some (r1, r2) := H
   have A59 := Aside0.mk A590
   clear A590
   have H' := Aside0.mk H
   clear H
   go_wp2_with (first | ((with_reducible refine QaM (N := 16) rfl ?_); (refine gate_n (n := 51) rfl ?_); refine Zbx (N := 16) (cs := #[.nilFunc]) (t := 96) ?_; intro gb669 hg w60 hbox hb; have BK669 := Aside0.mk (hbox); have GW669 := Aside0.mk (Zt w hg (Zc7 GE653.out GE654.out GE655.out GE656.out GE657.out GE658.out GE668.out)); have GE669 := GW669; have NB653_669 := Aside0.mk (Zn hg BK653.out); have NB669_653 := Aside0.mk NB653_669.out.symm; have NB654_669 := Aside0.mk (Zn hg BK654.out); have NB669_654 := Aside0.mk NB654_669.out.symm; have NB655_669 := Aside0.mk (Zn hg BK655.out); have NB669_655 := Aside0.mk NB655_669.out.symm; have NB656_669 := Aside0.mk (Zn hg BK656.out); have NB669_656 := Aside0.mk NB656_669.out.symm; have NB657_669 := Aside0.mk (Zn hg BK657.out); have NB669_657 := Aside0.mk NB657_669.out.symm; have NB658_669 := Aside0.mk (Zn hg BK658.out); have NB669_658 := Aside0.mk NB658_669.out.symm; have NB668_669 := Aside0.mk (Zn hg BK668.out); have NB669_668 := Aside0.mk NB668_669.out.symm; replace BK653 := Aside0.mk (Zi BK653.out hb); replace BK654 := Aside0.mk (Zi BK654.out hb); replace BK655 := Aside0.mk (Zi BK655.out hb); replace BK656 := Aside0.mk (Zi BK656.out hb); replace BK657 := Aside0.mk (Zi BK657.out hb); replace BK658 := Aside0.mk (Zi BK658.out hb); replace BK668 := Aside0.mk (Zi BK668.out hb); replace HB := Aside0.mk (Qan (Zc7 GE653.out GE654.out GE655.out GE656.out GE657.out GE658.out GE668.out) hb); clear hb hbox hg; have hnb61 := NB669_653.out; have hnc61 := NB653_669.out; have hnb62 := NB669_654.out; have hnc62 := NB654_669.out; have hnb63 := NB669_655.out; have hnc63 := NB655_669.out; have hnb64 := NB669_656.out; have hnc64 := NB656_669.out; have hnb65 := NB669_657.out; have hnc65 := NB657_669.out; have hnb66 := NB669_658.out; have hnc66 := NB658_669.out; have hnb67 := NB669_668.out; have hnc67 := NB668_669.out; obtain ⟨hcz68_0, hfz68_0⟩ := Zy (v := (.nilFunc)) BK669.out 0) | ((with_reducible refine Qdt (t := 96) (p := 16) rfl ?_); (refine gate_n (n := 51) rfl ?_); refine Qdg (t := 96) (p := 16) (v := ?vo_w69) (w1 := (w60.setCell ⟨gb669, 0, none⟩ (.func (.func 61) #[] #[.pointer (some ⟨gb653, 0, none⟩), .pointer (some ⟨gb654, 0, none⟩), .pointer (some ⟨gb655, 0, none⟩), .pointer (some ⟨gb656, 0, none⟩), .pointer (some ⟨gb657, 0, none⟩), .pointer (some ⟨gb658, 0, none⟩)]))) ?hg ?ho ?hn ?hr ?_; (case ho => rfl); (case hg => rfl); (case hn => rfl); (case hr => first | (exact QcV (cs := #[.nilFunc]) (seg := [.func (.func 61) #[] #[.pointer (some ⟨gb653, 0, none⟩), .pointer (some ⟨gb654, 0, none⟩), .pointer (some ⟨gb655, 0, none⟩), .pointer (some ⟨gb656, 0, none⟩), .pointer (some ⟨gb657, 0, none⟩), .pointer (some ⟨gb658, 0, none⟩)]]) BK669.out rfl (by first | rfl | (go_simp; done)) (by first | rfl | (go_simp; done)) (by rfl) (by first | rfl | kernel_rfl) (by simp) (by first | rfl | simp [Value.oneCell'])) | (go_simp; done) | (go_simp; rfl)); intro w69 hw; replace BK653 : Aside0 (w69.heap[gb653]? = some (.cells #[.slice A0 l0.length c0] 30 (0, 0))) := ⟨(by rw [hw]; exact (Zg1 BK653.out NB653_669.out))⟩; replace BK654 : Aside0 (w69.heap[gb654]? = some (.cells #[.string a1_0, .string a1_1] 44 (0, 0))) := ⟨(by rw [hw]; exact (Zg1 BK654.out NB654_669.out))⟩; replace BK655 : Aside0 (w69.heap[gb655]? = some (.cells #[.string a2] 9 (0, 0))) := ⟨(by rw [hw]; exact (Zg1 BK655.out NB655_669.out))⟩; replace BK656 : Aside0 (w69.heap[gb656]? = some (.cells #[.int .i64 a3] 3 (0, 0))) := ⟨(by rw [hw]; exact (Zg1 BK656.out NB656_669.out))⟩; replace BK657 : Aside0 (w69.heap[gb657]? = some (.cells #[.slice A4 l4.length c4] 31 (0, 0))) := ⟨(by rw [hw]; exact (Zg1 BK657.out NB657_669.out))⟩; replace BK658 : Aside0 (w69.heap[gb658]? = some (.cells #[.slice A5 l5.length c5] 32 (0, 0))) := ⟨(by rw [hw]; exact (Zg1 BK658.out NB658_669.out))⟩; replace BK668 : Aside0 (w69.heap[gb668]? = some (.cells #[.string t661, .int .i64 t662, .int .i64 t663, .int .i64 t664, .int .i64 t665, .int .i64 t666] 84 (0, 0))) := ⟨(by rw [hw]; exact (Zg1 BK668.out NB668_669.out))⟩; replace BK669 : Aside0 (w69.heap[gb669]? = some (.cells #[.func (.func 61) #[] #[.pointer (some ⟨gb653, 0, none⟩), .pointer (some ⟨gb654, 0, none⟩), .pointer (some ⟨gb655, 0, none⟩), .pointer (some ⟨gb656, 0, none⟩), .pointer (some ⟨gb657, 0, none⟩), .pointer (some ⟨gb658, 0, none⟩)]] 96 (0, 0))) := ⟨(by rw [hw]; exact (Zp2 BK669.out))⟩; replace HB : Aside0 (Below w.heap.size w w69) := ⟨(by rw [hw]; exact (Zc8 GE653.out GE654.out GE655.out GE656.out GE657.out GE658.out GE668.out GE669.out))⟩; clear hw; have hnb70 := NB653_654.out; have hnc70 := NB654_653.out; have hnb71 := NB653_655.out; have hnc71 := NB655_653.out; have hnb72 := NB653_656.out; have hnc72 := NB656_653.out; have hnb73 := NB653_657.out; have hnc73 := NB657_653.out; have hnb74 := NB653_658.out; have hnc74 := NB658_653.out; have hnb75 := NB653_668.out; have hnc75 := NB668_653.out; obtain ⟨hcz76_0, hfz76_0⟩ := Zy (v := (.slice A0 l0.length c0)) BK653.out 0; have hnb77 := NB654_655.out; have hnc77 := NB655_654.out; have hnb78 := NB654_656.out; have hnc78 := NB656_654.out; have hnb79 := NB654_657.out; have hnc79 := NB657_654.out; have hnb80 := NB654_658.out; have hnc80 := NB658_654.out; have hnb81 := NB654_668.out; have hnc81 := NB668_654.out; obtain ⟨hcz82_0, hfz82_0⟩ := Zy (v := (.string a1_0)) BK654.out 0; obtain ⟨hcz82_1, hfz82_1⟩ := Zy (v := (.string a1_1)) BK654.out 1; have hnb83 := NB655_656.out; have hnc83 := NB656_655.out; have hnb84 := NB655_657.out; have hnc84 := NB657_655.out; have hnb85 := NB655_658.out; have hnc85 := NB658_655.out; have hnb86 := NB655_668.out; have hnc86 := NB668_655.out; obtain ⟨hcz87_0, hfz87_0⟩ := Zy (v := (.string a2)) BK655.out 0) | ((with_reducible refine Qay (f := 46) rfl ?_); refine goesL_ (some 43) rfl rfl Try.func46 (by kernel_rfl) rfl #[.slice A0 l0.length c0, .agg #[.string a1_0, .string a1_1], .string a2] rfl (Zl) ?_; (with_reducible refine (Qbp.calls k _ _ l0 a1_0 a1_1 a2 t670 _ ?side1 ?side2 A59.out).mono ?_); (case side1 => exact Zv (Kd.C_below HR0.out HB.out)); (case side2 => exact HC0.out); rintro e w88 ⟨rfl, hb⟩; refine ⟨_, rfl, ?_⟩; replace BK653 := Aside0.mk (Zi BK653.out hb); replace BK654 := Aside0.mk (Zi BK654.out hb); replace BK655 := Aside0.mk (Zi BK655.out hb); replace BK656 := Aside0.mk (Zi BK656.out hb); replace BK657 := Aside0.mk (Zi BK657.out hb); replace BK658 := Aside0.mk (Zi BK658.out hb); replace BK668 := Aside0.mk (Zi BK668.out hb); replace BK669 := Aside0.mk (Zi BK669.out hb); replace HB := Aside0.mk (Qan (Zc8 GE653.out GE654.out GE655.out GE656.out GE657.out GE658.out GE668.out GE669.out) hb); (try clear hb); (try clear hb2); (try clear hk); (try clear hi)) | (go_at_call 62; go_in))
   go_loopg [5, 6] k (fun kq v305 v306 w' => ∃ (x305_1 : Int) (x306_1 : Int), v305 = .int .i64 x305_1 ∧ v306 = .int .i64 x306_1 ∧ Aside0 (QaX.l0 kq x305_1 x306_1 l0 a1_0 a1_1 a2 a3 l4 l5 = some (r1, r2)) ∧ Aside0 (kq ≤ k) ∧ Aside0 (w'.heap[gb653]? = some (.cells #[(.slice A0 l0.length c0)] 30 (0, 0))) ∧ Aside0 (w'.heap[gb654]? = some (.cells #[.string a1_0, .string a1_1] 44 (0, 0))) ∧ Aside0 (w'.heap[gb655]? = some (.cells #[.string a2] 9 (0, 0))) ∧ Aside0 (w'.heap[gb656]? = some (.cells #[.int .i64 a3] 3 (0, 0))) ∧ Aside0 (w'.heap[gb657]? = some (.cells #[(.slice A4 l4.length c4)] 31 (0, 0))) ∧ Aside0 (w'.heap[gb658]? = some (.cells #[(.slice A5 l5.length c5)] 32 (0, 0))) ∧ Aside0 (w'.heap[gb668]? = some (.cells #[.string t661, .int .i64 t662, .int .i64 t663, .int .i64 t664, .int .i64 t665, .int .i64 t666] 84 (0, 0))) ∧ Aside0 (w'.heap[gb669]? = some (.cells #[(.func (.func 61) #[] #[.pointer (some ⟨gb653, 0, none⟩), .pointer (some ⟨gb654, 0, none⟩), .pointer (some ⟨gb655, 0, none⟩), .pointer (some ⟨gb656, 0, none⟩), .pointer (some ⟨gb657, 0, none⟩), .pointer (some ⟨gb658, 0, none⟩)])] 96 (0, 0))) ∧ Aside0 (Below w.heap.size w w'))
   case atStart => exact ⟨(0), (wrap64 (t670 + 1)), (Zs), (Zs), H', ⟨Nat.le_refl _⟩, ⟨Zu BK653.out⟩, ⟨Zu BK654.out⟩, ⟨Zu BK655.out⟩, ⟨Zu BK656.out⟩, ⟨Zu BK657.out⟩, ⟨Zu BK658.out⟩, ⟨Zu BK668.out⟩, ⟨Zu BK669.out⟩, ⟨Zc8 GE653.out GE654.out GE655.out GE656.out GE657.out GE658.out GE668.out GE669.out⟩⟩
   case round =>
    clear H'
    try clear c1
    try clear c2
    try clear p2
    try clear c3
    try clear c4
    try clear c5
    try clear c6
    try clear p6
    try clear c7
    try clear c8
    try clear c14
    try clear c15
    try clear c16
    try clear c17
    try clear c18
    try clear c20
    try clear c21
    try clear c22
    try clear c23
    try clear c25
    try clear c26
    try clear c27
    try clear c29
    try clear c30
    try clear c32
    try clear c33
    try clear c35
    try clear c35b0
    try clear c35b1
    try clear c37
    try clear c38
    try clear c39
    try clear c40
    try clear c41
    try clear c43
    try clear c44
    try clear c45
    try clear c46
    try clear c48
    try clear c50
    try clear c51
    try clear c52
    try clear c53
    try clear c54
    try clear c55
    try clear c58
    try clear c61
    try clear c62
    try clear c63
    try clear c64
    try clear p64
    try clear c65
    try clear c66
    try clear c67
    try clear c70
    try clear c71
    try clear c72
    try clear c73
    try clear c74
    try clear c75
    try clear c77
    try clear c78
    try clear c79
    try clear c80
    try clear c81
    try clear c83
    try clear c84
    try clear c85
    try clear c86
    try clear hcz19_0
    try clear hcz24_0
    try clear hcz24_1
    try clear hcz28_0
    try clear hcz31_0
    try clear hcz33_0
    try clear hcz42_0
    try clear hcz47_0
    try clear hcz56_0
    try clear hcz56_1
    try clear hcz56_2
    try clear hcz56_3
    try clear hcz56_4
    try clear hcz56_5
    try clear hcz68_0
    try clear hcz76_0
    try clear hcz82_0
    try clear hcz82_1
    try clear hcz87_0
    try clear hfz19_0
    try clear hfz24_0
    try clear hfz24_1
    try clear hfz28_0
    try clear hfz31_0
    try clear hfz33_0
    try clear hfz42_0
    try clear hfz47_0
    try clear hfz56_0
    try clear hfz56_1
    try clear hfz56_2
    try clear hfz56_3
    try clear hfz56_4
    try clear hfz56_5
    try clear hfz68_0
    try clear hfz76_0
    try clear hfz82_0
    try clear hfz82_1
    try clear hfz87_0
    obtain ⟨x305_1, x306_1, rfl, rfl, HA, HK1, BK653, BK654, BK655, BK656, BK657, BK658, BK668, BK669, HB⟩ := hrel
    cases gk with
    | zero => exact absurd HA.out (by simp [QaX.l0])
    | succ k1 =>
     have H := HA.out
     clear HA
     simp only [QaX.l0] at H
     by_cases c89 : x305_1 < x306_1
     ·rw [if_pos c89] at H
      have c89b0 : decide (x305_1 < x306_1) = T := decide_eq_true c89
      clear c89
      (try simp only [c89b0])
      have hnb90 := NB669_653.out
      have hnc90 := NB653_669.out
      have hnb91 := NB669_654.out
      have hnc91 := NB654_669.out
      have hnb92 := NB669_655.out
      have hnc92 := NB655_669.out
      have hnb93 := NB669_656.out
      have hnc93 := NB656_669.out
      have hnb94 := NB669_657.out
      have hnc94 := NB657_669.out
      have hnb95 := NB669_658.out
      have hnc95 := NB658_669.out
      have hnb96 := NB669_668.out
      have hnc96 := NB668_669.out
      obtain ⟨hcz97_0, hfz97_0⟩ := Zy (v := (.func (.func 61) #[] #[.pointer (some ⟨gb653, 0, none⟩), .pointer (some ⟨gb654, 0, none⟩), .pointer (some ⟨gb655, 0, none⟩), .pointer (some ⟨gb656, 0, none⟩), .pointer (some ⟨gb657, 0, none⟩), .pointer (some ⟨gb658, 0, none⟩)])) BK669.out 0
      have hnb98 := NB653_654.out
      have hnc98 := NB654_653.out
      have hnb99 := NB653_655.out
      have hnc99 := NB655_653.out
      have hnb100 := NB653_656.out
      have hnc100 := NB656_653.out
      have hnb101 := NB653_657.out
      have hnc101 := NB657_653.out
      have hnb102 := NB653_658.out
      have hnc102 := NB658_653.out
      have hnb103 := NB653_668.out
      have hnc103 := NB668_653.out
      obtain ⟨hcz104_0, hfz104_0⟩ := Zy (v := (.slice A0 l0.length c0)) BK653.out 0
      go_upto_if 16 with (first | (go_at_call 63; go_in) | (go_at_call 61; go_in))
      (try simp only [Act.put, Zj, Zk, Zm])
      by_cases c105 : (wrap64 ((IntKind.u64.wrap (wrap64 (x305_1 + x306_1))) / 2)) > 0
      ·rw [if_pos c105] at H
       have c105b0 : decide (0 < (wrap64 ((IntKind.u64.wrap (wrap64 (x305_1 + x306_1))) / 2))) = T := decide_eq_true c105
       clear c105
       (try simp only [c105b0])
       replace H := Option.bind_eq_some_iff.mp H
       obtain ⟨⟨t671, t674⟩, A1060, H⟩ := H
       replace H : (if t674 = 0 then ((Qa8.f k1 t671 a1_0 a1_1 a3 l4 l5).bind fun bt675 => (if bt675.2 = 0 then (if bt675.1 ≥ a3 then (QaX.l0 k1 (wrap64 ((wrap64 ((IntKind.u64.wrap (wrap64 (x305_1 + x306_1))) / 2)) + 1)) x306_1 l0 a1_0 a1_1 a2 a3 l4 l5) else (QaX.l0 k1 x305_1 (wrap64 ((IntKind.u64.wrap (wrap64 (x305_1 + x306_1))) / 2)) l0 a1_0 a1_1 a2 a3 l4 l5)) else (QaX.l0 k1 x305_1 (wrap64 ((IntKind.u64.wrap (wrap64 (x305_1 + x306_1))) / 2)) l0 a1_0 a1_1 a2 a3 l4 l5))) else (QaX.l0 k1 x305_1 (wrap64 ((IntKind.u64.wrap (wrap64 (x305_1 + x306_1))) / 2)) l0 a1_0 a1_1 a2 a3 l4 l5)) = some (r1, r2) := H
       have A106 := Aside0.mk A1060
       clear A1060
       have hnb107 := NB653_654.out
       have hnc107 := NB654_653.out
       have hnb108 := NB653_655.out
       have hnc108 := NB655_653.out
       have hnb109 := NB653_656.out
       have hnc109 := NB656_653.out
       have hnb110 := NB653_657.out
       have hnc110 := NB657_653.out
       have hnb111 := NB653_658.out
       have hnc111 := NB658_653.out
       have hnb112 := NB653_668.out
       have hnc112 := NB668_653.out
       have hnb113 := NB653_669.out
       have hnc113 := NB669_653.out
       obtain ⟨hcz114_0, hfz114_0⟩ := Zy (v := (.slice A0 l0.length c0)) BK653.out 0
       have hnb115 := NB654_655.out
       have hnc115 := NB655_654.out
       have hnb116 := NB654_656.out
       have hnc116 := NB656_654.out
       have hnb117 := NB654_657.out
       have hnc117 := NB657_654.out
       have hnb118 := NB654_658.out
       have hnc118 := NB658_654.out
       have hnb119 := NB654_668.out
       have hnc119 := NB668_654.out
       have hnb120 := NB654_669.out
       have hnc120 := NB669_654.out
       obtain ⟨hcz121_0, hfz121_0⟩ := Zy (v := (.string a1_0)) BK654.out 0
       obtain ⟨hcz121_1, hfz121_1⟩ := Zy (v := (.string a1_1)) BK654.out 1
       have hnb122 := NB655_656.out
       have hnc122 := NB656_655.out
       have hnb123 := NB655_657.out
       have hnc123 := NB657_655.out
       have hnb124 := NB655_658.out
       have hnc124 := NB658_655.out
       have hnb125 := NB655_668.out
       have hnc125 := NB668_655.out
       have hnb126 := NB655_669.out
       have hnc126 := NB669_655.out
       obtain ⟨hcz127_0, hfz127_0⟩ := Zy (v := (.string a2)) BK655.out 0
       go_upto_if 26 with (first | ((with_reducible refine Qay (f := 47) rfl ?_); refine goesL_ (some 22) rfl rfl Try.func47 (by kernel_rfl) rfl #[.slice A0 l0.length c0, .agg #[.string a1_0, .string a1_1], .string a2, .int .i64 (wrap64 ((IntKind.u64.wrap (wrap64 (x305_1 + x306_1))) / 2))] rfl (Zl) ?_; (with_reducible refine (Qbe.calls k1 _ _ l0 a1_0 a1_1 a2 (wrap64 ((IntKind.u64.wrap (wrap64 (x305_1 + x306_1))) / 2)) t671 t674 _ ?side1 ?side2 A106.out).mono ?_); (case side1 => exact Zv (Kd.C_below HR0.out HB.out)); (case side2 => exact HC0.out); rintro e w128 ⟨v672, rfl, ho0, hb⟩; refine ⟨_, rfl, ?_⟩; have HO673 := Aside0.mk (Kd.R_lower ho0 (Qam (Zc8 GE653.out GE654.out GE655.out GE656.out GE657.out GE658.out GE668.out GE669.out))); replace BK653 := Aside0.mk (Zi BK653.out hb); replace BK654 := Aside0.mk (Zi BK654.out hb); replace BK655 := Aside0.mk (Zi BK655.out hb); replace BK656 := Aside0.mk (Zi BK656.out hb); replace BK657 := Aside0.mk (Zi BK657.out hb); replace BK658 := Aside0.mk (Zi BK658.out hb); replace BK668 := Aside0.mk (Zi BK668.out hb); replace BK669 := Aside0.mk (Zi BK669.out hb); replace HB := Aside0.mk (Qan (Zc8 GE653.out GE654.out GE655.out GE656.out GE657.out GE658.out GE668.out GE669.out) hb); (try clear hb); (try clear hb2); (try clear hk); (try clear hi); (try clear ho0)))
       (try simp only [Act.put, Zj, Zk, Zm])
       by_cases c129 : t674 = 0
       ·rw [if_pos c129] at H
        have c129b0 : (t674 == 0) = T := beq_iff_eq.mpr c129
        have c129b1 : (t674 != 0) = F := bne_eq_false_iff_eq.mpr c129
        clear c129
        (try simp only [c129b0, c129b1])
        replace H := Option.bind_eq_some_iff.mp H
        obtain ⟨⟨t675, t676⟩, A1300, H⟩ := H
        replace H : (if t676 = 0 then (if t675 ≥ a3 then (QaX.l0 k1 (wrap64 ((wrap64 ((IntKind.u64.wrap (wrap64 (x305_1 + x306_1))) / 2)) + 1)) x306_1 l0 a1_0 a1_1 a2 a3 l4 l5) else (QaX.l0 k1 x305_1 (wrap64 ((IntKind.u64.wrap (wrap64 (x305_1 + x306_1))) / 2)) l0 a1_0 a1_1 a2 a3 l4 l5)) else (QaX.l0 k1 x305_1 (wrap64 ((IntKind.u64.wrap (wrap64 (x305_1 + x306_1))) / 2)) l0 a1_0 a1_1 a2 a3 l4 l5)) = some (r1, r2) := H
        have A130 := Aside0.mk A1300
        clear A1300
        have hnb131 := NB654_653.out
        have hnc131 := NB653_654.out
        have hnb132 := NB654_655.out
        have hnc132 := NB655_654.out
        have hnb133 := NB654_656.out
        have hnc133 := NB656_654.out
        have hnb134 := NB654_657.out
        have hnc134 := NB657_654.out
        have hnb135 := NB654_658.out
        have hnc135 := NB658_654.out
        have hnb136 := NB654_668.out
        have hnc136 := NB668_654.out
        have hnb137 := NB654_669.out
        have hnc137 := NB669_654.out
        obtain ⟨hcz138_0, hfz138_0⟩ := Zy (v := (.string a1_0)) BK654.out 0
        obtain ⟨hcz138_1, hfz138_1⟩ := Zy (v := (.string a1_1)) BK654.out 1
        have hnb139 := NB656_653.out
        have hnc139 := NB653_656.out
        have hnb140 := NB656_655.out
        have hnc140 := NB655_656.out
        have hnb141 := NB656_657.out
        have hnc141 := NB657_656.out
        have hnb142 := NB656_658.out
        have hnc142 := NB658_656.out
        have hnb143 := NB656_668.out
        have hnc143 := NB668_656.out
        have hnb144 := NB656_669.out
        have hnc144 := NB669_656.out
        obtain ⟨hcz145_0, hfz145_0⟩ := Zy (v := (.int .i64 a3)) BK656.out 0
        have hnb146 := NB657_653.out
        have hnc146 := NB653_657.out
        have hnb147 := NB657_655.out
        have hnc147 := NB655_657.out
        have hnb148 := NB657_658.out
        have hnc148 := NB658_657.out
        have hnb149 := NB657_668.out
        have hnc149 := NB668_657.out
        have hnb150 := NB657_669.out
        have hnc150 := NB669_657.out
        obtain ⟨hcz151_0, hfz151_0⟩ := Zy (v := (.slice A4 l4.length c4)) BK657.out 0
        have hnb152 := NB658_653.out
        have hnc152 := NB653_658.out
        have hnb153 := NB658_655.out
        have hnc153 := NB655_658.out
        have hnb154 := NB658_668.out
        have hnc154 := NB668_658.out
        have hnb155 := NB658_669.out
        have hnc155 := NB669_658.out
        obtain ⟨hcz156_0, hfz156_0⟩ := Zy (v := (.slice A5 l5.length c5)) BK658.out 0
        obtain ⟨Ao157, co157, eo157⟩ := Kd.R_slice HO673.out
        subst eo157
        go_upto_region 8 with (first | ((with_reducible refine Qay (f := 30) rfl ?_); refine goesL_ (some 34) rfl rfl Try.func30 (by kernel_rfl) rfl #[.slice Ao157 t671.length co157, .agg #[.string a1_0, .string a1_1], .int .i64 a3, .slice A4 l4.length c4, .slice A5 l5.length c5] rfl (Zl) ?_; (with_reducible refine (Qa8.calls k1 _ _ t671 a1_0 a1_1 a3 _ _ l4 _ _ l5 t675 t676 _ ?side1 ?side2 ?side3 ?side4 ?side5 ?side6 A130.out).mono ?_); (case side1 => exact Zv (Kd.R_reads' HO673.out).2.2); (case side2 => exact (Kd.R_reads' HO673.out).2.1); (case side3 => exact Zv (Kd.C_below HR4.out HB.out)); (case side4 => exact HC4.out); (case side5 => exact Zv (Kd.C_below HR5.out HB.out)); (case side6 => exact HC5.out); rintro e w158 ⟨rfl, hb⟩; refine ⟨_, rfl, ?_⟩; replace HO673 := Aside0.mk (Kd.R_below (Zr HO673.out) hb); replace BK653 := Aside0.mk (Zi BK653.out hb); replace BK654 := Aside0.mk (Zi BK654.out hb); replace BK655 := Aside0.mk (Zi BK655.out hb); replace BK656 := Aside0.mk (Zi BK656.out hb); replace BK657 := Aside0.mk (Zi BK657.out hb); replace BK658 := Aside0.mk (Zi BK658.out hb); replace BK668 := Aside0.mk (Zi BK668.out hb); replace BK669 := Aside0.mk (Zi BK669.out hb); replace HB := Aside0.mk (Qan (Zc8 GE653.out GE654.out GE655.out GE656.out GE657.out GE658.out GE668.out GE669.out) hb); (try clear hb); (try clear hb2); (try clear hk); (try clear hi)))
        (try simp only [Act.put, Zj, Zk, Zm])
        by_cases c159 : t676 = 0
        ·rw [if_pos c159] at H
         have c159b0 : (t676 == 0) = T := beq_iff_eq.mpr c159
         have c159b1 : (t676 != 0) = F := bne_eq_false_iff_eq.mpr c159
         clear c159
         (try simp only [c159b0, c159b1])
         have hnb160 := NB656_653.out
         have hnc160 := NB653_656.out
         have hnb161 := NB656_654.out
         have hnc161 := NB654_656.out
         have hnb162 := NB656_655.out
         have hnc162 := NB655_656.out
         have hnb163 := NB656_657.out
         have hnc163 := NB657_656.out
         have hnb164 := NB656_658.out
         have hnc164 := NB658_656.out
         have hnb165 := NB656_668.out
         have hnc165 := NB668_656.out
         have hnb166 := NB656_669.out
         have hnc166 := NB669_656.out
         obtain ⟨hcz167_0, hfz167_0⟩ := Zy (v := (.int .i64 a3)) BK656.out 0
         go_upto_if 21 with (fail)
         by_cases c168 : t675 ≥ a3
         ·rw [if_pos c168] at H
          have c168b0 : decide (a3 ≤ t675) = T := decide_eq_true c168
          clear c168
          (try simp only [c168b0])
          have H' := Aside0.mk H
          clear H
          go_wp2
          go_roundg k1
          case measure => have := HK1.out; omega
          case rel => exact ⟨(wrap64 ((wrap64 ((IntKind.u64.wrap (wrap64 (x305_1 + x306_1))) / 2)) + 1)), (x306_1), (Zs), (Zs), H', ⟨by have := HK1.out; omega⟩, ⟨Zu BK653.out⟩, ⟨Zu BK654.out⟩, ⟨Zu BK655.out⟩, ⟨Zu BK656.out⟩, ⟨Zu BK657.out⟩, ⟨Zu BK658.out⟩, ⟨Zu BK668.out⟩, ⟨Zu BK669.out⟩, ⟨Zc8 GE653.out GE654.out GE655.out GE656.out GE657.out GE658.out GE668.out GE669.out⟩⟩
         rw [if_neg c168] at H
         have c168b0 : decide (a3 ≤ t675) = F := decide_eq_false c168
         clear c168
         (try simp only [c168b0])
         have H' := Aside0.mk H
         clear H
         go_wp2
         go_roundg k1
         case measure => have := HK1.out; omega
         case rel => exact ⟨(x305_1), (wrap64 ((IntKind.u64.wrap (wrap64 (x305_1 + x306_1))) / 2)), (Zs), (Zs), H', ⟨by have := HK1.out; omega⟩, ⟨Zu BK653.out⟩, ⟨Zu BK654.out⟩, ⟨Zu BK655.out⟩, ⟨Zu BK656.out⟩, ⟨Zu BK657.out⟩, ⟨Zu BK658.out⟩, ⟨Zu BK668.out⟩, ⟨Zu BK669.out⟩, ⟨Zc8 GE653.out GE654.out GE655.out GE656.out GE657.out GE658.out GE668.out GE669.out⟩⟩
        rw [if_neg c159] at H
        have c159b0 : (t676 == 0) = F := beq_eq_false_iff_ne.mpr c159
        have c159b1 : (t676 != 0) = T := bne_iff_ne.mpr c159
        (try simp only [c159b0, c159b1])
        have H' := Aside0.mk H
        clear H
        go_wp2
        go_roundg k1
        case measure => have := HK1.out; omega
        case rel => exact ⟨(x305_1), (wrap64 ((IntKind.u64.wrap (wrap64 (x305_1 + x306_1))) / 2)), (Zs), (Zs), H', ⟨by have := HK1.out; omega⟩, ⟨Zu BK653.out⟩, ⟨Zu BK654.out⟩, ⟨Zu BK655.out⟩, ⟨Zu BK656.out⟩, ⟨Zu BK657.out⟩, ⟨Zu BK658.out⟩, ⟨Zu BK668.out⟩, ⟨Zu BK669.out⟩, ⟨Zc8 GE653.out GE654.out GE655.out GE656.out GE657.out GE658.out GE668.out GE669.out⟩⟩
       rw [if_neg c129] at H
       have c129b0 : (t674 == 0) = F := beq_eq_false_iff_ne.mpr c129
       have c129b1 : (t674 != 0) = T := bne_iff_ne.mpr c129
       (try simp only [c129b0, c129b1])
       go_upto_region 6 with (fail)
       have H' := Aside0.mk H
       clear H
       go_wp2
       go_roundg k1
       case measure => have := HK1.out; omega
       case rel => exact ⟨(x305_1), (wrap64 ((IntKind.u64.wrap (wrap64 (x305_1 + x306_1))) / 2)), (Zs), (Zs), H', ⟨by have := HK1.out; omega⟩, ⟨Zu BK653.out⟩, ⟨Zu BK654.out⟩, ⟨Zu BK655.out⟩, ⟨Zu BK656.out⟩, ⟨Zu BK657.out⟩, ⟨Zu BK658.out⟩, ⟨Zu BK668.out⟩, ⟨Zu BK669.out⟩, ⟨Zc8 GE653.out GE654.out GE655.out GE656.out GE657.out GE658.out GE668.out GE669.out⟩⟩
      rw [if_neg c105] at H
      have c105b0 : decide (0 < (wrap64 ((IntKind.u64.wrap (wrap64 (x305_1 + x306_1))) / 2))) = F := decide_eq_false c105
      clear c105
      (try simp only [c105b0])
      replace H := Option.bind_eq_some_iff.mp H
      obtain ⟨⟨t677, t678⟩, A1690, H⟩ := H
      replace H : (if t678 = 0 then (if t677 ≥ a3 then (QaX.l0 k1 (wrap64 ((wrap64 ((IntKind.u64.wrap (wrap64 (x305_1 + x306_1))) / 2)) + 1)) x306_1 l0 a1_0 a1_1 a2 a3 l4 l5) else (QaX.l0 k1 x305_1 (wrap64 ((IntKind.u64.wrap (wrap64 (x305_1 + x306_1))) / 2)) l0 a1_0 a1_1 a2 a3 l4 l5)) else (QaX.l0 k1 x305_1 (wrap64 ((IntKind.u64.wrap (wrap64 (x305_1 + x306_1))) / 2)) l0 a1_0 a1_1 a2 a3 l4 l5)) = some (r1, r2) := H
      have A169 := Aside0.mk A1690
      clear A1690
      have hnb170 := NB654_653.out
      have hnc170 := NB653_654.out
      have hnb171 := NB654_655.out
      have hnc171 := NB655_654.out
      have hnb172 := NB654_656.out
      have hnc172 := NB656_654.out
      have hnb173 := NB654_657.out
      have hnc173 := NB657_654.out
      have hnb174 := NB654_658.out
      have hnc174 := NB658_654.out
      have hnb175 := NB654_668.out
      have hnc175 := NB668_654.out
      have hnb176 := NB654_669.out
      have hnc176 := NB669_654.out
      obtain ⟨hcz177_0, hfz177_0⟩ := Zy (v := (.string a1_0)) BK654.out 0
      obtain ⟨hcz177_1, hfz177_1⟩ := Zy (v := (.string a1_1)) BK654.out 1
      have hnb178 := NB656_653.out
      have hnc178 := NB653_656.out
      have hnb179 := NB656_655.out
      have hnc179 := NB655_656.out
      have hnb180 := NB656_657.out
      have hnc180 := NB657_656.out
      have hnb181 := NB656_658.out
      have hnc181 := NB658_656.out
      have hnb182 := NB656_668.out
      have hnc182 := NB668_656.out
      have hnb183 := NB656_669.out
      have hnc183 := NB669_656.out
      obtain ⟨hcz184_0, hfz184_0⟩ := Zy (v := (.int .i64 a3)) BK656.out 0
      have hnb185 := NB657_653.out
      have hnc185 := NB653_657.out
      have hnb186 := NB657_655.out
      have hnc186 := NB655_657.out
      have hnb187 := NB657_658.out
      have hnc187 := NB658_657.out
      have hnb188 := NB657_668.out
      have hnc188 := NB668_657.out
      have hnb189 := NB657_669.out
      have hnc189 := NB669_657.out
      obtain ⟨hcz190_0, hfz190_0⟩ := Zy (v := (.slice A4 l4.length c4)) BK657.out 0
      have hnb191 := NB658_653.out
      have hnc191 := NB653_658.out
      have hnb192 := NB658_655.out
      have hnc192 := NB655_658.out
      have hnb193 := NB658_668.out
      have hnc193 := NB668_658.out
      have hnb194 := NB658_669.out
      have hnc194 := NB669_658.out
      obtain ⟨hcz195_0, hfz195_0⟩ := Zy (v := (.slice A5 l5.length c5)) BK658.out 0
      go_upto_region 8 with (first | ((with_reducible refine Qay (f := 30) rfl ?_); refine goesL_ (some 34) rfl rfl Try.func30 (by kernel_rfl) rfl #[.slice A0 l0.length c0, .agg #[.string a1_0, .string a1_1], .int .i64 a3, .slice A4 l4.length c4, .slice A5 l5.length c5] rfl (Zl) ?_; (with_reducible refine (Qa8.calls k1 _ _ l0 a1_0 a1_1 a3 _ _ l4 _ _ l5 t677 t678 _ ?side1 ?side2 ?side3 ?side4 ?side5 ?side6 A169.out).mono ?_); (case side1 => exact Zv (Kd.C_below HR0.out HB.out)); (case side2 => exact HC0.out); (case side3 => exact Zv (Kd.C_below HR4.out HB.out)); (case side4 => exact HC4.out); (case side5 => exact Zv (Kd.C_below HR5.out HB.out)); (case side6 => exact HC5.out); rintro e w196 ⟨rfl, hb⟩; refine ⟨_, rfl, ?_⟩; replace BK653 := Aside0.mk (Zi BK653.out hb); replace BK654 := Aside0.mk (Zi BK654.out hb); replace BK655 := Aside0.mk (Zi BK655.out hb); replace BK656 := Aside0.mk (Zi BK656.out hb); replace BK657 := Aside0.mk (Zi BK657.out hb); replace BK658 := Aside0.mk (Zi BK658.out hb); replace BK668 := Aside0.mk (Zi BK668.out hb); replace BK669 := Aside0.mk (Zi BK669.out hb); replace HB := Aside0.mk (Qan (Zc8 GE653.out GE654.out GE655.out GE656.out GE657.out GE658.out GE668.out GE669.out) hb); (try clear hb); (try clear hb2); (try clear hk); (try clear hi)))
      (try simp only [Act.put, Zj, Zk, Zm])
      by_cases c197 : t678 = 0
      ·rw [if_pos c197] at H
       have c197b0 : (t678 == 0) = T := beq_iff_eq.mpr c197
       have c197b1 : (t678 != 0) = F := bne_eq_false_iff_eq.mpr c197
       clear c197
       (try simp only [c197b0, c197b1])
       have hnb198 := NB656_653.out
       have hnc198 := NB653_656.out
       have hnb199 := NB656_654.out
       have hnc199 := NB654_656.out
       have hnb200 := NB656_655.out
       have hnc200 := NB655_656.out
       have hnb201 := NB656_657.out
       have hnc201 := NB657_656.out
       have hnb202 := NB656_658.out
       have hnc202 := NB658_656.out
       have hnb203 := NB656_668.out
       have hnc203 := NB668_656.out
       have hnb204 := NB656_669.out
       have hnc204 := NB669_656.out
       obtain ⟨hcz205_0, hfz205_0⟩ := Zy (v := (.int .i64 a3)) BK656.out 0
       go_upto_if 21 with (fail)
       by_cases c206 : t677 ≥ a3
       ·rw [if_pos c206] at H
        have c206b0 : decide (a3 ≤ t677) = T := decide_eq_true c206
        clear c206
        (try simp only [c206b0])
        have H' := Aside0.mk H
        clear H
        go_wp2
        go_roundg k1
        case measure => have := HK1.out; omega
        case rel => exact ⟨(wrap64 ((wrap64 ((IntKind.u64.wrap (wrap64 (x305_1 + x306_1))) / 2)) + 1)), (x306_1), (Zs), (Zs), H', ⟨by have := HK1.out; omega⟩, ⟨Zu BK653.out⟩, ⟨Zu BK654.out⟩, ⟨Zu BK655.out⟩, ⟨Zu BK656.out⟩, ⟨Zu BK657.out⟩, ⟨Zu BK658.out⟩, ⟨Zu BK668.out⟩, ⟨Zu BK669.out⟩, ⟨Zc8 GE653.out GE654.out GE655.out GE656.out GE657.out GE658.out GE668.out GE669.out⟩⟩
       rw [if_neg c206] at H
       have c206b0 : decide (a3 ≤ t677) = F := decide_eq_false c206
       clear c206
       (try simp only [c206b0])
       have H' := Aside0.mk H
       clear H
       go_wp2
       go_roundg k1
       case measure => have := HK1.out; omega
       case rel => exact ⟨(x305_1), (wrap64 ((IntKind.u64.wrap (wrap64 (x305_1 + x306_1))) / 2)), (Zs), (Zs), H', ⟨by have := HK1.out; omega⟩, ⟨Zu BK653.out⟩, ⟨Zu BK654.out⟩, ⟨Zu BK655.out⟩, ⟨Zu BK656.out⟩, ⟨Zu BK657.out⟩, ⟨Zu BK658.out⟩, ⟨Zu BK668.out⟩, ⟨Zu BK669.out⟩, ⟨Zc8 GE653.out GE654.out GE655.out GE656.out GE657.out GE658.out GE668.out GE669.out⟩⟩
      rw [if_neg c197] at H
      have c197b0 : (t678 == 0) = F := beq_eq_false_iff_ne.mpr c197
      have c197b1 : (t678 != 0) = T := bne_iff_ne.mpr c197
      (try simp only [c197b0, c197b1])
      go_upto_region 6 with (fail)
      have H' := Aside0.mk H
      clear H
      go_wp2
      go_roundg k1
      case measure => have := HK1.out; omega
      case rel => exact ⟨(x305_1), (wrap64 ((IntKind.u64.wrap (wrap64 (x305_1 + x306_1))) / 2)), (Zs), (Zs), H', ⟨by have := HK1.out; omega⟩, ⟨Zu BK653.out⟩, ⟨Zu BK654.out⟩, ⟨Zu BK655.out⟩, ⟨Zu BK656.out⟩, ⟨Zu BK657.out⟩, ⟨Zu BK658.out⟩, ⟨Zu BK668.out⟩, ⟨Zu BK669.out⟩, ⟨Zc8 GE653.out GE654.out GE655.out GE656.out GE657.out GE658.out GE668.out GE669.out⟩⟩
     rw [if_neg c89] at H
     have c89b0 : decide (x305_1 < x306_1) = F := decide_eq_false c89
     clear c89
     (try simp only [c89b0])
     go_upto_region 10 with (fail)
     obtain ⟨ji207, hji207⟩ : ∃ j_ : Int, (mx (wrap64 (x305_1 - 1)) 0) = j_ := ⟨_, rfl⟩
     replace H : (some (ji207, 0)) = some (r1, r2) := by first | (rw [hji207] at H; exact H) | (simp only [hji207] at H ⊢; exact H)
     have hji207_ : (if (wrap64 (x305_1 - 1)) < 0 then 0 else (wrap64 (x305_1 - 1))) = ji207 := hji207
     simp only [Option.some.injEq, Prod.mk.injEq] at H
     obtain ⟨rfl, rfl⟩ := H
     go_wp2
     go_ret2
     exact ⟨by first | rfl | (simp [Qaj, Qak] <;> rfl) | (simp only [← hji207]; first | rfl | (simp [Qaj, Qak] <;> rfl)) | (simp [*, Qaj, Qak] <;> rfl), Zc8 GE653.out GE654.out GE655.out GE656.out GE657.out GE658.out GE668.out GE669.out⟩
  replace c58 := Bool.eq_false_iff.mpr c58
  subst c58
  have H1 : (some (0, 11)) = some (r1, r2) := by rw [if_neg (show ¬ (F = T) by decide)] at H; exact H
  clear H
  have H := H1
  clear H1
  simp only [Option.some.injEq, Prod.mk.injEq] at H
  obtain ⟨rfl, rfl⟩ := H
  go_wp2
  go_ret2
  exact ⟨Zq, Zc7 GE653.out GE654.out GE655.out GE656.out GE657.out GE658.out GE668.out⟩
 rw [if_neg c35] at H
 have c35b0 : (t660 == 0) = F := beq_eq_false_iff_ne.mpr c35
 have c35b1 : (t660 != 0) = T := bne_iff_ne.mpr c35
 (try simp only [c35b0, c35b1])
 simp only [Option.some.injEq, Prod.mk.injEq] at H
 obtain ⟨rfl, rfl⟩ := H
 go_wp2
 go_ret2
 exact ⟨Zq, Zc6 GE653.out GE654.out GE655.out GE656.out GE657.out GE658.out⟩
end Go.Proofs.Ytfcaaefdmabkhaa.Pr
