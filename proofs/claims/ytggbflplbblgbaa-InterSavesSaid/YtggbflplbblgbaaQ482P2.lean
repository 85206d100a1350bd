/- Functions' values and contracts, as the print wrote them. -/
import Derived.Test.YtggbflplbblgbaaQ482P0
import Derived.Test.YtggbflplbblgbaaQ482P1
namespace Go.Proofs.Ytggbflplbblgbaa.Pr
open Bool renaming true → T
open Bool renaming false → F
open Go.RowKit Go.Proofs.YtggbflplbblgbaaW.PrintWords Go.Proofs.YtggbflplbblgbaaW.PrintLast Go.Proofs.YtggbflplbblgbaaW.PrintMore
attribute [local go_sem] QaJ QaL QaR QaS QaE QaF QaK QaM   -- for this text's walks alone
set_option linter.unusedVariables false
set_option linter.unusedSimpArgs false
set_option maxRecDepth 100000
mutual
def Qaf.l0 : Nat → List (S75) → Int → Option (Int)
 | 0, _, _ => none
 | k + 1, x0, x3 => if x3 < (x0.length : Int) then (if 0 ≤ x3 then ((Qan.f k ((rd_T75 x0 x3).f0)).bind fun t788 => (if t788 = T then ((Qan.f k ((rd_T75 x0 x3).f1)).bind fun t790 => (if t790 = T then (Qaf.j1 k x0 x3 (((rd_T75 x0 x3).f0).toList == ((rd_T75 x0 x3).f1).toList)) else (Qaf.j1 k x0 x3 T))) else (Qaf.j1 k x0 x3 T))) else (none)) else (some 0)
def Qaf.j1 : Nat → List (S75) → Int → Bool → Option (Int)
 | 0, _, _, _ => none
 | k + 1, x0, x3, x41 => if x41 = T then (some 10) else (if 0 ≤ x3 then (if x3 < (x0.length : Int) then ((Qam.f ((rd_T75 x0 x3).f2) 1 1000).bind fun t794 => (if t794 = T then ((Qam.f ((rd_T75 x0 x3).f3) 1 1000).bind fun t796 => (if t796 = T then ((Qam.f ((rd_T75 x0 x3).f4) 0 1000).bind fun t798 => (if t798 = T then (Qaf.l0 k x0 (wrap64 (x3 + 1))) else (some 2))) else (some 2))) else (some 2))) else (none)) else (none))
end
def Qaf.f (k : Nat) (l0 : List (S75)) : Option (Int) := if (l0.length : Int) > 1024 then (some 8) else (Qaf.l0 k l0 0)
theorem Qaf.mono_l : ∀ k, (∀ y0 y1, LeO (Qaf.l0 k y0 y1) (Qaf.l0 (k + 1) y0 y1)) ∧ (∀ y0 y1 y2, LeO (Qaf.j1 k y0 y1 y2) (Qaf.j1 (k + 1) y0 y1 y2))
 | 0 => ⟨fun _ _ r h => by simp [Qaf.l0] at h, fun _ _ _ r h => by simp [Qaf.j1] at h⟩
 | k + 1 => by
  obtain ⟨ih0, ih1⟩ := Qaf.mono_l k
  refine ⟨?_, ?_⟩
  ·intro y0 y1
   unfold Qaf.l0
   exact ZM3 ih0 ih1 Qan.mono
  intro y0 y1 y2
  unfold Qaf.j1
  exact ZM3 ih0 ih1 Qan.mono
theorem Qaf.mono : ∀ a0 k, LeO (Qaf.f k a0) (Qaf.f (k + 1) a0) := by
 intro a0 k
 obtain ⟨ih0, ih1⟩ := Qaf.mono_l k
 unfold Qaf.f
 exact ZM3 ih0 ih1 Qan.mono
def Qaf.T6 : Bool × List (List Nat × List Nat) := (T, [([], []), ([], []), ([0, 1], [0, 1]), ([2], [2]), ([3], [3]), ([4], [4]), ([5], [5]), ([6, 5], [6]), ([7], [7]), ([7], [7]), ([8, 9, 7], [7, 8, 9]), ([10, 7], [7, 10]), ([11, 7], [7, 11]), ([12, 7, 7], [7, 12]), ([13, 7], [7, 13]), ([7, 14], [7, 14]), ([15, 13], [15]), ([16], [16]), ([16], [16]), ([17, 18, 16], [16, 17, 18]), ([19, 16], [16, 19]), ([20, 16], [16, 20]), ([16], [16]), ([16], [16]), ([22, 23, 16], [16, 22, 23]), ([24, 16], [16, 24]), ([25, 16], [16, 25]), ([21, 26, 16], [16, 21, 26]), ([16, 27], [16, 27])])
def Qaf.B6 : List Nat := [0, 0, 3, 7, 15, 31, 63, 127, 255, 255, 1023, 2047, 4095, 8191, 16383, 32767, 65535, 131071, 131071, 524287, 1048575, 2097151, 131071, 131071, 12713983, 29491199, 63045631, 134217727, 268435455]
theorem Qaf.tab6 : rtab .any (opsOf Try.f45 6) = Qaf.T6 := by kernel_rfl
theorem Qaf.bits6 : Qa5 Qaf.T6.2 Qaf.B6 = T := by kernel_rfl
set_option maxHeartbeats 8000000 in
theorem Qaf.calls (k : Nat) (A0 : Option Addr) (c0 : Nat) (l0 : List (S75)) (r : Int) (w : World) (hr0 : Kd.C k75 w A0 l0.length l0) (hc0 : l0.length ≤ c0) (h : Qaf.f k l0 = some r) :
  Calls Try.prog 45 #[.slice A0 l0.length c0] w fun e w' => e = .returned (.int .i64 r) ∧ Below w.heap.size w w' := by
 have HR0 := Aside0.mk hr0
 have HC0 := Aside0.mk hc0
 clear hr0 hc0
 have HB := Aside0.mk (Below.refl w.heap.size w)
 have H : (if (l0.length : Int) > 1024 then (some 8) else (Qaf.l0 k l0 0)) = some r := h
 clear h
 by_cases c2 : (l0.length : Int) > 1024
 ·rw [if_pos c2] at H
  have c2b0 : decide (1024 < (l0.length : Int)) = T := decide_eq_true c2
  have c2b1 : decide (1024 < l0.length) = T := decide_eq_true (by omega)
  clear c2
  obtain rfl := Option.some.inj H
  go_enter Try.func45, Try.ntmps45
  go_wp2
  go_ret
  exact ⟨Zq, Zb⟩
 rw [if_neg c2] at H
 have c2b0 : decide (1024 < (l0.length : Int)) = F := decide_eq_false c2
 have c2b1 : decide (1024 < l0.length) = F := decide_eq_false (by omega)
 clear c2
 have H' := Aside0.mk H
 clear H
 go_enter Try.func45, Try.ntmps45
 go_wp2
 go_loopg [3] k (fun kq v3 w' => ∃ (x3_1 : Int), v3 = .int .i64 x3_1 ∧ Aside0 (Qaf.l0 kq l0 x3_1 = some r) ∧ Aside0 (kq ≤ k) ∧ Aside0 (Below w.heap.size w w'))
 case atStart => exact ⟨(0), (Zs), H', ⟨Nat.le_refl _⟩, ⟨Zb⟩⟩
 case round =>
  clear H'
  try clear c2
  try clear c2b0
  try clear c2b1
  try clear p2
  obtain ⟨x3_1, rfl, HA, HK1, HB⟩ := hrel
  cases gk with
  | zero => exact absurd HA.out (by simp [Qaf.l0])
  | succ k1 =>
   have H := HA.out
   clear HA
   simp only [Qaf.l0] at H
   by_cases c3 : x3_1 < (l0.length : Int)
   ·rw [if_pos c3] at H
    have c3b0 : decide (x3_1 < (l0.length : Int)) = T := decide_eq_true c3
    clear c3
    (try simp only [c3b0])
    have HC4 := Aside0.mk H
    clear H
    go_upto_region 6 with (fail)
    go_cut [41] (fun v41 wc => ∃ (kq : Nat) (x41_3 : Bool), v41 = .bool x41_3 ∧ Aside0 (Qaf.j1 kq l0 x3_1 x41_3 = some r) ∧ Aside0 (kq ≤ k1) ∧ Aside0 (Below w.heap.size w wc))
    case first =>
     have H := HC4.out
     clear HC4
     by_cases c5 : 0 ≤ x3_1
     ·rw [if_pos c5] at H
      have c5b0 : decide (0 ≤ x3_1) = T := decide_eq_true c5
      clear c5
      (first | rw [c5b0] | (simp only [i64_w, i32_w]; rw [c5b0]) | skip)
      replace H := Option.bind_eq_some_iff.mp H
      obtain ⟨t788, A60, H⟩ := H
      replace H : (if t788 = T then ((Qan.f k1 ((rd_T75 l0 x3_1).f1)).bind fun t790 => (if t790 = T then (Qaf.j1 k1 l0 x3_1 (((rd_T75 l0 x3_1).f0).toList == ((rd_T75 l0 x3_1).f1).toList)) else (Qaf.j1 k1 l0 x3_1 T))) else (Qaf.j1 k1 l0 x3_1 T)) = some r := H
      have A6 := Aside0.mk A60
      clear A60
      by_cases c7 : t788 = T
      ·subst c7
       have H1 : ((Qan.f k1 ((rd_T75 l0 x3_1).f1)).bind fun t790 => (if t790 = T then (Qaf.j1 k1 l0 x3_1 (((rd_T75 l0 x3_1).f0).toList == ((rd_T75 l0 x3_1).f1).toList)) else (Qaf.j1 k1 l0 x3_1 T))) = some r := by rw [if_pos rfl] at H; exact H
       clear H
       have H := H1
       clear H1
       replace H := Option.bind_eq_some_iff.mp H
       obtain ⟨t790, A80, H⟩ := H
       replace H : (if t790 = T then (Qaf.j1 k1 l0 x3_1 (((rd_T75 l0 x3_1).f0).toList == ((rd_T75 l0 x3_1).f1).toList)) else (Qaf.j1 k1 l0 x3_1 T)) = some r := H
       have A8 := Aside0.mk A80
       clear A80
       by_cases c9 : t790 = T
       ·subst c9
        have H1 : (Qaf.j1 k1 l0 x3_1 (((rd_T75 l0 x3_1).f0).toList == ((rd_T75 l0 x3_1).f1).toList)) = some r := by rw [if_pos rfl] at H; exact H
        clear H
        have H := H1
        clear H1
        have H' := Aside0.mk H
        clear H
        try go_wp2
        replace HB := Aside0.mk (Qac HB.out)
        have p787 : 0 ≤ (x3_1 : Int) := Ze
        have q787 : x3_1 < (l0.length : Int) := Ze
        obtain ⟨ad787, e787, hx787_0, hx787_1, hx787_2, hx787_3, hx787_4⟩ := at_T75 HR0.out x3_1 p787 q787
        have hw787_4 := hx787_4
        have hw787_3 := hx787_3
        have hw787_2 := hx787_2
        have hw787_1 := hx787_1
        have hw787_0 := hx787_0
        cases e787
        replace hx787_0 := Zx HB.out hx787_0
        replace hx787_1 := Zx HB.out hx787_1
        replace hx787_2 := Zx HB.out hx787_2
        replace hx787_3 := Zx HB.out hx787_3
        replace hx787_4 := Zx HB.out hx787_4
        replace p787 := eq_true p787
        replace q787 := eq_true q787
        have p789 : 0 ≤ (x3_1 : Int) := Ze
        have q789 : x3_1 < (l0.length : Int) := Ze
        obtain ⟨ad789, e789, hx789_0, hx789_1, hx789_2, hx789_3, hx789_4⟩ := at_T75 HR0.out x3_1 p789 q789
        have hw789_4 := hx789_4
        have hw789_3 := hx789_3
        have hw789_2 := hx789_2
        have hw789_1 := hx789_1
        have hw789_0 := hx789_0
        obtain rfl : ad787 = ad789 := (by injection e789)
        replace hx789_0 := Zx HB.out hx789_0
        replace hx789_1 := Zx HB.out hx789_1
        replace hx789_2 := Zx HB.out hx789_2
        replace hx789_3 := Zx HB.out hx789_3
        replace hx789_4 := Zx HB.out hx789_4
        replace p789 := eq_true p789
        replace q789 := eq_true q789
        have p791 : 0 ≤ (x3_1 : Int) := Ze
        have q791 : x3_1 < (l0.length : Int) := Ze
        obtain ⟨ad791, e791, hx791_0, hx791_1, hx791_2, hx791_3, hx791_4⟩ := at_T75 HR0.out x3_1 p791 q791
        have hw791_4 := hx791_4
        have hw791_3 := hx791_3
        have hw791_2 := hx791_2
        have hw791_1 := hx791_1
        have hw791_0 := hx791_0
        obtain rfl : ad787 = ad791 := (by injection e791)
        replace hx791_0 := Zx HB.out hx791_0
        replace hx791_1 := Zx HB.out hx791_1
        replace hx791_2 := Zx HB.out hx791_2
        replace hx791_3 := Zx HB.out hx791_3
        replace hx791_4 := Zx HB.out hx791_4
        replace p791 := eq_true p791
        replace q791 := eq_true q791
        have p792 : 0 ≤ (x3_1 : Int) := Ze
        have q792 : x3_1 < (l0.length : Int) := Ze
        obtain ⟨ad792, e792, hx792_0, hx792_1, hx792_2, hx792_3, hx792_4⟩ := at_T75 HR0.out x3_1 p792 q792
        have hw792_4 := hx792_4
        have hw792_3 := hx792_3
        have hw792_2 := hx792_2
        have hw792_1 := hx792_1
        have hw792_0 := hx792_0
        obtain rfl : ad787 = ad792 := (by injection e792)
        replace hx792_0 := Zx HB.out hx792_0
        replace hx792_1 := Zx HB.out hx792_1
        replace hx792_2 := Zx HB.out hx792_2
        replace hx792_3 := Zx HB.out hx792_3
        replace hx792_4 := Zx HB.out hx792_4
        replace p792 := eq_true p792
        replace q792 := eq_true q792
        refine start_ (n := 29) (S := fun w' => w'.cell? (ad787.add ((x3_1).toNat * 5)) = some (.string ((rd_T75 l0 x3_1).f0)) ∧ w'.cell? ⟨(ad787.add ((x3_1).toNat * 5)).block, (ad787.add ((x3_1).toNat * 5)).off + 1, none⟩ = some (.string ((rd_T75 l0 x3_1).f1)) ∧ w'.cell? ⟨(ad787.add ((x3_1).toNat * 5)).block, (ad787.add ((x3_1).toNat * 5)).off + 2, none⟩ = some (.int .i64 ((rd_T75 l0 x3_1).f2)) ∧ w'.cell? ⟨(ad787.add ((x3_1).toNat * 5)).block, (ad787.add ((x3_1).toNat * 5)).off + 3, none⟩ = some (.int .i64 ((rd_T75 l0 x3_1).f3)) ∧ w'.cell? ⟨(ad787.add ((x3_1).toNat * 5)).block, (ad787.add ((x3_1).toNat * 5)).off + 4, none⟩ = some (.int .i64 ((rd_T75 l0 x3_1).f4)) ∧ w'.cell? (ad787.add ((x3_1).toNat * 5)) = some (.string ((rd_T75 l0 x3_1).f0)) ∧ w'.cell? ⟨(ad787.add ((x3_1).toNat * 5)).block, (ad787.add ((x3_1).toNat * 5)).off + 1, none⟩ = some (.string ((rd_T75 l0 x3_1).f1)) ∧ w'.cell? ⟨(ad787.add ((x3_1).toNat * 5)).block, (ad787.add ((x3_1).toNat * 5)).off + 2, none⟩ = some (.int .i64 ((rd_T75 l0 x3_1).f2)) ∧ w'.cell? ⟨(ad787.add ((x3_1).toNat * 5)).block, (ad787.add ((x3_1).toNat * 5)).off + 3, none⟩ = some (.int .i64 ((rd_T75 l0 x3_1).f3)) ∧ w'.cell? ⟨(ad787.add ((x3_1).toNat * 5)).block, (ad787.add ((x3_1).toNat * 5)).off + 4, none⟩ = some (.int .i64 ((rd_T75 l0 x3_1).f4)) ∧ w'.cell? (ad787.add ((x3_1).toNat * 5)) = some (.string ((rd_T75 l0 x3_1).f0)) ∧ w'.cell? ⟨(ad787.add ((x3_1).toNat * 5)).block, (ad787.add ((x3_1).toNat * 5)).off + 1, none⟩ = some (.string ((rd_T75 l0 x3_1).f1)) ∧ w'.cell? ⟨(ad787.add ((x3_1).toNat * 5)).block, (ad787.add ((x3_1).toNat * 5)).off + 2, none⟩ = some (.int .i64 ((rd_T75 l0 x3_1).f2)) ∧ w'.cell? ⟨(ad787.add ((x3_1).toNat * 5)).block, (ad787.add ((x3_1).toNat * 5)).off + 3, none⟩ = some (.int .i64 ((rd_T75 l0 x3_1).f3)) ∧ w'.cell? ⟨(ad787.add ((x3_1).toNat * 5)).block, (ad787.add ((x3_1).toNat * 5)).off + 4, none⟩ = some (.int .i64 ((rd_T75 l0 x3_1).f4)) ∧ w'.cell? (ad787.add ((x3_1).toNat * 5)) = some (.string ((rd_T75 l0 x3_1).f0)) ∧ w'.cell? ⟨(ad787.add ((x3_1).toNat * 5)).block, (ad787.add ((x3_1).toNat * 5)).off + 1, none⟩ = some (.string ((rd_T75 l0 x3_1).f1)) ∧ w'.cell? ⟨(ad787.add ((x3_1).toNat * 5)).block, (ad787.add ((x3_1).toNat * 5)).off + 2, none⟩ = some (.int .i64 ((rd_T75 l0 x3_1).f2)) ∧ w'.cell? ⟨(ad787.add ((x3_1).toNat * 5)).block, (ad787.add ((x3_1).toNat * 5)).off + 3, none⟩ = some (.int .i64 ((rd_T75 l0 x3_1).f3)) ∧ w'.cell? ⟨(ad787.add ((x3_1).toNat * 5)).block, (ad787.add ((x3_1).toNat * 5)).off + 4, none⟩ = some (.int .i64 ((rd_T75 l0 x3_1).f4))) (ds := []) #[F, F, F, F, F, F, F, F, F, F, F, F, F, F, F, F, F, F, F, F, F, F, F, F, F, F, F, F, F] (by kernel_rfl) rfl rfl ⟨((HB.out.cell (World.block_lt_of_cell? w _ hw787_0)).trans hw787_0), ((HB.out.cell (World.block_lt_of_cell? w _ hw787_1)).trans hw787_1), ((HB.out.cell (World.block_lt_of_cell? w _ hw787_2)).trans hw787_2), ((HB.out.cell (World.block_lt_of_cell? w _ hw787_3)).trans hw787_3), ((HB.out.cell (World.block_lt_of_cell? w _ hw787_4)).trans hw787_4), ((HB.out.cell (World.block_lt_of_cell? w _ hw789_0)).trans hw789_0), ((HB.out.cell (World.block_lt_of_cell? w _ hw789_1)).trans hw789_1), ((HB.out.cell (World.block_lt_of_cell? w _ hw789_2)).trans hw789_2), ((HB.out.cell (World.block_lt_of_cell? w _ hw789_3)).trans hw789_3), ((HB.out.cell (World.block_lt_of_cell? w _ hw789_4)).trans hw789_4), ((HB.out.cell (World.block_lt_of_cell? w _ hw791_0)).trans hw791_0), ((HB.out.cell (World.block_lt_of_cell? w _ hw791_1)).trans hw791_1), ((HB.out.cell (World.block_lt_of_cell? w _ hw791_2)).trans hw791_2), ((HB.out.cell (World.block_lt_of_cell? w _ hw791_3)).trans hw791_3), ((HB.out.cell (World.block_lt_of_cell? w _ hw791_4)).trans hw791_4), ((HB.out.cell (World.block_lt_of_cell? w _ hw792_0)).trans hw792_0), ((HB.out.cell (World.block_lt_of_cell? w _ hw792_1)).trans hw792_1), ((HB.out.cell (World.block_lt_of_cell? w _ hw792_2)).trans hw792_2), ((HB.out.cell (World.block_lt_of_cell? w _ hw792_3)).trans hw792_3), ((HB.out.cell (World.block_lt_of_cell? w _ hw792_4)).trans hw792_4)⟩ (fun hHeld => ?_); refine QaC Qaf.tab6 Qaf.bits6 (fun HT_ HW_ => ?_)
        generalize wr.drew = w10 at HB hx787_0 hx787_1 hx787_2 hx787_3 hx787_4 hx789_0 hx789_1 hx789_2 hx789_3 hx789_4 hx791_0 hx791_1 hx791_2 hx791_3 hx791_4 hx792_0 hx792_1 hx792_2 hx792_3 hx792_4 hHeld ⊢
        refine Zsp (i := 0) (N := some 13) (pm 29 1) HT_ ?_
        refine Zsp (i := 1) (N := some 14) (pm 29 2) HT_ ?_
        refine Zsp (i := 2) (N := some 15) (pm 29 3) HT_ ?_
        refine Zsp (i := 3) (N := some 16) (pm 29 4) HT_ ?_
        refine Zst (i := 4) (N := some 17) (pm 29 5) HT_ HW_ hHeld ?_ (hy := by (refine Or.inl ⟨by rfl, ?_⟩; rintro w' ⟨s0, s1, s2, s3, s4, s5, s6, s7, s8, s9, s10, s11, s12, s13, s14, s15, s16, s17, s18, s19⟩; go_simp; with_reducible rfl))
        refine one_ (i := 5) (N := some 18) #[T, T, T, T, T, T, F, F, F, F, F, F, F, F, F, F, F, F, F, F, F, F, F, F, F, F, F, F, F] rfl rfl (one_of HT_.out (by kernel_rfl)) (by decide) (fun K hK => ?_)
        refine goes_ Try.func30 (by kernel_rfl) rfl #[.string ((rd_T75 l0 x3_1).f0)] (by rfl) rfl rfl (Zl) ?_
        with_reducible refine (Qan.calls k1 ((rd_T75 l0 x3_1).f0) T _ A6.out).mono ?_
        rintro e w' ⟨rfl, ⟨nd, rfl⟩⟩
        refine ⟨_, rfl, ?_⟩
        refine hK.out _ _ ⟨((HB.out.cell (World.block_lt_of_cell? w _ hw787_0)).trans hw787_0), ((HB.out.cell (World.block_lt_of_cell? w _ hw787_1)).trans hw787_1), ((HB.out.cell (World.block_lt_of_cell? w _ hw787_2)).trans hw787_2), ((HB.out.cell (World.block_lt_of_cell? w _ hw787_3)).trans hw787_3), ((HB.out.cell (World.block_lt_of_cell? w _ hw787_4)).trans hw787_4), ((HB.out.cell (World.block_lt_of_cell? w _ hw789_0)).trans hw789_0), ((HB.out.cell (World.block_lt_of_cell? w _ hw789_1)).trans hw789_1), ((HB.out.cell (World.block_lt_of_cell? w _ hw789_2)).trans hw789_2), ((HB.out.cell (World.block_lt_of_cell? w _ hw789_3)).trans hw789_3), ((HB.out.cell (World.block_lt_of_cell? w _ hw789_4)).trans hw789_4), ((HB.out.cell (World.block_lt_of_cell? w _ hw791_0)).trans hw791_0), ((HB.out.cell (World.block_lt_of_cell? w _ hw791_1)).trans hw791_1), ((HB.out.cell (World.block_lt_of_cell? w _ hw791_2)).trans hw791_2), ((HB.out.cell (World.block_lt_of_cell? w _ hw791_3)).trans hw791_3), ((HB.out.cell (World.block_lt_of_cell? w _ hw791_4)).trans hw791_4), ((HB.out.cell (World.block_lt_of_cell? w _ hw792_0)).trans hw792_0), ((HB.out.cell (World.block_lt_of_cell? w _ hw792_1)).trans hw792_1), ((HB.out.cell (World.block_lt_of_cell? w _ hw792_2)).trans hw792_2), ((HB.out.cell (World.block_lt_of_cell? w _ hw792_3)).trans hw792_3), ((HB.out.cell (World.block_lt_of_cell? w _ hw792_4)).trans hw792_4)⟩ (fun hHeld => ?_)
        clear hK K
        refine norm_ (a' := ?_) ?_ ?_
        rotate_left
        ·show Act.put _ (some 18) _ = _
         simp only [Act.put, Zj, Zk, Zm, i64_w, i32_w]
         rfl
        refine Zsp (i := 6) (N := some 19) (pm 29 7) HT_ ?_
        refine Zsp (i := 7) (N := some 20) (pm 29 8) HT_ ?_
        refine Zsp (i := 8) (N := some 21) (pm 29 9) HT_ ?_
        refine Zsp (i := 9) (N := some 22) (pm 29 10) HT_ ?_
        refine Zsp (i := 10) (N := some 23) (pm 29 11) HT_ ?_
        refine Zsp (i := 11) (N := some 24) (pm 29 12) HT_ ?_
        refine Zst (i := 12) (N := some 25) (pm 29 13) HT_ HW_ hHeld ?_ (hy := by (refine Or.inl ⟨by rfl, ?_⟩; rintro w' ⟨s0, s1, s2, s3, s4, s5, s6, s7, s8, s9, s10, s11, s12, s13, s14, s15, s16, s17, s18, s19⟩; go_simp; with_reducible rfl))
        refine one_ (i := 13) (N := some 26) #[T, T, T, T, T, T, T, T, T, T, T, T, T, T, F, F, F, F, F, F, F, F, F, F, F, F, F, F, F] rfl rfl (one_of HT_.out (by kernel_rfl)) (by decide) (fun K hK => ?_)
        refine goes_ Try.func30 (by kernel_rfl) rfl #[.string ((rd_T75 l0 x3_1).f1)] (by rfl) rfl rfl (Zl) ?_
        with_reducible refine (Qan.calls k1 ((rd_T75 l0 x3_1).f1) T _ A8.out).mono ?_
        rintro e w' ⟨rfl, ⟨nd, rfl⟩⟩
        refine ⟨_, rfl, ?_⟩
        refine hK.out _ _ ⟨((HB.out.cell (World.block_lt_of_cell? w _ hw787_0)).trans hw787_0), ((HB.out.cell (World.block_lt_of_cell? w _ hw787_1)).trans hw787_1), ((HB.out.cell (World.block_lt_of_cell? w _ hw787_2)).trans hw787_2), ((HB.out.cell (World.block_lt_of_cell? w _ hw787_3)).trans hw787_3), ((HB.out.cell (World.block_lt_of_cell? w _ hw787_4)).trans hw787_4), ((HB.out.cell (World.block_lt_of_cell? w _ hw789_0)).trans hw789_0), ((HB.out.cell (World.block_lt_of_cell? w _ hw789_1)).trans hw789_1), ((HB.out.cell (World.block_lt_of_cell? w _ hw789_2)).trans hw789_2), ((HB.out.cell (World.block_lt_of_cell? w _ hw789_3)).trans hw789_3), ((HB.out.cell (World.block_lt_of_cell? w _ hw789_4)).trans hw789_4), ((HB.out.cell (World.block_lt_of_cell? w _ hw791_0)).trans hw791_0), ((HB.out.cell (World.block_lt_of_cell? w _ hw791_1)).trans hw791_1), ((HB.out.cell (World.block_lt_of_cell? w _ hw791_2)).trans hw791_2), ((HB.out.cell (World.block_lt_of_cell? w _ hw791_3)).trans hw791_3), ((HB.out.cell (World.block_lt_of_cell? w _ hw791_4)).trans hw791_4), ((HB.out.cell (World.block_lt_of_cell? w _ hw792_0)).trans hw792_0), ((HB.out.cell (World.block_lt_of_cell? w _ hw792_1)).trans hw792_1), ((HB.out.cell (World.block_lt_of_cell? w _ hw792_2)).trans hw792_2), ((HB.out.cell (World.block_lt_of_cell? w _ hw792_3)).trans hw792_3), ((HB.out.cell (World.block_lt_of_cell? w _ hw792_4)).trans hw792_4)⟩ (fun hHeld => ?_)
        clear hK K
        refine norm_ (a' := ?_) ?_ ?_
        rotate_left
        ·show Act.put _ (some 26) _ = _
         simp only [Act.put, Zj, Zk, Zm, i64_w, i32_w]
         rfl
        refine Zsp (i := 14) (N := some 27) (pm 29 15) HT_ ?_
        refine Zsp (i := 15) (N := some 28) (pm 29 16) HT_ ?_
        refine Zsp (i := 16) (N := some 29) (pm 29 17) HT_ ?_
        refine Zsp (i := 17) (N := some 30) (pm 29 18) HT_ ?_
        refine Zsp (i := 18) (N := some 31) (pm 29 19) HT_ ?_
        refine Zsp (i := 19) (N := some 32) (pm 29 20) HT_ ?_
        refine Zsp (i := 20) (N := some 33) (pm 29 21) HT_ ?_
        refine Zsp (i := 22) (N := some 35) #[T, T, T, T, T, T, T, T, T, T, T, T, T, T, T, T, T, T, T, T, T, F, T, F, F, F, F, F, F] HT_ ?_
        refine Zsp (i := 23) (N := some 36) #[T, T, T, T, T, T, T, T, T, T, T, T, T, T, T, T, T, T, T, T, T, F, T, T, F, F, F, F, F] HT_ ?_
        refine Zsp (i := 24) (N := some 37) #[T, T, T, T, T, T, T, T, T, T, T, T, T, T, T, T, T, T, T, T, T, F, T, T, T, F, F, F, F] HT_ ?_
        refine Zsp (i := 25) (N := some 38) #[T, T, T, T, T, T, T, T, T, T, T, T, T, T, T, T, T, T, T, T, T, F, T, T, T, T, F, F, F] HT_ ?_
        refine Zst (i := 21) (N := some 34) (pm 29 26) HT_ HW_ hHeld ?_ (hy := by (refine Or.inl ⟨by rfl, ?_⟩; rintro w' ⟨s0, s1, s2, s3, s4, s5, s6, s7, s8, s9, s10, s11, s12, s13, s14, s15, s16, s17, s18, s19⟩; go_simp; with_reducible rfl))
        refine Zst (i := 26) (N := some 39) (pm 29 27) HT_ HW_ hHeld ?_ (hy := by (refine Or.inl ⟨by rfl, ?_⟩; rintro w' ⟨s0, s1, s2, s3, s4, s5, s6, s7, s8, s9, s10, s11, s12, s13, s14, s15, s16, s17, s18, s19⟩; go_simp; with_reducible rfl))
        refine Zsp (i := 27) (N := some 40) (pm 29 28) HT_ ?_
        refine Zsp (i := 28) (N := some 41) (pm 29 29) HT_ ?_
        refine done_ (QaH HT_.out (by kernel_rfl)) ?_
        try go_wp2
        go_meet
        case rel => exact ⟨_, ((((rd_T75 l0 x3_1).f0).toList == ((rd_T75 l0 x3_1).f1).toList)), (Zs), H', ⟨by have := HK1.out; first | omega | exact Nat.le_refl _⟩, ⟨Zb⟩⟩
       replace c9 := Bool.eq_false_iff.mpr c9
       subst c9
       have H1 : (Qaf.j1 k1 l0 x3_1 T) = some r := by rw [if_neg (show ¬ (F = T) by decide)] at H; exact H
       clear H
       have H := H1
       clear H1
       have H' := Aside0.mk H
       clear H
       try go_wp2
       replace HB := Aside0.mk (Qac HB.out)
       have p787 : 0 ≤ (x3_1 : Int) := Ze
       have q787 : x3_1 < (l0.length : Int) := Ze
       obtain ⟨ad787, e787, hx787_0, hx787_1, hx787_2, hx787_3, hx787_4⟩ := at_T75 HR0.out x3_1 p787 q787
       have hw787_4 := hx787_4
       have hw787_3 := hx787_3
       have hw787_2 := hx787_2
       have hw787_1 := hx787_1
       have hw787_0 := hx787_0
       cases e787
       replace hx787_0 := Zx HB.out hx787_0
       replace hx787_1 := Zx HB.out hx787_1
       replace hx787_2 := Zx HB.out hx787_2
       replace hx787_3 := Zx HB.out hx787_3
       replace hx787_4 := Zx HB.out hx787_4
       replace p787 := eq_true p787
       replace q787 := eq_true q787
       have p789 : 0 ≤ (x3_1 : Int) := Ze
       have q789 : x3_1 < (l0.length : Int) := Ze
       obtain ⟨ad789, e789, hx789_0, hx789_1, hx789_2, hx789_3, hx789_4⟩ := at_T75 HR0.out x3_1 p789 q789
       have hw789_4 := hx789_4
       have hw789_3 := hx789_3
       have hw789_2 := hx789_2
       have hw789_1 := hx789_1
       have hw789_0 := hx789_0
       obtain rfl : ad787 = ad789 := (by injection e789)
       replace hx789_0 := Zx HB.out hx789_0
       replace hx789_1 := Zx HB.out hx789_1
       replace hx789_2 := Zx HB.out hx789_2
       replace hx789_3 := Zx HB.out hx789_3
       replace hx789_4 := Zx HB.out hx789_4
       replace p789 := eq_true p789
       replace q789 := eq_true q789
       refine start_ (n := 29) (S := fun w' => w'.cell? (ad787.add ((x3_1).toNat * 5)) = some (.string ((rd_T75 l0 x3_1).f0)) ∧ w'.cell? ⟨(ad787.add ((x3_1).toNat * 5)).block, (ad787.add ((x3_1).toNat * 5)).off + 1, none⟩ = some (.string ((rd_T75 l0 x3_1).f1)) ∧ w'.cell? ⟨(ad787.add ((x3_1).toNat * 5)).block, (ad787.add ((x3_1).toNat * 5)).off + 2, none⟩ = some (.int .i64 ((rd_T75 l0 x3_1).f2)) ∧ w'.cell? ⟨(ad787.add ((x3_1).toNat * 5)).block, (ad787.add ((x3_1).toNat * 5)).off + 3, none⟩ = some (.int .i64 ((rd_T75 l0 x3_1).f3)) ∧ w'.cell? ⟨(ad787.add ((x3_1).toNat * 5)).block, (ad787.add ((x3_1).toNat * 5)).off + 4, none⟩ = some (.int .i64 ((rd_T75 l0 x3_1).f4)) ∧ w'.cell? (ad787.add ((x3_1).toNat * 5)) = some (.string ((rd_T75 l0 x3_1).f0)) ∧ w'.cell? ⟨(ad787.add ((x3_1).toNat * 5)).block, (ad787.add ((x3_1).toNat * 5)).off + 1, none⟩ = some (.string ((rd_T75 l0 x3_1).f1)) ∧ w'.cell? ⟨(ad787.add ((x3_1).toNat * 5)).block, (ad787.add ((x3_1).toNat * 5)).off + 2, none⟩ = some (.int .i64 ((rd_T75 l0 x3_1).f2)) ∧ w'.cell? ⟨(ad787.add ((x3_1).toNat * 5)).block, (ad787.add ((x3_1).toNat * 5)).off + 3, none⟩ = some (.int .i64 ((rd_T75 l0 x3_1).f3)) ∧ w'.cell? ⟨(ad787.add ((x3_1).toNat * 5)).block, (ad787.add ((x3_1).toNat * 5)).off + 4, none⟩ = some (.int .i64 ((rd_T75 l0 x3_1).f4))) (ds := []) #[F, F, F, F, F, F, F, F, F, F, F, F, F, F, F, F, F, F, F, F, F, F, F, F, F, F, F, F, F] (by kernel_rfl) rfl rfl ⟨((HB.out.cell (World.block_lt_of_cell? w _ hw787_0)).trans hw787_0), ((HB.out.cell (World.block_lt_of_cell? w _ hw787_1)).trans hw787_1), ((HB.out.cell (World.block_lt_of_cell? w _ hw787_2)).trans hw787_2), ((HB.out.cell (World.block_lt_of_cell? w _ hw787_3)).trans hw787_3), ((HB.out.cell (World.block_lt_of_cell? w _ hw787_4)).trans hw787_4), ((HB.out.cell (World.block_lt_of_cell? w _ hw789_0)).trans hw789_0), ((HB.out.cell (World.block_lt_of_cell? w _ hw789_1)).trans hw789_1), ((HB.out.cell (World.block_lt_of_cell? w _ hw789_2)).trans hw789_2), ((HB.out.cell (World.block_lt_of_cell? w _ hw789_3)).trans hw789_3), ((HB.out.cell (World.block_lt_of_cell? w _ hw789_4)).trans hw789_4)⟩ (fun hHeld => ?_); refine QaC Qaf.tab6 Qaf.bits6 (fun HT_ HW_ => ?_)
       generalize wr.drew = w11 at HB hx787_0 hx787_1 hx787_2 hx787_3 hx787_4 hx789_0 hx789_1 hx789_2 hx789_3 hx789_4 hHeld ⊢
       refine Zsp (i := 0) (N := some 13) (pm 29 1) HT_ ?_
       refine Zsp (i := 1) (N := some 14) (pm 29 2) HT_ ?_
       refine Zsp (i := 2) (N := some 15) (pm 29 3) HT_ ?_
       refine Zsp (i := 3) (N := some 16) (pm 29 4) HT_ ?_
       refine Zst (i := 4) (N := some 17) (pm 29 5) HT_ HW_ hHeld ?_ (hy := by (refine Or.inl ⟨by rfl, ?_⟩; rintro w' ⟨s0, s1, s2, s3, s4, s5, s6, s7, s8, s9⟩; go_simp; with_reducible rfl))
       refine one_ (i := 5) (N := some 18) #[T, T, T, T, T, T, F, F, F, F, F, F, F, F, F, F, F, F, F, F, F, F, F, F, F, F, F, F, F] rfl rfl (one_of HT_.out (by kernel_rfl)) (by decide) (fun K hK => ?_)
       refine goes_ Try.func30 (by kernel_rfl) rfl #[.string ((rd_T75 l0 x3_1).f0)] (by rfl) rfl rfl (Zl) ?_
       with_reducible refine (Qan.calls k1 ((rd_T75 l0 x3_1).f0) T _ A6.out).mono ?_
       rintro e w' ⟨rfl, ⟨nd, rfl⟩⟩
       refine ⟨_, rfl, ?_⟩
       refine hK.out _ _ ⟨((HB.out.cell (World.block_lt_of_cell? w _ hw787_0)).trans hw787_0), ((HB.out.cell (World.block_lt_of_cell? w _ hw787_1)).trans hw787_1), ((HB.out.cell (World.block_lt_of_cell? w _ hw787_2)).trans hw787_2), ((HB.out.cell (World.block_lt_of_cell? w _ hw787_3)).trans hw787_3), ((HB.out.cell (World.block_lt_of_cell? w _ hw787_4)).trans hw787_4), ((HB.out.cell (World.block_lt_of_cell? w _ hw789_0)).trans hw789_0), ((HB.out.cell (World.block_lt_of_cell? w _ hw789_1)).trans hw789_1), ((HB.out.cell (World.block_lt_of_cell? w _ hw789_2)).trans hw789_2), ((HB.out.cell (World.block_lt_of_cell? w _ hw789_3)).trans hw789_3), ((HB.out.cell (World.block_lt_of_cell? w _ hw789_4)).trans hw789_4)⟩ (fun hHeld => ?_)
       clear hK K
       refine norm_ (a' := ?_) ?_ ?_
       rotate_left
       ·show Act.put _ (some 18) _ = _
        simp only [Act.put, Zj, Zk, Zm, i64_w, i32_w]
        rfl
       refine Zsp (i := 6) (N := some 19) (pm 29 7) HT_ ?_
       refine Zsp (i := 7) (N := some 20) (pm 29 8) HT_ ?_
       refine Zsp (i := 8) (N := some 21) (pm 29 9) HT_ ?_
       refine Zsp (i := 9) (N := some 22) (pm 29 10) HT_ ?_
       refine Zsp (i := 10) (N := some 23) (pm 29 11) HT_ ?_
       refine Zsp (i := 11) (N := some 24) (pm 29 12) HT_ ?_
       refine Zst (i := 12) (N := some 25) (pm 29 13) HT_ HW_ hHeld ?_ (hy := by (refine Or.inl ⟨by rfl, ?_⟩; rintro w' ⟨s0, s1, s2, s3, s4, s5, s6, s7, s8, s9⟩; go_simp; with_reducible rfl))
       refine one_ (i := 13) (N := some 26) #[T, T, T, T, T, T, T, T, T, T, T, T, T, T, F, F, F, F, F, F, F, F, F, F, F, F, F, F, F] rfl rfl (one_of HT_.out (by kernel_rfl)) (by decide) (fun K hK => ?_)
       refine goes_ Try.func30 (by kernel_rfl) rfl #[.string ((rd_T75 l0 x3_1).f1)] (by rfl) rfl rfl (Zl) ?_
       with_reducible refine (Qan.calls k1 ((rd_T75 l0 x3_1).f1) F _ A8.out).mono ?_
       rintro e w' ⟨rfl, ⟨nd, rfl⟩⟩
       refine ⟨_, rfl, ?_⟩
       refine hK.out _ _ ⟨((HB.out.cell (World.block_lt_of_cell? w _ hw787_0)).trans hw787_0), ((HB.out.cell (World.block_lt_of_cell? w _ hw787_1)).trans hw787_1), ((HB.out.cell (World.block_lt_of_cell? w _ hw787_2)).trans hw787_2), ((HB.out.cell (World.block_lt_of_cell? w _ hw787_3)).trans hw787_3), ((HB.out.cell (World.block_lt_of_cell? w _ hw787_4)).trans hw787_4), ((HB.out.cell (World.block_lt_of_cell? w _ hw789_0)).trans hw789_0), ((HB.out.cell (World.block_lt_of_cell? w _ hw789_1)).trans hw789_1), ((HB.out.cell (World.block_lt_of_cell? w _ hw789_2)).trans hw789_2), ((HB.out.cell (World.block_lt_of_cell? w _ hw789_3)).trans hw789_3), ((HB.out.cell (World.block_lt_of_cell? w _ hw789_4)).trans hw789_4)⟩ (fun hHeld => ?_)
       clear hK K
       refine norm_ (a' := ?_) ?_ ?_
       rotate_left
       ·show Act.put _ (some 26) _ = _
        simp only [Act.put, Zj, Zk, Zm, i64_w, i32_w]
        rfl
       refine Zsp (i := 14) (N := some 27) (pm 29 15) HT_ ?_
       refine Zsp (i := 15) (N := some 28) (pm 29 16) HT_ ?_
       refine Zsp (i := 16) (N := some 29) (pm 29 17) HT_ ?_
       refine Zso (i := 17) (N := some 30) (pm 29 18) HT_ ?_
       refine Zso (i := 18) (N := some 31) (pm 29 19) HT_ ?_
       refine Zso (i := 19) (N := some 32) (pm 29 20) HT_ ?_
       refine Zso (i := 20) (N := some 33) (pm 29 21) HT_ ?_
       refine Zso (i := 21) (N := some 34) (pm 29 22) HT_ ?_
       refine Zso (i := 22) (N := some 35) (pm 29 23) HT_ ?_
       refine Zso (i := 23) (N := some 36) (pm 29 24) HT_ ?_
       refine Zso (i := 24) (N := some 37) (pm 29 25) HT_ ?_
       refine Zso (i := 25) (N := some 38) (pm 29 26) HT_ ?_
       refine Zso (i := 26) (N := some 39) (pm 29 27) HT_ ?_
       refine Zso (i := 27) (N := some 40) (pm 29 28) HT_ ?_
       refine Zsp (i := 28) (N := some 41) (pm 29 29) HT_ ?_
       refine done_ (QaH HT_.out (by kernel_rfl)) ?_
       try go_wp2
       go_meet
       case rel => exact ⟨_, (T), (Zs), H', ⟨by have := HK1.out; first | omega | exact Nat.le_refl _⟩, ⟨Zb⟩⟩
      replace c7 := Bool.eq_false_iff.mpr c7
      subst c7
      have H1 : (Qaf.j1 k1 l0 x3_1 T) = some r := by rw [if_neg (show ¬ (F = T) by decide)] at H; exact H
      clear H
      have H := H1
      clear H1
      have H' := Aside0.mk H
      clear H
      try go_wp2
      replace HB := Aside0.mk (Qac HB.out)
      have p787 : 0 ≤ (x3_1 : Int) := Ze
      have q787 : x3_1 < (l0.length : Int) := Ze
      obtain ⟨ad787, e787, hx787_0, hx787_1, hx787_2, hx787_3, hx787_4⟩ := at_T75 HR0.out x3_1 p787 q787
      have hw787_4 := hx787_4
      have hw787_3 := hx787_3
      have hw787_2 := hx787_2
      have hw787_1 := hx787_1
      have hw787_0 := hx787_0
      cases e787
      replace hx787_0 := Zx HB.out hx787_0
      replace hx787_1 := Zx HB.out hx787_1
      replace hx787_2 := Zx HB.out hx787_2
      replace hx787_3 := Zx HB.out hx787_3
      replace hx787_4 := Zx HB.out hx787_4
      replace p787 := eq_true p787
      replace q787 := eq_true q787
      refine start_ (n := 29) (S := fun w' => w'.cell? (ad787.add ((x3_1).toNat * 5)) = some (.string ((rd_T75 l0 x3_1).f0)) ∧ w'.cell? ⟨(ad787.add ((x3_1).toNat * 5)).block, (ad787.add ((x3_1).toNat * 5)).off + 1, none⟩ = some (.string ((rd_T75 l0 x3_1).f1)) ∧ w'.cell? ⟨(ad787.add ((x3_1).toNat * 5)).block, (ad787.add ((x3_1).toNat * 5)).off + 2, none⟩ = some (.int .i64 ((rd_T75 l0 x3_1).f2)) ∧ w'.cell? ⟨(ad787.add ((x3_1).toNat * 5)).block, (ad787.add ((x3_1).toNat * 5)).off + 3, none⟩ = some (.int .i64 ((rd_T75 l0 x3_1).f3)) ∧ w'.cell? ⟨(ad787.add ((x3_1).toNat * 5)).block, (ad787.add ((x3_1).toNat * 5)).off + 4, none⟩ = some (.int .i64 ((rd_T75 l0 x3_1).f4))) (ds := []) #[F, F, F, F, F, F, F, F, F, F, F, F, F, F, F, F, F, F, F, F, F, F, F, F, F, F, F, F, F] (by kernel_rfl) rfl rfl ⟨((HB.out.cell (World.block_lt_of_cell? w _ hw787_0)).trans hw787_0), ((HB.out.cell (World.block_lt_of_cell? w _ hw787_1)).trans hw787_1), ((HB.out.cell (World.block_lt_of_cell? w _ hw787_2)).trans hw787_2), ((HB.out.cell (World.block_lt_of_cell? w _ hw787_3)).trans hw787_3), ((HB.out.cell (World.block_lt_of_cell? w _ hw787_4)).trans hw787_4)⟩ (fun hHeld => ?_); refine QaC Qaf.tab6 Qaf.bits6 (fun HT_ HW_ => ?_)
      generalize wr.drew = w12 at HB hx787_0 hx787_1 hx787_2 hx787_3 hx787_4 hHeld ⊢
      refine Zsp (i := 0) (N := some 13) (pm 29 1) HT_ ?_
      refine Zsp (i := 1) (N := some 14) (pm 29 2) HT_ ?_
      refine Zsp (i := 2) (N := some 15) (pm 29 3) HT_ ?_
      refine Zsp (i := 3) (N := some 16) (pm 29 4) HT_ ?_
      refine Zst (i := 4) (N := some 17) (pm 29 5) HT_ HW_ hHeld ?_ (hy := by (refine Or.inl ⟨by rfl, ?_⟩; rintro w' ⟨s0, s1, s2, s3, s4⟩; go_simp; with_reducible rfl))
      refine one_ (i := 5) (N := some 18) #[T, T, T, T, T, T, F, F, F, F, F, F, F, F, F, F, F, F, F, F, F, F, F, F, F, F, F, F, F] rfl rfl (one_of HT_.out (by kernel_rfl)) (by decide) (fun K hK => ?_)
      refine goes_ Try.func30 (by kernel_rfl) rfl #[.string ((rd_T75 l0 x3_1).f0)] (by rfl) rfl rfl (Zl) ?_
      with_reducible refine (Qan.calls k1 ((rd_T75 l0 x3_1).f0) F _ A6.out).mono ?_
      rintro e w' ⟨rfl, ⟨nd, rfl⟩⟩
      refine ⟨_, rfl, ?_⟩
      refine hK.out _ _ ⟨((HB.out.cell (World.block_lt_of_cell? w _ hw787_0)).trans hw787_0), ((HB.out.cell (World.block_lt_of_cell? w _ hw787_1)).trans hw787_1), ((HB.out.cell (World.block_lt_of_cell? w _ hw787_2)).trans hw787_2), ((HB.out.cell (World.block_lt_of_cell? w _ hw787_3)).trans hw787_3), ((HB.out.cell (World.block_lt_of_cell? w _ hw787_4)).trans hw787_4)⟩ (fun hHeld => ?_)
      clear hK K
      refine norm_ (a' := ?_) ?_ ?_
      rotate_left
      ·show Act.put _ (some 18) _ = _
       simp only [Act.put, Zj, Zk, Zm, i64_w, i32_w]
       rfl
      refine Zsp (i := 6) (N := some 19) (pm 29 7) HT_ ?_
      refine Zsp (i := 7) (N := some 20) (pm 29 8) HT_ ?_
      refine Zso (i := 8) (N := some 21) (pm 29 9) HT_ ?_
      refine Zso (i := 9) (N := some 22) (pm 29 10) HT_ ?_
      refine Zso (i := 10) (N := some 23) (pm 29 11) HT_ ?_
      refine Zso (i := 11) (N := some 24) (pm 29 12) HT_ ?_
      refine Zso (i := 12) (N := some 25) (pm 29 13) HT_ ?_
      refine Zso (i := 13) (N := some 26) (pm 29 14) HT_ ?_
      refine Zso (i := 14) (N := some 27) (pm 29 15) HT_ ?_
      refine Zsp (i := 15) (N := some 28) (pm 29 16) HT_ ?_
      refine Zsp (i := 16) (N := some 29) (pm 29 17) HT_ ?_
      refine Zso (i := 17) (N := some 30) (pm 29 18) HT_ ?_
      refine Zso (i := 18) (N := some 31) (pm 29 19) HT_ ?_
      refine Zso (i := 19) (N := some 32) (pm 29 20) HT_ ?_
      refine Zso (i := 20) (N := some 33) (pm 29 21) HT_ ?_
      refine Zso (i := 21) (N := some 34) (pm 29 22) HT_ ?_
      refine Zso (i := 22) (N := some 35) (pm 29 23) HT_ ?_
      refine Zso (i := 23) (N := some 36) (pm 29 24) HT_ ?_
      refine Zso (i := 24) (N := some 37) (pm 29 25) HT_ ?_
      refine Zso (i := 25) (N := some 38) (pm 29 26) HT_ ?_
      refine Zso (i := 26) (N := some 39) (pm 29 27) HT_ ?_
      refine Zso (i := 27) (N := some 40) (pm 29 28) HT_ ?_
      refine Zsp (i := 28) (N := some 41) (pm 29 29) HT_ ?_
      refine done_ (QaH HT_.out (by kernel_rfl)) ?_
      try go_wp2
      go_meet
      case rel => exact ⟨_, (T), (Zs), H', ⟨by have := HK1.out; first | omega | exact Nat.le_refl _⟩, ⟨Zb⟩⟩
     rw [if_neg c5] at H
     exact absurd H (by simp)
    case rest =>
     clear HC4
     try clear p2
     try clear c3
     try clear c5
     try clear c7
     try clear p7
     try clear q7
     try clear hx7
     try clear c9
     try clear hx787_0
     try clear hx787_1
     try clear hx787_2
     try clear hx787_3
     try clear hx787_4
     try clear hx789_0
     try clear hx789_1
     try clear hx789_2
     try clear hx789_3
     try clear hx789_4
     try clear p787
     try clear p789
     try clear q787
     try clear q789
     obtain ⟨kq, x41_3, rfl, HA, HJ3, HB⟩ := hcut
     cases kq with
     | zero => exact absurd HA.out (by simp [Qaf.j1])
     | succ kj3 =>
      have H := HA.out
      clear HA
      simp only [Qaf.j1] at H
      by_cases c13 : x41_3 = T
      ·subst c13
       have H1 : (some 10) = some r := by rw [if_pos rfl] at H; exact H
       clear H
       have H := H1
       clear H1
       obtain rfl := Option.some.inj H
       go_wp2
       go_ret
       exact ⟨Zq, Zb⟩
      replace c13 := Bool.eq_false_iff.mpr c13
      subst c13
      have H1 : (if 0 ≤ x3_1 then (if x3_1 < (l0.length : Int) then ((Qam.f ((rd_T75 l0 x3_1).f2) 1 1000).bind fun t794 => (if t794 = T then ((Qam.f ((rd_T75 l0 x3_1).f3) 1 1000).bind fun t796 => (if t796 = T then ((Qam.f ((rd_T75 l0 x3_1).f4) 0 1000).bind fun t798 => (if t798 = T then (Qaf.l0 kj3 l0 (wrap64 (x3_1 + 1))) else (some 2))) else (some 2))) else (some 2))) else (none)) else (none)) = some r := by rw [if_neg (show ¬ (F = T) by decide)] at H; exact H
      clear H
      have H := H1
      clear H1
      by_cases c14 : 0 ≤ x3_1
      ·rw [if_pos c14] at H
       have c14b0 : decide (0 ≤ x3_1) = T := decide_eq_true c14
       clear c14
       by_cases c15 : x3_1 < (l0.length : Int)
       ·rw [if_pos c15] at H
        have c15b0 : decide (x3_1 < (l0.length : Int)) = T := decide_eq_true c15
        clear c15
        replace H := Option.bind_eq_some_iff.mp H
        obtain ⟨t794, A160, H⟩ := H
        replace H : (if t794 = T then ((Qam.f ((rd_T75 l0 x3_1).f3) 1 1000).bind fun t796 => (if t796 = T then ((Qam.f ((rd_T75 l0 x3_1).f4) 0 1000).bind fun t798 => (if t798 = T then (Qaf.l0 kj3 l0 (wrap64 (x3_1 + 1))) else (some 2))) else (some 2))) else (some 2)) = some r := H
        have A16 := Aside0.mk A160
        clear A160
        by_cases c17 : t794 = T
        ·subst c17
         have H1 : ((Qam.f ((rd_T75 l0 x3_1).f3) 1 1000).bind fun t796 => (if t796 = T then ((Qam.f ((rd_T75 l0 x3_1).f4) 0 1000).bind fun t798 => (if t798 = T then (Qaf.l0 kj3 l0 (wrap64 (x3_1 + 1))) else (some 2))) else (some 2))) = some r := by rw [if_pos rfl] at H; exact H
         clear H
         have H := H1
         clear H1
         replace H := Option.bind_eq_some_iff.mp H
         obtain ⟨t796, A180, H⟩ := H
         replace H : (if t796 = T then ((Qam.f ((rd_T75 l0 x3_1).f4) 0 1000).bind fun t798 => (if t798 = T then (Qaf.l0 kj3 l0 (wrap64 (x3_1 + 1))) else (some 2))) else (some 2)) = some r := H
         have A18 := Aside0.mk A180
         clear A180
         by_cases c19 : t796 = T
         ·subst c19
          have H1 : ((Qam.f ((rd_T75 l0 x3_1).f4) 0 1000).bind fun t798 => (if t798 = T then (Qaf.l0 kj3 l0 (wrap64 (x3_1 + 1))) else (some 2))) = some r := by rw [if_pos rfl] at H; exact H
          clear H
          have H := H1
          clear H1
          replace H := Option.bind_eq_some_iff.mp H
          obtain ⟨t798, A200, H⟩ := H
          replace H : (if t798 = T then (Qaf.l0 kj3 l0 (wrap64 (x3_1 + 1))) else (some 2)) = some r := H
          have A20 := Aside0.mk A200
          clear A200
          have p793 : 0 ≤ (x3_1 : Int) := Ze
          have q793 : x3_1 < (l0.length : Int) := Ze
          obtain ⟨ad793, e793, hx793_0, hx793_1, hx793_2, hx793_3, hx793_4⟩ := at_T75 HR0.out x3_1 p793 q793
          cases e793
          replace hx793_0 := Zx HB.out hx793_0
          replace hx793_1 := Zx HB.out hx793_1
          replace hx793_2 := Zx HB.out hx793_2
          replace hx793_3 := Zx HB.out hx793_3
          replace hx793_4 := Zx HB.out hx793_4
          replace p793 := eq_true p793
          replace q793 := eq_true q793
          go_upto_if 66 with (first | ((with_reducible refine QaD (f := 78) rfl ?_); refine goesL_ (some 47) rfl rfl Try.func78 (by kernel_rfl) rfl #[.int .i64 ((rd_T75 l0 x3_1).f2), .int .i64 1, .int .i64 1000] rfl (Zl) ?_; (with_reducible refine (Qam.calls ((rd_T75 l0 x3_1).f2) 1 1000 T _ A16.out).mono ?_); rintro e w' ⟨rfl, ⟨nd, rfl⟩⟩; refine ⟨_, rfl, ?_⟩; have p795 : 0 ≤ (x3_1 : Int) := Ze; have q795 : x3_1 < (l0.length : Int) := Ze; obtain ⟨ad795, e795, hx795_0, hx795_1, hx795_2, hx795_3, hx795_4⟩ := at_T75 HR0.out x3_1 p795 q795; obtain rfl : ad793 = ad795 := (by injection e795); replace hx795_0 := Zx HB.out hx795_0; replace hx795_1 := Zx HB.out hx795_1; replace hx795_2 := Zx HB.out hx795_2; replace hx795_3 := Zx HB.out hx795_3; replace hx795_4 := Zx HB.out hx795_4; replace p795 := eq_true p795; replace q795 := eq_true q795) | (go_at_call 78; (with_reducible refine (Qam.calls ((rd_T75 l0 x3_1).f3) 1 1000 T _ A18.out).mono ?_); rintro e w' ⟨rfl, ⟨nd, rfl⟩⟩; have p797 : 0 ≤ (x3_1 : Int) := Ze; have q797 : x3_1 < (l0.length : Int) := Ze; obtain ⟨ad797, e797, hx797_0, hx797_1, hx797_2, hx797_3, hx797_4⟩ := at_T75 HR0.out x3_1 p797 q797; obtain rfl : ad793 = ad797 := (by injection e797); replace hx797_0 := Zx HB.out hx797_0; replace hx797_1 := Zx HB.out hx797_1; replace hx797_2 := Zx HB.out hx797_2; replace hx797_3 := Zx HB.out hx797_3; replace hx797_4 := Zx HB.out hx797_4; replace p797 := eq_true p797; replace q797 := eq_true q797) | (go_at_call 78; (with_reducible refine (Qam.calls ((rd_T75 l0 x3_1).f4) 0 1000 t798 _ A20.out).mono ?_); rintro e w' ⟨rfl, ⟨nd, rfl⟩⟩))
          (try simp only [Act.put, Zj, Zk, Zm])
          by_cases c21 : t798 = T
          ·subst c21
           have H1 : (Qaf.l0 kj3 l0 (wrap64 (x3_1 + 1))) = some r := by rw [if_pos rfl] at H; exact H
           clear H
           have H := H1
           clear H1
           have H' := Aside0.mk H
           clear H
           go_wp2
           go_roundg kj3
           case measure => have := HK1.out; have := HJ3.out; omega
           case rel => exact ⟨(wrap64 (x3_1 + 1)), (Zs), H', ⟨by have := HK1.out; have := HJ3.out; omega⟩, ⟨Zb⟩⟩
          replace c21 := Bool.eq_false_iff.mpr c21
          subst c21
          have H1 : (some 2) = some r := by rw [if_neg (show ¬ (F = T) by decide)] at H; exact H
          clear H
          have H := H1
          clear H1
          obtain rfl := Option.some.inj H
          go_wp2
          go_ret
          exact ⟨Zq, Zb⟩
         replace c19 := Bool.eq_false_iff.mpr c19
         subst c19
         have H1 : (some 2) = some r := by rw [if_neg (show ¬ (F = T) by decide)] at H; exact H
         clear H
         have H := H1
         clear H1
         obtain rfl := Option.some.inj H
         have p793 : 0 ≤ (x3_1 : Int) := Ze
         have q793 : x3_1 < (l0.length : Int) := Ze
         obtain ⟨ad793, e793, hx793_0, hx793_1, hx793_2, hx793_3, hx793_4⟩ := at_T75 HR0.out x3_1 p793 q793
         cases e793
         replace hx793_0 := Zx HB.out hx793_0
         replace hx793_1 := Zx HB.out hx793_1
         replace hx793_2 := Zx HB.out hx793_2
         replace hx793_3 := Zx HB.out hx793_3
         replace hx793_4 := Zx HB.out hx793_4
         replace p793 := eq_true p793
         replace q793 := eq_true q793
         go_wp2_with (first | ((with_reducible refine QaD (f := 78) rfl ?_); refine goesL_ (some 47) rfl rfl Try.func78 (by kernel_rfl) rfl #[.int .i64 ((rd_T75 l0 x3_1).f2), .int .i64 1, .int .i64 1000] rfl (Zl) ?_; (with_reducible refine (Qam.calls ((rd_T75 l0 x3_1).f2) 1 1000 T _ A16.out).mono ?_); rintro e w' ⟨rfl, ⟨nd, rfl⟩⟩; refine ⟨_, rfl, ?_⟩; have p795 : 0 ≤ (x3_1 : Int) := Ze; have q795 : x3_1 < (l0.length : Int) := Ze; obtain ⟨ad795, e795, hx795_0, hx795_1, hx795_2, hx795_3, hx795_4⟩ := at_T75 HR0.out x3_1 p795 q795; obtain rfl : ad793 = ad795 := (by injection e795); replace hx795_0 := Zx HB.out hx795_0; replace hx795_1 := Zx HB.out hx795_1; replace hx795_2 := Zx HB.out hx795_2; replace hx795_3 := Zx HB.out hx795_3; replace hx795_4 := Zx HB.out hx795_4; replace p795 := eq_true p795; replace q795 := eq_true q795) | (go_at_call 78; (with_reducible refine (Qam.calls ((rd_T75 l0 x3_1).f3) 1 1000 F _ A18.out).mono ?_); rintro e w' ⟨rfl, ⟨nd, rfl⟩⟩))
         go_ret
         exact ⟨Zq, Zb⟩
        replace c17 := Bool.eq_false_iff.mpr c17
        subst c17
        have H1 : (some 2) = some r := by rw [if_neg (show ¬ (F = T) by decide)] at H; exact H
        clear H
        have H := H1
        clear H1
        obtain rfl := Option.some.inj H
        have p793 : 0 ≤ (x3_1 : Int) := Ze
        have q793 : x3_1 < (l0.length : Int) := Ze
        obtain ⟨ad793, e793, hx793_0, hx793_1, hx793_2, hx793_3, hx793_4⟩ := at_T75 HR0.out x3_1 p793 q793
        cases e793
        replace hx793_0 := Zx HB.out hx793_0
        replace hx793_1 := Zx HB.out hx793_1
        replace hx793_2 := Zx HB.out hx793_2
        replace hx793_3 := Zx HB.out hx793_3
        replace hx793_4 := Zx HB.out hx793_4
        replace p793 := eq_true p793
        replace q793 := eq_true q793
        go_wp2_with (first | ((with_reducible refine QaD (f := 78) rfl ?_); refine goesL_ (some 47) rfl rfl Try.func78 (by kernel_rfl) rfl #[.int .i64 ((rd_T75 l0 x3_1).f2), .int .i64 1, .int .i64 1000] rfl (Zl) ?_; (with_reducible refine (Qam.calls ((rd_T75 l0 x3_1).f2) 1 1000 F _ A16.out).mono ?_); rintro e w' ⟨rfl, ⟨nd, rfl⟩⟩; refine ⟨_, rfl, ?_⟩))
        go_ret
        exact ⟨Zq, Zb⟩
       rw [if_neg c15] at H
       exact absurd H (by simp)
      rw [if_neg c14] at H
      exact absurd H (by simp)
   rw [if_neg c3] at H
   have c3b0 : decide (x3_1 < (l0.length : Int)) = F := decide_eq_false c3
   clear c3
   (try simp only [c3b0])
   obtain rfl := Option.some.inj H
   go_wp2
   go_ret
   exact ⟨Zq, Zb⟩
set_option maxHeartbeats 4000000 in
theorem Qaz.bad (a0 a1 a2 a3 : Int) (w : World) (h : ¬ (mdFits a0 ∧ mdFits a1 ∧ mdFits a2 ∧ 1 ≤ a3 ∧ a3 ≤ 5)) :
  Calls Try.prog 81 #[.int .i64 a0, .int .i64 a1, .int .i64 a2, .int .i64 a3] w fun e w' => e = .returned (.tuple #[.int .i64 0, .int .i64 2]) ∧ w' = w := by
 rcases Qb8 a0 a1 a2 a3 h with h1 | h1 | ⟨⟨h1, h2⟩, h3⟩ | ⟨⟨h1, h2⟩, h3⟩ | ⟨⟨h1, h2⟩, ⟨h3, h4⟩, h5⟩ | ⟨⟨h1, h2⟩, ⟨h3, h4⟩, h5⟩ | ⟨⟨h1, h2⟩, ⟨h3, h4⟩, ⟨h5, h6⟩, h7⟩ | ⟨⟨h1, h2⟩, ⟨h3, h4⟩, ⟨h5, h6⟩, h7⟩
 all_goals
  clear h
  go_enter Try.func81, Try.ntmps81
  go_wp2
  go_ret2
  exact ⟨rfl, rfl⟩
set_option maxHeartbeats 4000000 in
theorem Qaz.z (a0 a1 a2 a3 : Int) (w : World) (h1 : -1152921504606846976 ≤ a0) (h2 : a0 ≤ 1152921504606846976) (h3 : -1152921504606846976 ≤ a1) (h4 : a1 ≤ 1152921504606846976)
  (h5 : -1152921504606846976 ≤ a2) (h6 : a2 ≤ 1152921504606846976) (hc : (a2 == 0) = T) (m1 : 1 ≤ a3) (m2 : a3 ≤ 5) :
  Calls Try.prog 81 #[.int .i64 a0, .int .i64 a1, .int .i64 a2, .int .i64 a3] w fun e w' => e = .returned (.tuple #[.int .i64 0, .int .i64 4]) ∧ Below w.heap.size w w' := by
 go_enter Try.func81, Try.ntmps81
 go_wp2_with (go_at_call 93; go_in)
 go_ret2
 exact ⟨rfl, Below.refl _ _⟩
theorem Qcp (a : Int) (h1 : -1152921504606846976 ≤ a) : Qa6.f a = some (a.natAbs : Int) := by
 unfold Qa6.f wrap64
 split <;> (congr 1; omega)
def rmQ (Q R : Int) (av : Bool) : Int := if 0 < R ∧ av = T then Q + 1 else Q
def rmRes (q : Int) (bl : Bool) : Int × Int := if 1152921504606846976 < q then (0, 3) else (if bl = T then -q else q, 0)
theorem rm_end {q n er : Int} {bl : Bool} (h : rmRes q bl = (n, er)) : Ending.returned (.tuple #[.int .i64 n, .int .i64 er]) = .returned (.tuple #[.int .i64 (rmRes q bl).1, .int .i64 (rmRes q bl).2]) := by rw [h]
set_option maxHeartbeats 4000000 in
theorem Qaz.main (a0 a1 a2 a3 : Int) (w : World) (h1 : -1152921504606846976 ≤ a0) (h2 : a0 ≤ 1152921504606846976) (h3 : -1152921504606846976 ≤ a1) (h4 : a1 ≤ 1152921504606846976)
  (h5 : -1152921504606846976 ≤ a2) (h6 : a2 ≤ 1152921504606846976) (hc : (a2 == 0) = F) (m1 : 1 ≤ a3) (m2 : a3 ≤ 5) (Q R : Int) (bl av : Bool)
  (fb : (!((!(decide (a0 < 0) == decide (a1 < 0))) == decide (a2 < 0))) = bl) (hQ : Aside0 (Qai.f 70 a0.natAbs a1.natAbs a2.natAbs = some (Q, R)))
  (hav : Aside0 (QaZ.f Q R a2.natAbs a3 bl = some av)) (hQ0 : 0 ≤ Q) (hQ1 : Q ≤ 2305843009213693952) :
  Calls Try.prog 81 #[.int .i64 a0, .int .i64 a1, .int .i64 a2, .int .i64 a3] w fun e w' => e = .returned (.tuple #[.int .i64 (rmRes (rmQ Q R av) bl).1, .int .i64 (rmRes (rmQ Q R av) bl).2]) ∧ Below w.heap.size w w' := by
 by_cases hR : 0 < R
 ·cases av
  ·have eq : rmQ Q R F = Q := by unfold rmQ; rw [if_neg (by simp)]
   rw [eq]; clear eq
   go_enter Try.func81, Try.ntmps81
   go_wp2_with (first | (go_at_call 93; go_in) | (go_at_call 94; refine (Qa6.calls _ _ _ (Qcp _ (by omega))).mono ?_; rintro e w1 ⟨rfl, ⟨nd, rfl⟩⟩) | (go_at_call 97; refine (Qai.calls 70 _ _ _ _ _ _ hQ.out).mono ?_; rintro e w1 ⟨rfl, ⟨nd, rfl⟩⟩) | (go_at_call 98; refine (QaZ.calls _ _ _ _ _ _ _ hav.out).mono ?_; rintro e w1 ⟨rfl, ⟨nd, rfl⟩⟩))
   all_goals go_ret2
   all_goals refine ⟨rm_end ?_, by repeat (first | exact Below.refl _ _ | apply Qab | apply Qbv)⟩
   all_goals go_light
   ·exact if_pos (by omega)
   ·exact (if_neg (by omega)).trans (by rw [if_pos (by first | rfl | assumption)])
   exact (if_neg (by omega)).trans (by rw [if_neg (by first | (simp; done) | (simp; assumption))])
  have eq : rmQ Q R T = Q + 1 := by unfold rmQ; rw [if_pos ⟨hR, rfl⟩]
  rw [eq]; clear eq
  go_enter Try.func81, Try.ntmps81
  go_wp2_with (first | (go_at_call 93; go_in) | (go_at_call 94; refine (Qa6.calls _ _ _ (Qcp _ (by omega))).mono ?_; rintro e w1 ⟨rfl, ⟨nd, rfl⟩⟩) | (go_at_call 97; refine (Qai.calls 70 _ _ _ _ _ _ hQ.out).mono ?_; rintro e w1 ⟨rfl, ⟨nd, rfl⟩⟩) | (go_at_call 98; refine (QaZ.calls _ _ _ _ _ _ _ hav.out).mono ?_; rintro e w1 ⟨rfl, ⟨nd, rfl⟩⟩))
  all_goals go_ret2
  all_goals refine ⟨rm_end ?_, by repeat (first | exact Below.refl _ _ | apply Qab | apply Qbv)⟩
  all_goals go_light
  ·exact if_pos (by omega)
  ·exact (if_neg (by omega)).trans (by rw [if_pos (by first | rfl | assumption)])
  exact (if_neg (by omega)).trans (by rw [if_neg (by first | (simp; done) | (simp; assumption))])
 have eq : rmQ Q R av = Q := by unfold rmQ; rw [if_neg (fun h => hR h.1)]
 rw [eq]; clear eq
 have hR' : R ≤ 0 := by omega
 clear hR
 go_enter Try.func81, Try.ntmps81
 go_wp2_with (first | (go_at_call 93; go_in) | (go_at_call 94; refine (Qa6.calls _ _ _ (Qcp _ (by omega))).mono ?_; rintro e w1 ⟨rfl, ⟨nd, rfl⟩⟩) | (go_at_call 97; refine (Qai.calls 70 _ _ _ _ _ _ hQ.out).mono ?_; rintro e w1 ⟨rfl, ⟨nd, rfl⟩⟩) | (go_at_call 98; refine (QaZ.calls _ _ _ _ _ _ _ hav.out).mono ?_; rintro e w1 ⟨rfl, ⟨nd, rfl⟩⟩))
 all_goals go_ret2
 all_goals refine ⟨rm_end ?_, by repeat (first | exact Below.refl _ _ | apply Qab | apply Qbv)⟩
 all_goals go_light
 ·exact if_pos (by omega)
 ·exact (if_neg (by omega)).trans (by rw [if_pos (by first | rfl | assumption)])
 exact (if_neg (by omega)).trans (by rw [if_neg (by first | (simp; done) | (simp; assumption))])
theorem Qd9 (Q R c mode : Int) (bl : Bool) (h0 : 0 ≤ Q) (hR : 0 ≤ R) (hc : R < c) (hc' : c ≤ 1152921504606846976) (m1 : 1 ≤ mode) (m2 : mode ≤ 5) : QaZ.f Q R c mode bl = some (mdAway mode bl Q R c) := by
 have hw : wrap64 (c - R) = c - R := by unfold wrap64; omega
 have ht : Int.tmod Q 2 = Q % 2 := Int.tmod_eq_emod_of_nonneg h0
 unfold QaZ.f mdAway
 rw [hw, ht]
 obtain rfl | rfl | rfl | rfl | rfl : mode = 1 ∨ mode = 2 ∨ mode = 3 ∨ mode = 4 ∨ mode = 5 := by omega
 ·rfl
 ·rfl
 ·cases bl <;> rfl
 ·cases bl <;> rfl
 by_cases g1 : R > c - R
 ·rw [if_neg (by omega), if_neg (by omega), if_neg (by omega), if_pos rfl, if_pos g1, decide_eq_true (show c - R < R from g1)]; rfl
 rw [if_neg (by omega), if_neg (by omega), if_neg (by omega), if_pos rfl, if_neg g1, decide_eq_false (show ¬ c - R < R from g1)]
 by_cases g2 : R = c - R
 ·rw [if_pos g2, decide_eq_true g2]
  by_cases g3 : Q % 2 = 1
  ·rw [g3]; rfl
  rw [decide_eq_false g3, beq_eq_false_iff_ne.mpr g3]; rfl
 rw [if_neg g2, decide_eq_false g2]; rfl
def Qaz.f (a0 a1 a2 a3 : Int) : Option (Int × Int) := Qav.f a0 a1 a2 a3
theorem Qaz.calls (a0 a1 a2 a3 r1 r2 : Int) (w : World) (h : Qaz.f a0 a1 a2 a3 = some (r1, r2)) :
  Calls Try.prog 81 #[.int .i64 a0, .int .i64 a1, .int .i64 a2, .int .i64 a3] w fun e w' => e = .returned (.tuple #[.int .i64 r1, .int .i64 r2]) ∧ Below w.heap.size w w' := by
 unfold Qaz.f Qav.f at h
 by_cases c : mdFits a0 ∧ mdFits a1 ∧ mdFits a2 ∧ 1 ≤ a3 ∧ a3 ≤ 5
 ·rw [if_pos c] at h
  obtain ⟨⟨c1, c2⟩, ⟨c3, c4⟩, ⟨c5, c6⟩, c7, c8⟩ := c
  by_cases d : a2 = 0
  ·rw [if_pos d] at h
   have h' := Option.some.inj h
   simp only [Prod.mk.injEq] at h'
   obtain ⟨rfl, rfl⟩ := h'
   exact Qaz.z a0 a1 a2 a3 w c1 c2 c3 c4 c5 c6 (by simpa using d) c7 c8
  rw [if_neg d] at h
  have h' := Option.some.inj h
  have e1 : (mdRes a0 a1 a2 a3).1 = r1 := by rw [h']
  have e2 : (mdRes a0 a1 a2 a3).2 = r2 := by rw [h']
  rw [← e1, ← e2]
  have hq0 : 0 ≤ (a0.natAbs : Int) * a1.natAbs / a2.natAbs := Int.ediv_nonneg (Int.mul_nonneg (by omega) (by omega)) (by omega)
  have hr0 := Int.emod_nonneg ((a0.natAbs : Int) * a1.natAbs) (b := (a2.natAbs : Int)) (by omega)
  have hr1 := Int.emod_lt_of_pos ((a0.natAbs : Int) * a1.natAbs) (b := (a2.natAbs : Int)) (by omega)
  have eq := Qai.eq a0.natAbs a1.natAbs a2.natAbs (by omega) (by omega) (by omega) (by omega) (by omega) (by omega) 70 (by omega)
  have em : rmRes (rmQ (if (a0.natAbs : Int) * a1.natAbs / a2.natAbs ≤ 2305843009213693952 then (a0.natAbs : Int) * a1.natAbs / a2.natAbs else 2305843009213693952) ((a0.natAbs : Int) * a1.natAbs % a2.natAbs)
    (mdAway a3 (Qa7 a0 a1 a2) (if (a0.natAbs : Int) * a1.natAbs / a2.natAbs ≤ 2305843009213693952 then (a0.natAbs : Int) * a1.natAbs / a2.natAbs else 2305843009213693952) ((a0.natAbs : Int) * a1.natAbs % a2.natAbs) a2.natAbs)) (Qa7 a0 a1 a2) = mdRes a0 a1 a2 a3 := by
   by_cases g : (a0.natAbs : Int) * a1.natAbs / a2.natAbs ≤ 2305843009213693952
   ·rw [if_pos g]; rfl
   rw [if_neg g]
   unfold rmRes mdRes
   rw [if_pos (by unfold rmQ; split <;> omega), if_pos (by unfold mdQ; split <;> omega)]
  rw [← em]
  refine Qaz.main a0 a1 a2 a3 w c1 c2 c3 c4 c5 c6 (by simpa using d) c7 c8 _ _ _ _ rfl (Aside0.mk eq) (Aside0.mk (Qd9 _ _ _ _ _ ?_ hr0 hr1 (by omega) c7 c8)) ?_ ?_
  ·split <;> omega
  ·split <;> omega
  split <;> omega
 rw [if_neg c] at h
 have h' := Option.some.inj h
 simp only [Prod.mk.injEq] at h'
 obtain ⟨rfl, rfl⟩ := h'
 refine (Qaz.bad a0 a1 a2 a3 w c).mono ?_
 rintro e w' ⟨rfl, rfl⟩
 exact ⟨rfl, Below.refl _ _⟩
mutual
def Qad.l0 : Nat → List Int → List Int → Int → Option (Bool)
 | 0, _, _, _ => none
 | k + 1, x0, x1, x5 => if x5 < (x0.length : Int) then (Qad.j1 k x0 x1 x5 (decide (x5 < (x1.length : Int)))) else (Qad.j1 k x0 x1 x5 F)
def Qad.j1 : Nat → List Int → List Int → Int → Bool → Option (Bool)
 | 0, _, _, _, _ => none
 | k + 1, x0, x1, x5, x15 => if x15 = T then (if 0 ≤ x5 then (if x5 < (x0.length : Int) then (if x5 < (x1.length : Int) then (if (rd x0 x5) = (rd x1 x5) then (Qad.l0 k x0 x1 (wrap64 (x5 + 1))) else (some F)) else (none)) else (none)) else (none)) else (some ((x0.length : Int) == (x1.length : Int)))
end
def Qad.f (k : Nat) (l0 : List Int) (l1 : List Int) : Option (Bool) := Qad.l0 k l0 l1 0
theorem Qad.mono_l : ∀ k, (∀ y0 y1 y2, LeO (Qad.l0 k y0 y1 y2) (Qad.l0 (k + 1) y0 y1 y2)) ∧ (∀ y0 y1 y2 y3, LeO (Qad.j1 k y0 y1 y2 y3) (Qad.j1 (k + 1) y0 y1 y2 y3))
 | 0 => ⟨fun _ _ _ r h => by simp [Qad.l0] at h, fun _ _ _ _ r h => by simp [Qad.j1] at h⟩
 | k + 1 => by
  obtain ⟨ih0, ih1⟩ := Qad.mono_l k
  refine ⟨?_, ?_⟩
  ·intro y0 y1 y2
   unfold Qad.l0
   exact ZM2 ih0 ih1
  intro y0 y1 y2 y3
  unfold Qad.j1
  exact ZM2 ih0 ih1
theorem Qad.mono : ∀ a0 a1 k, LeO (Qad.f k a0 a1) (Qad.f (k + 1) a0 a1) := by
 intro a0 a1 k
 obtain ⟨ih0, ih1⟩ := Qad.mono_l k
 unfold Qad.f
 exact ZM2 ih0 ih1
set_option maxHeartbeats 8000000 in
theorem Qad.calls (k : Nat) (A0 : Option Addr) (c0 : Nat) (l0 : List Int) (A1 : Option Addr) (c1 : Nat) (l1 : List Int) (r : Bool) (w : World) (hr0 : Kd.C (Kd.int .i64) w A0 l0.length l0) (hc0 : l0.length ≤ c0) (hr1 : Kd.C (Kd.int .i64) w A1 l1.length l1) (hc1 : l1.length ≤ c1) (h : Qad.f k l0 l1 = some r) :
  Calls Try.prog 46 #[.slice A0 l0.length c0, .slice A1 l1.length c1] w fun e w' => e = .returned (.bool r) ∧ Drawn0 w w' := by
 have HR0 := Aside0.mk hr0
 have HC0 := Aside0.mk hc0
 clear hr0 hc0
 have HR1 := Aside0.mk hr1
 have HC1 := Aside0.mk hc1
 clear hr1 hc1
 have H : (Qad.l0 k l0 l1 0) = some r := h
 clear h
 have H' := Aside0.mk H
 clear H
 go_enter Try.func46, Try.ntmps46
 go_wp2
 repeat (go_quiet (fail); try go_wp2)
 go_loopg [5] k (fun kq v5 w' => ∃ (x5_1 : Int), v5 = .int .i64 x5_1 ∧ Aside0 (Qad.l0 kq l0 l1 x5_1 = some r) ∧ Aside0 (kq ≤ k) ∧ Drawn0 w w')
 case atStart => exact ⟨(0), (Zs), H', ⟨Nat.le_refl _⟩, Zd⟩
 case round =>
  clear H'
  try clear c1
  try clear p2
  obtain ⟨x5_1, rfl, HA, HK1, ⟨m1, rfl⟩⟩ := hrel
  cases gk with
  | zero => exact absurd HA.out (by simp [Qad.l0])
  | succ k1 =>
   have H := HA.out
   clear HA
   simp only [Qad.l0] at H
   have HC3 := Aside0.mk H
   clear H
   go_upto_region 2 with (fail)
   repeat (go_quiet (fail); go_upto_region 2 with (fail))
   go_cut [15] (fun v15 wc => ∃ (kq : Nat) (x15_2 : Bool), v15 = .bool x15_2 ∧ Aside0 (Qad.j1 kq l0 l1 x5_1 x15_2 = some r) ∧ Aside0 (kq ≤ k1) ∧ Drawn0 w wc)
   case first =>
    have H := HC3.out
    clear HC3
    by_cases c4 : x5_1 < (l0.length : Int)
    ·rw [if_pos c4] at H
     have c4b0 : decide (x5_1 < (l0.length : Int)) = T := decide_eq_true c4
     clear c4
     have H' := Aside0.mk H
     clear H
     go_wp2
     repeat (go_quiet (fail); try go_wp2)
     go_meet
     case rel => exact ⟨_, (decide (x5_1 < (l1.length : Int))), (Zs), H', ⟨by have := HK1.out; first | omega | exact Nat.le_refl _⟩, Zd⟩
    rw [if_neg c4] at H
    have c4b0 : decide (x5_1 < (l0.length : Int)) = F := decide_eq_false c4
    clear c4
    have H' := Aside0.mk H
    clear H
    go_wp2
    repeat (go_quiet (fail); try go_wp2)
    go_meet
    case rel => exact ⟨_, (F), (Zs), H', ⟨by have := HK1.out; first | omega | exact Nat.le_refl _⟩, Zd⟩
   case rest =>
    clear HC3
    try clear c1
    try clear p2
    try clear c4
    try clear c4b0
    try clear p2
    obtain ⟨kq, x15_2, rfl, HA, HJ2, ⟨mc2, rfl⟩⟩ := hcut
    cases kq with
    | zero => exact absurd HA.out (by simp [Qad.j1])
    | succ kj2 =>
     have H := HA.out
     clear HA
     simp only [Qad.j1] at H
     by_cases c5 : x15_2 = T
     ·subst c5
      have H1 : (if 0 ≤ x5_1 then (if x5_1 < (l0.length : Int) then (if x5_1 < (l1.length : Int) then (if (rd l0 x5_1) = (rd l1 x5_1) then (Qad.l0 kj2 l0 l1 (wrap64 (x5_1 + 1))) else (some F)) else (none)) else (none)) else (none)) = some r := by rw [if_pos rfl] at H; exact H
      clear H
      have H := H1
      clear H1
      by_cases c6 : 0 ≤ x5_1
      ·rw [if_pos c6] at H
       have c6b0 : decide (0 ≤ x5_1) = T := decide_eq_true c6
       clear c6
       (try simp only [c6b0])
       by_cases c7 : x5_1 < (l0.length : Int)
       ·rw [if_pos c7] at H
        have c7b0 : decide (x5_1 < (l0.length : Int)) = T := decide_eq_true c7
        clear c7
        by_cases c8 : x5_1 < (l1.length : Int)
        ·rw [if_pos c8] at H
         have c8b0 : decide (x5_1 < (l1.length : Int)) = T := decide_eq_true c8
         clear c8
         have p857 : 0 ≤ (x5_1 : Int) := Ze
         have q857 : x5_1 < (l0.length : Int) := Ze
         obtain ⟨ad857, e857, hx857_0⟩ := Kd.at_int HR0.out x5_1 p857 q857
         cases e857
         replace p857 := eq_true p857
         replace q857 := eq_true q857
         have p858 : 0 ≤ (x5_1 : Int) := Ze
         have q858 : x5_1 < (l1.length : Int) := Ze
         obtain ⟨ad858, e858, hx858_0⟩ := Kd.at_int HR1.out x5_1 p858 q858
         cases e858
         replace p858 := eq_true p858
         replace q858 := eq_true q858
         go_upto_if 26 with (fail)
         repeat (go_quiet (fail); go_upto_if 26 with (fail))
         by_cases c9 : (rd l0 x5_1) = (rd l1 x5_1)
         ·rw [if_pos c9] at H
          have c9b0 : ((rd l0 x5_1) == (rd l1 x5_1)) = T := beq_iff_eq.mpr c9
          have c9b1 : ((rd l0 x5_1) != (rd l1 x5_1)) = F := bne_eq_false_iff_eq.mpr c9
          clear c9
          (try simp only [c9b0, c9b1])
          have H' := Aside0.mk H
          clear H
          go_wp2
          repeat (go_quiet (fail); try go_wp2)
          go_roundg kj2
          case measure => have := HK1.out; have := HJ2.out; omega
          case rel => exact ⟨(wrap64 (x5_1 + 1)), (Zs), H', ⟨by have := HK1.out; have := HJ2.out; omega⟩, Zd⟩
         rw [if_neg c9] at H
         have c9b0 : ((rd l0 x5_1) == (rd l1 x5_1)) = F := beq_eq_false_iff_ne.mpr c9
         have c9b1 : ((rd l0 x5_1) != (rd l1 x5_1)) = T := bne_iff_ne.mpr c9
         (try simp only [c9b0, c9b1])
         obtain rfl := Option.some.inj H
         go_wp2
         repeat (go_quiet (fail); try go_wp2)
         go_ret
         exact ⟨Zs, Zd⟩
        rw [if_neg c8] at H
        exact absurd H (by simp)
       rw [if_neg c7] at H
       exact absurd H (by simp)
      rw [if_neg c6] at H
      exact absurd H (by simp)
     replace c5 := Bool.eq_false_iff.mpr c5
     subst c5
     have H1 : (some ((l0.length : Int) == (l1.length : Int))) = some r := by rw [if_neg (show ¬ (F = T) by decide)] at H; exact H
     clear H
     have H := H1
     clear H1
     obtain rfl := Option.some.inj H
     go_wp2
     repeat (go_quiet (fail); try go_wp2)
     go_ret
     exact ⟨Zs, Zd⟩
def QaA.f (k : Nat)  : Option (Bool) := (some (([(⟨(⟨#[97]⟩ : ByteArray), (⟨#[98]⟩ : ByteArray), 1, 2, 500⟩ : S75)] : List (S75)) : List (S75))).bind fun y859 => ((Qag.f k (([(⟨#[97]⟩ : ByteArray), (⟨#[98]⟩ : ByteArray)] : List ByteArray)) (([3000, (-5000)] : List Int)) (([900, 1000] : List Int)) y859).bind fun bt871 => ((Qag.f k (([(⟨#[97]⟩ : ByteArray), (⟨#[98]⟩ : ByteArray)] : List ByteArray)) (([3000, 5000] : List Int)) (([900, 1000] : List Int)) y859).bind fun bt887 => ((Qad.f k bt871.1 (([300, 400] : List Int))).bind fun t897 => (if t897 = T then ((Qad.f k bt871.2.1 (([1000, (-1000)] : List Int))).bind fun t901 => (if t901 = T then (if bt871.2.2 = 0 then ((Qad.f k bt887.1 (([0, 0] : List Int))).bind fun t905 => (if t905 = T then (some (bt887.2.2 == 0)) else (some F))) else (some F)) else (some F))) else (some F)))))
theorem QaA.mono : ∀ k, LeO (QaA.f k ) (QaA.f (k + 1) ) := by
 intro  k
 unfold QaA.f
 exact ZM2 Qad.mono Qag.mono
set_option maxHeartbeats 8000000 in
theorem QaA.calls (k : Nat)  (r : Bool) (w : World) (h : QaA.f k  = some r) :
  Calls Try.prog 47 #[] w fun e w' => e = .returned (.bool r) ∧ Below w.heap.size w w' := by
 have hu75 := Try.underlying75
 have HB := Aside0.mk (Below.refl w.heap.size w)
 have H : ((some (([(⟨(⟨#[97]⟩ : ByteArray), (⟨#[98]⟩ : ByteArray), 1, 2, 500⟩ : S75)] : List (S75)) : List (S75))).bind fun y859 => ((Qag.f k (([(⟨#[97]⟩ : ByteArray), (⟨#[98]⟩ : ByteArray)] : List ByteArray)) (([3000, (-5000)] : List Int)) (([900, 1000] : List Int)) y859).bind fun bt871 => ((Qag.f k (([(⟨#[97]⟩ : ByteArray), (⟨#[98]⟩ : ByteArray)] : List ByteArray)) (([3000, 5000] : List Int)) (([900, 1000] : List Int)) y859).bind fun bt887 => ((Qad.f k bt871.1 (([300, 400] : List Int))).bind fun t897 => (if t897 = T then ((Qad.f k bt871.2.1 (([1000, (-1000)] : List Int))).bind fun t901 => (if t901 = T then (if bt871.2.2 = 0 then ((Qad.f k bt887.1 (([0, 0] : List Int))).bind fun t905 => (if t905 = T then (some (bt887.2.2 == 0)) else (some F))) else (some F)) else (some F))) else (some F)))))) = some r := h
 clear h
 obtain ⟨y859, hy859⟩ : ∃ y_ : List (S75), y_ = (([(⟨(⟨#[97]⟩ : ByteArray), (⟨#[98]⟩ : ByteArray), 1, 2, 500⟩ : S75)] : List (S75))) := ⟨_, rfl⟩
 replace H : ((Qag.f k (([(⟨#[97]⟩ : ByteArray), (⟨#[98]⟩ : ByteArray)] : List ByteArray)) (([3000, (-5000)] : List Int)) (([900, 1000] : List Int)) y859).bind fun bt871 => ((Qag.f k (([(⟨#[97]⟩ : ByteArray), (⟨#[98]⟩ : ByteArray)] : List ByteArray)) (([3000, 5000] : List Int)) (([900, 1000] : List Int)) y859).bind fun bt887 => ((Qad.f k bt871.1 (([300, 400] : List Int))).bind fun t897 => (if t897 = T then ((Qad.f k bt871.2.1 (([1000, (-1000)] : List Int))).bind fun t901 => (if t901 = T then (if bt871.2.2 = 0 then ((Qad.f k bt887.1 (([0, 0] : List Int))).bind fun t905 => (if t905 = T then (some (bt887.2.2 == 0)) else (some F))) else (some F)) else (some F))) else (some F))))) = some r := by first | (rw [hy859]; with_reducible exact H) | (have H2_ := (Option.bind_some _ _).symm.trans H; rw [hy859]; with_reducible exact H2_) | (have H2_ := (Option.bind_some _ _).symm.trans H; with_reducible exact H2_) | with_reducible exact H | (rw [hy859]; exact H) | exact H
 have Ny859 := Aside0.mk hy859
 clear hy859
 obtain ⟨y862, hy862⟩ : ∃ y_ : List ByteArray, y_ = (([(⟨#[97]⟩ : ByteArray), (⟨#[98]⟩ : ByteArray)] : List ByteArray)) := ⟨_, rfl⟩
 replace H : ((Qag.f k y862 (([3000, (-5000)] : List Int)) (([900, 1000] : List Int)) y859).bind fun bt871 => ((Qag.f k (([(⟨#[97]⟩ : ByteArray), (⟨#[98]⟩ : ByteArray)] : List ByteArray)) (([3000, 5000] : List Int)) (([900, 1000] : List Int)) y859).bind fun bt887 => ((Qad.f k bt871.1 (([300, 400] : List Int))).bind fun t897 => (if t897 = T then ((Qad.f k bt871.2.1 (([1000, (-1000)] : List Int))).bind fun t901 => (if t901 = T then (if bt871.2.2 = 0 then ((Qad.f k bt887.1 (([0, 0] : List Int))).bind fun t905 => (if t905 = T then (some (bt887.2.2 == 0)) else (some F))) else (some F)) else (some F))) else (some F))))) = some r := by first | (rw [hy862]; with_reducible exact H) | (have H2_ := (Option.bind_some _ _).symm.trans H; rw [hy862]; with_reducible exact H2_) | (have H2_ := (Option.bind_some _ _).symm.trans H; with_reducible exact H2_) | with_reducible exact H | (rw [hy862]; exact H) | exact H
 have Ny862 := Aside0.mk hy862
 clear hy862
 obtain ⟨y865, hy865⟩ : ∃ y_ : List Int, y_ = (([3000, (-5000)] : List Int)) := ⟨_, rfl⟩
 replace H : ((Qag.f k y862 y865 (([900, 1000] : List Int)) y859).bind fun bt871 => ((Qag.f k (([(⟨#[97]⟩ : ByteArray), (⟨#[98]⟩ : ByteArray)] : List ByteArray)) (([3000, 5000] : List Int)) (([900, 1000] : List Int)) y859).bind fun bt887 => ((Qad.f k bt871.1 (([300, 400] : List Int))).bind fun t897 => (if t897 = T then ((Qad.f k bt871.2.1 (([1000, (-1000)] : List Int))).bind fun t901 => (if t901 = T then (if bt871.2.2 = 0 then ((Qad.f k bt887.1 (([0, 0] : List Int))).bind fun t905 => (if t905 = T then (some (bt887.2.2 == 0)) else (some F))) else (some F)) else (some F))) else (some F))))) = some r := by first | (rw [hy865]; with_reducible exact H) | (have H2_ := (Option.bind_some _ _).symm.trans H; rw [hy865]; with_reducible exact H2_) | (have H2_ := (Option.bind_some _ _).symm.trans H; with_reducible exact H2_) | with_reducible exact H | (rw [hy865]; exact H) | exact H
 have Ny865 := Aside0.mk hy865
 clear hy865
 obtain ⟨y868, hy868⟩ : ∃ y_ : List Int, y_ = (([900, 1000] : List Int)) := ⟨_, rfl⟩
 replace H : ((Qag.f k y862 y865 y868 y859).bind fun bt871 => ((Qag.f k (([(⟨#[97]⟩ : ByteArray), (⟨#[98]⟩ : ByteArray)] : List ByteArray)) (([3000, 5000] : List Int)) (([900, 1000] : List Int)) y859).bind fun bt887 => ((Qad.f k bt871.1 (([300, 400] : List Int))).bind fun t897 => (if t897 = T then ((Qad.f k bt871.2.1 (([1000, (-1000)] : List Int))).bind fun t901 => (if t901 = T then (if bt871.2.2 = 0 then ((Qad.f k bt887.1 (([0, 0] : List Int))).bind fun t905 => (if t905 = T then (some (bt887.2.2 == 0)) else (some F))) else (some F)) else (some F))) else (some F))))) = some r := by first | (rw [hy868]; with_reducible exact H) | (have H2_ := (Option.bind_some _ _).symm.trans H; rw [hy868]; with_reducible exact H2_) | (have H2_ := (Option.bind_some _ _).symm.trans H; with_reducible exact H2_) | with_reducible exact H | (rw [hy868]; exact H) | exact H
 have Ny868 := Aside0.mk hy868
 clear hy868
 replace H := Option.bind_eq_some_iff.mp H
 obtain ⟨⟨t871, t872, t873⟩, A10, H⟩ := H
 replace H : ((Qag.f k (([(⟨#[97]⟩ : ByteArray), (⟨#[98]⟩ : ByteArray)] : List ByteArray)) (([3000, 5000] : List Int)) (([900, 1000] : List Int)) y859).bind fun bt887 => ((Qad.f k t871 (([300, 400] : List Int))).bind fun t897 => (if t897 = T then ((Qad.f k t872 (([1000, (-1000)] : List Int))).bind fun t901 => (if t901 = T then (if t873 = 0 then ((Qad.f k bt887.1 (([0, 0] : List Int))).bind fun t905 => (if t905 = T then (some (bt887.2.2 == 0)) else (some F))) else (some F)) else (some F))) else (some F)))) = some r := H
 have A1 := Aside0.mk A10
 clear A10
 obtain ⟨y878, hy878⟩ : ∃ y_ : List ByteArray, y_ = (([(⟨#[97]⟩ : ByteArray), (⟨#[98]⟩ : ByteArray)] : List ByteArray)) := ⟨_, rfl⟩
 replace H : ((Qag.f k y878 (([3000, 5000] : List Int)) (([900, 1000] : List Int)) y859).bind fun bt887 => ((Qad.f k t871 (([300, 400] : List Int))).bind fun t897 => (if t897 = T then ((Qad.f k t872 (([1000, (-1000)] : List Int))).bind fun t901 => (if t901 = T then (if t873 = 0 then ((Qad.f k bt887.1 (([0, 0] : List Int))).bind fun t905 => (if t905 = T then (some (bt887.2.2 == 0)) else (some F))) else (some F)) else (some F))) else (some F)))) = some r := by first | (rw [hy878]; with_reducible exact H) | (have H2_ := (Option.bind_some _ _).symm.trans H; rw [hy878]; with_reducible exact H2_) | (have H2_ := (Option.bind_some _ _).symm.trans H; with_reducible exact H2_) | with_reducible exact H | (rw [hy878]; exact H) | exact H
 have Ny878 := Aside0.mk hy878
 clear hy878
 obtain ⟨y881, hy881⟩ : ∃ y_ : List Int, y_ = (([3000, 5000] : List Int)) := ⟨_, rfl⟩
 replace H : ((Qag.f k y878 y881 (([900, 1000] : List Int)) y859).bind fun bt887 => ((Qad.f k t871 (([300, 400] : List Int))).bind fun t897 => (if t897 = T then ((Qad.f k t872 (([1000, (-1000)] : List Int))).bind fun t901 => (if t901 = T then (if t873 = 0 then ((Qad.f k bt887.1 (([0, 0] : List Int))).bind fun t905 => (if t905 = T then (some (bt887.2.2 == 0)) else (some F))) else (some F)) else (some F))) else (some F)))) = some r := by first | (rw [hy881]; with_reducible exact H) | (have H2_ := (Option.bind_some _ _).symm.trans H; rw [hy881]; with_reducible exact H2_) | (have H2_ := (Option.bind_some _ _).symm.trans H; with_reducible exact H2_) | with_reducible exact H | (rw [hy881]; exact H) | exact H
 have Ny881 := Aside0.mk hy881
 clear hy881
 obtain ⟨y884, hy884⟩ : ∃ y_ : List Int, y_ = (([900, 1000] : List Int)) := ⟨_, rfl⟩
 replace H : ((Qag.f k y878 y881 y884 y859).bind fun bt887 => ((Qad.f k t871 (([300, 400] : List Int))).bind fun t897 => (if t897 = T then ((Qad.f k t872 (([1000, (-1000)] : List Int))).bind fun t901 => (if t901 = T then (if t873 = 0 then ((Qad.f k bt887.1 (([0, 0] : List Int))).bind fun t905 => (if t905 = T then (some (bt887.2.2 == 0)) else (some F))) else (some F)) else (some F))) else (some F)))) = some r := by first | (rw [hy884]; with_reducible exact H) | (have H2_ := (Option.bind_some _ _).symm.trans H; rw [hy884]; with_reducible exact H2_) | (have H2_ := (Option.bind_some _ _).symm.trans H; with_reducible exact H2_) | with_reducible exact H | (rw [hy884]; exact H) | exact H
 have Ny884 := Aside0.mk hy884
 clear hy884
 replace H := Option.bind_eq_some_iff.mp H
 obtain ⟨⟨t887, t888, t889⟩, A20, H⟩ := H
 replace H : ((Qad.f k t871 (([300, 400] : List Int))).bind fun t897 => (if t897 = T then ((Qad.f k t872 (([1000, (-1000)] : List Int))).bind fun t901 => (if t901 = T then (if t873 = 0 then ((Qad.f k t887 (([0, 0] : List Int))).bind fun t905 => (if t905 = T then (some (t889 == 0)) else (some F))) else (some F)) else (some F))) else (some F))) = some r := H
 have A2 := Aside0.mk A20
 clear A20
 go_enter Try.func47, Try.ntmps47
 go_upto_region 4 with (first | ((with_reducible refine QaI (N := 9) rfl ?_); (try (refine QaQ (by rfl) ?_; dsimp only)); refine Kd.R_lit k75 _ 75 ?hg (N := 9) ?hd (xs := ([(⟨(⟨#[97]⟩ : ByteArray), (⟨#[98]⟩ : ByteArray), 1, 2, 500⟩ : S75)] : List (S75))) (inner := [.string (⟨#[97]⟩ : ByteArray), .string (⟨#[98]⟩ : ByteArray), .int .i64 1, .int .i64 2, .int .i64 500]) (ok := fun _ => True) (okp := fun _ => True) ?hr ?hp (fun _ hk => hk) trivial (Below.refl _ _) (Nat.le_refl _) (by simp) ?_; (case hd => rfl); (case hg => rfl); (case hr => first | (go_simp; done) | (go_simp; rfl)); (case hp => exact (Reps.c5 (show Kd.M k75 _ _ _ (⟨(⟨#[97]⟩ : ByteArray), (⟨#[98]⟩ : ByteArray), 1, 2, 500⟩ : S75) [.string (⟨#[97]⟩ : ByteArray), .string (⟨#[98]⟩ : ByteArray), .int .i64 1, .int .i64 2, .int .i64 500] from (Qei _ _ _ (⟨(⟨#[97]⟩ : ByteArray), (⟨#[98]⟩ : ByteArray), 1, 2, 500⟩ : S75) )) (Reps.none _ _))); intro v860 w3 ho4 hb hg_ hnew_; clear hg_ hnew_; (first | rw [← Ny859.out] at ho4 | (simp only [Int.reduceToNat] at ho4; rw [← Ny859.out] at ho4)); have HO861 := Aside0.mk (Kd.R_lower ho4 (Qau (Zb))); replace HB := Aside0.mk (Qao (Zb) hb); clear hb ho4) | ((with_reducible refine QaI (N := 11) rfl ?_); (try (refine QaQ (by rfl) ?_; dsimp only)); refine Kd.R_lit Kd.string _ 9 ?hg (N := 11) ?hd (xs := ([(⟨#[97]⟩ : ByteArray), (⟨#[98]⟩ : ByteArray)] : List ByteArray)) (inner := [.string (⟨#[97]⟩ : ByteArray), .string (⟨#[98]⟩ : ByteArray)]) (ok := fun _ => True) (okp := fun _ => True) ?hr ?hp (fun _ hk => hk) trivial (Below.refl _ _) (Nat.le_refl _) (by simp) ?_; (case hd => rfl); (case hg => rfl); (case hr => first | (go_simp; done) | (go_simp; rfl)); (case hp => exact (Reps.one (show Kd.M Kd.string _ _ _ (⟨#[97]⟩ : ByteArray) [.string (⟨#[97]⟩ : ByteArray)] from rfl) (Reps.one (show Kd.M Kd.string _ _ _ (⟨#[98]⟩ : ByteArray) [.string (⟨#[98]⟩ : ByteArray)] from rfl) (Reps.none _ _)))); intro v863 w5 ho6 hb hg_ hnew_; clear hg_ hnew_; (first | rw [← Ny862.out] at ho6 | (simp only [Int.reduceToNat] at ho6; rw [← Ny862.out] at ho6)); have HO864 := Aside0.mk (Kd.R_lower ho6 (Qau (Zb))); replace HO861 := Aside0.mk (Kd.R_below (Zr HO861.out) hb); replace HB := Aside0.mk (Qao (Zb) hb); clear hb ho6) | ((with_reducible refine QaI (N := 12) rfl ?_); (try (refine QaQ (by rfl) ?_; dsimp only)); refine Kd.R_lit (Kd.int .i64) _ 3 ?hg (N := 12) ?hd (xs := ([3000, (-5000)] : List Int)) (inner := [.int .i64 3000, .int .i64 (-5000)]) (ok := fun _ => True) (okp := fun _ => True) ?hr ?hp (fun _ hk => hk) trivial (Below.refl _ _) (Nat.le_refl _) (by simp) ?_; (case hd => rfl); (case hg => rfl); (case hr => first | (go_simp; done) | (go_simp; rfl)); (case hp => exact (Reps.one (show Kd.M (Kd.int .i64) _ _ _ 3000 [.int .i64 3000] from rfl) (Reps.one (show Kd.M (Kd.int .i64) _ _ _ (-5000) [.int .i64 (-5000)] from rfl) (Reps.none _ _)))); intro v866 w7 ho8 hb hg_ hnew_; clear hg_ hnew_; (first | rw [← Ny865.out] at ho8 | (simp only [Int.reduceToNat] at ho8; rw [← Ny865.out] at ho8)); have HO867 := Aside0.mk (Kd.R_lower ho8 (Qau (Zb))); replace HO861 := Aside0.mk (Kd.R_below (Zr HO861.out) hb); replace HO864 := Aside0.mk (Kd.R_below (Zr HO864.out) hb); replace HB := Aside0.mk (Qao (Zb) hb); clear hb ho8) | ((with_reducible refine QaI (N := 13) rfl ?_); (try (refine QaQ (by rfl) ?_; dsimp only)); refine Kd.R_lit (Kd.int .i64) _ 3 ?hg (N := 13) ?hd (xs := ([900, 1000] : List Int)) (inner := [.int .i64 900, .int .i64 1000]) (ok := fun _ => True) (okp := fun _ => True) ?hr ?hp (fun _ hk => hk) trivial (Below.refl _ _) (Nat.le_refl _) (by simp) ?_; (case hd => rfl); (case hg => rfl); (case hr => first | (go_simp; done) | (go_simp; rfl)); (case hp => exact (Reps.one (show Kd.M (Kd.int .i64) _ _ _ 900 [.int .i64 900] from rfl) (Reps.one (show Kd.M (Kd.int .i64) _ _ _ 1000 [.int .i64 1000] from rfl) (Reps.none _ _)))); intro v869 w9 ho10 hb hg_ hnew_; clear hg_ hnew_; (first | rw [← Ny868.out] at ho10 | (simp only [Int.reduceToNat] at ho10; rw [← Ny868.out] at ho10)); have HO870 := Aside0.mk (Kd.R_lower (Kd.R_new' ho10 (Kd.R_lt (Zr HO867.out))) (Qau (Zb))); replace HO861 := Aside0.mk (Kd.R_below (Zr HO861.out) hb); replace HO864 := Aside0.mk (Kd.R_below (Zr HO864.out) hb); replace HO867 := Aside0.mk (Kd.R_elder' (Zr HO867.out) (Kd.R_base ho10) hb); replace HB := Aside0.mk (Qao (Zb) hb); clear hb ho10; obtain ⟨Ao11, co11, eo11⟩ := Kd.R_slice HO864.out; subst eo11; obtain ⟨Ao12, co12, eo12⟩ := Kd.R_slice HO867.out; subst eo12; obtain ⟨Ao13, co13, eo13⟩ := Kd.R_slice HO870.out; subst eo13; obtain ⟨Ao14, co14, eo14⟩ := Kd.R_slice HO861.out; subst eo14) | ((with_reducible refine QaD (f := 42) rfl ?_); refine goesL_ (some 15) rfl rfl Try.func42 (by kernel_rfl) rfl #[.slice Ao11 y862.length co11, .slice Ao12 y865.length co12, .slice Ao13 y868.length co13, .slice Ao14 y859.length co14] rfl (Zl) ?_; (with_reducible refine (Qag.calls k _ _ y862 _ _ y865 _ _ y868 _ _ y859 t871 t872 t873 _ ?side1 ?side2 ?side3 ?side4 ?side5 ?side6 ?side7 ?side8 A1.out).mono ?_); (case side1 => exact Zv (Kd.R_reads' HO864.out).2.2); (case side2 => exact (Kd.R_reads' HO864.out).2.1); (case side3 => exact Zv (Kd.R_reads' HO867.out).2.2); (case side4 => exact (Kd.R_reads' HO867.out).2.1); (case side5 => exact Zv (Kd.R_reads' HO870.out).2.2); (case side6 => exact (Kd.R_reads' HO870.out).2.1); (case side7 => exact Zv (Kd.R_reads' HO861.out).2.2); (case side8 => exact (Kd.R_reads' HO861.out).2.1); rintro e w15 ⟨v874, v876, rfl, ho0, ho1, hb⟩; refine ⟨_, rfl, ?_⟩; have HO875 := Aside0.mk (Kd.R_lower (Kd.R_new' (Kd.R_new' ho0 (Kd.R_lt (Zr HO867.out))) (Kd.R_lt (Zr HO870.out))) (Qau (Zb))); have HO877 := Aside0.mk (Kd.R_lower (Kd.R_new' (Kd.R_new' ho1 (Kd.R_lt (Zr HO867.out))) (Kd.R_lt (Zr HO870.out))) (Qau (Zb))); replace HO861 := Aside0.mk (Kd.R_below (Zr HO861.out) hb); replace HO864 := Aside0.mk (Kd.R_below (Zr HO864.out) hb); replace HO867 := Aside0.mk (Kd.R_mono (Kd.R_told (Kd.R_told (Kd.R_old (Zr HO867.out) hb) (Kd.R_base ho0)) (Kd.R_base ho1)) (fun _ h_ => h_.1)); replace HO870 := Aside0.mk (Kd.R_mono (Kd.R_told (Kd.R_told (Kd.R_old (Zr HO870.out) hb) (Kd.R_base ho0)) (Kd.R_base ho1)) (fun _ h_ => h_.1)); replace HB := Aside0.mk (Qao (Zb) hb); (try clear hb); (try clear hb2); (try clear hk); (try clear hi); (try clear ho0); (try clear ho1)) | ((with_reducible refine QaI (N := 20) rfl ?_); (try (refine QaQ (by rfl) ?_; dsimp only)); refine Kd.R_lit Kd.string _ 9 ?hg (N := 20) ?hd (xs := ([(⟨#[97]⟩ : ByteArray), (⟨#[98]⟩ : ByteArray)] : List ByteArray)) (inner := [.string (⟨#[97]⟩ : ByteArray), .string (⟨#[98]⟩ : ByteArray)]) (ok := fun _ => True) (okp := fun _ => True) ?hr ?hp (fun _ hk => hk) trivial (Below.refl _ _) (Nat.le_refl _) (by simp) ?_; (case hd => rfl); (case hg => rfl); (case hr => first | (go_simp; done) | (go_simp; rfl)); (case hp => exact (Reps.one (show Kd.M Kd.string _ _ _ (⟨#[97]⟩ : ByteArray) [.string (⟨#[97]⟩ : ByteArray)] from rfl) (Reps.one (show Kd.M Kd.string _ _ _ (⟨#[98]⟩ : ByteArray) [.string (⟨#[98]⟩ : ByteArray)] from rfl) (Reps.none _ _)))); intro v879 w16 ho17 hb hg_ hnew_; clear hg_ hnew_; (first | rw [← Ny878.out] at ho17 | (simp only [Int.reduceToNat] at ho17; rw [← Ny878.out] at ho17)); have HO880 := Aside0.mk (Kd.R_lower (Kd.R_new' ho17 (Kd.R_lt (Zr HO864.out))) (Qau (Zb))); replace HO861 := Aside0.mk (Kd.R_below (Zr HO861.out) hb); replace HO864 := Aside0.mk (Kd.R_elder' (Zr HO864.out) (Kd.R_base ho17) hb); replace HO867 := Aside0.mk (Kd.R_below (Zr HO867.out) hb); replace HO870 := Aside0.mk (Kd.R_below (Zr HO870.out) hb); replace HO875 := Aside0.mk (Kd.R_below (Zr HO875.out) hb); replace HO877 := Aside0.mk (Kd.R_below (Zr HO877.out) hb); replace HB := Aside0.mk (Qao (Zb) hb); clear hb ho17) | ((with_reducible refine QaI (N := 21) rfl ?_); (try (refine QaQ (by rfl) ?_; dsimp only)); refine Kd.R_lit (Kd.int .i64) _ 3 ?hg (N := 21) ?hd (xs := ([3000, 5000] : List Int)) (inner := [.int .i64 3000, .int .i64 5000]) (ok := fun _ => True) (okp := fun _ => True) ?hr ?hp (fun _ hk => hk) trivial (Below.refl _ _) (Nat.le_refl _) (by simp) ?_; (case hd => rfl); (case hg => rfl); (case hr => first | (go_simp; done) | (go_simp; rfl)); (case hp => exact (Reps.one (show Kd.M (Kd.int .i64) _ _ _ 3000 [.int .i64 3000] from rfl) (Reps.one (show Kd.M (Kd.int .i64) _ _ _ 5000 [.int .i64 5000] from rfl) (Reps.none _ _)))); intro v882 w18 ho19 hb hg_ hnew_; clear hg_ hnew_; (first | rw [← Ny881.out] at ho19 | (simp only [Int.reduceToNat] at ho19; rw [← Ny881.out] at ho19)); have HO883 := Aside0.mk (Kd.R_lower (Kd.R_new' (Kd.R_new' (Kd.R_new' (Kd.R_new' ho19 (Kd.R_lt (Zr HO867.out))) (Kd.R_lt (Zr HO870.out))) (Kd.R_lt (Zr HO875.out))) (Kd.R_lt (Zr HO877.out))) (Qau (Zb))); replace HO861 := Aside0.mk (Kd.R_below (Zr HO861.out) hb); replace HO864 := Aside0.mk (Kd.R_below (Zr HO864.out) hb); replace HO867 := Aside0.mk (Kd.R_elder' (Zr HO867.out) (Kd.R_base ho19) hb); replace HO870 := Aside0.mk (Kd.R_elder' (Zr HO870.out) (Kd.R_base ho19) hb); replace HO875 := Aside0.mk (Kd.R_elder' (Zr HO875.out) (Kd.R_base ho19) hb); replace HO877 := Aside0.mk (Kd.R_elder' (Zr HO877.out) (Kd.R_base ho19) hb); replace HO880 := Aside0.mk (Kd.R_below (Zr HO880.out) hb); replace HB := Aside0.mk (Qao (Zb) hb); clear hb ho19) | ((with_reducible refine QaI (N := 22) rfl ?_); (try (refine QaQ (by rfl) ?_; dsimp only)); refine Kd.R_lit (Kd.int .i64) _ 3 ?hg (N := 22) ?hd (xs := ([900, 1000] : List Int)) (inner := [.int .i64 900, .int .i64 1000]) (ok := fun _ => True) (okp := fun _ => True) ?hr ?hp (fun _ hk => hk) trivial (Below.refl _ _) (Nat.le_refl _) (by simp) ?_; (case hd => rfl); (case hg => rfl); (case hr => first | (go_simp; done) | (go_simp; rfl)); (case hp => exact (Reps.one (show Kd.M (Kd.int .i64) _ _ _ 900 [.int .i64 900] from rfl) (Reps.one (show Kd.M (Kd.int .i64) _ _ _ 1000 [.int .i64 1000] from rfl) (Reps.none _ _)))); intro v885 w20 ho21 hb hg_ hnew_; clear hg_ hnew_; (first | rw [← Ny884.out] at ho21 | (simp only [Int.reduceToNat] at ho21; rw [← Ny884.out] at ho21)); have HO886 := Aside0.mk (Kd.R_lower (Kd.R_new' (Kd.R_new' (Kd.R_new' (Kd.R_new' (Kd.R_new' ho21 (Kd.R_lt (Zr HO867.out))) (Kd.R_lt (Zr HO870.out))) (Kd.R_lt (Zr HO875.out))) (Kd.R_lt (Zr HO877.out))) (Kd.R_lt (Zr HO883.out))) (Qau (Zb))); replace HO861 := Aside0.mk (Kd.R_below (Zr HO861.out) hb); replace HO864 := Aside0.mk (Kd.R_below (Zr HO864.out) hb); replace HO867 := Aside0.mk (Kd.R_elder' (Zr HO867.out) (Kd.R_base ho21) hb); replace HO870 := Aside0.mk (Kd.R_elder' (Zr HO870.out) (Kd.R_base ho21) hb); replace HO875 := Aside0.mk (Kd.R_elder' (Zr HO875.out) (Kd.R_base ho21) hb); replace HO877 := Aside0.mk (Kd.R_elder' (Zr HO877.out) (Kd.R_base ho21) hb); replace HO880 := Aside0.mk (Kd.R_below (Zr HO880.out) hb); replace HO883 := Aside0.mk (Kd.R_elder' (Zr HO883.out) (Kd.R_base ho21) hb); replace HB := Aside0.mk (Qao (Zb) hb); clear hb ho21; obtain ⟨Ao22, co22, eo22⟩ := Kd.R_slice HO880.out; subst eo22; obtain ⟨Ao23, co23, eo23⟩ := Kd.R_slice HO883.out; subst eo23; obtain ⟨Ao24, co24, eo24⟩ := Kd.R_slice HO886.out; subst eo24) | ((with_reducible refine QaD (f := 42) rfl ?_); refine goesL_ (some 24) rfl rfl Try.func42 (by kernel_rfl) rfl #[.slice Ao22 y878.length co22, .slice Ao23 y881.length co23, .slice Ao24 y884.length co24, .slice Ao14 y859.length co14] rfl (Zl) ?_; (with_reducible refine (Qag.calls k _ _ y878 _ _ y881 _ _ y884 _ _ y859 t887 t888 t889 _ ?side1 ?side2 ?side3 ?side4 ?side5 ?side6 ?side7 ?side8 A2.out).mono ?_); (case side1 => exact Zv (Kd.R_reads' HO880.out).2.2); (case side2 => exact (Kd.R_reads' HO880.out).2.1); (case side3 => exact Zv (Kd.R_reads' HO883.out).2.2); (case side4 => exact (Kd.R_reads' HO883.out).2.1); (case side5 => exact Zv (Kd.R_reads' HO886.out).2.2); (case side6 => exact (Kd.R_reads' HO886.out).2.1); (case side7 => exact Zv (Kd.R_reads' HO861.out).2.2); (case side8 => exact (Kd.R_reads' HO861.out).2.1); rintro e w25 ⟨v890, v892, rfl, ho0, ho1, hb⟩; refine ⟨_, rfl, ?_⟩; have HO891 := Aside0.mk (Kd.R_lower (Kd.R_new' (Kd.R_new' (Kd.R_new' (Kd.R_new' (Kd.R_new' (Kd.R_new' ho0 (Kd.R_lt (Zr HO867.out))) (Kd.R_lt (Zr HO870.out))) (Kd.R_lt (Zr HO875.out))) (Kd.R_lt (Zr HO877.out))) (Kd.R_lt (Zr HO883.out))) (Kd.R_lt (Zr HO886.out))) (Qau (Zb))); have HO893 := Aside0.mk (Kd.R_lower (Kd.R_new' (Kd.R_new' (Kd.R_new' (Kd.R_new' (Kd.R_new' (Kd.R_new' ho1 (Kd.R_lt (Zr HO867.out))) (Kd.R_lt (Zr HO870.out))) (Kd.R_lt (Zr HO875.out))) (Kd.R_lt (Zr HO877.out))) (Kd.R_lt (Zr HO883.out))) (Kd.R_lt (Zr HO886.out))) (Qau (Zb))); replace HO861 := Aside0.mk (Kd.R_below (Zr HO861.out) hb); replace HO864 := Aside0.mk (Kd.R_below (Zr HO864.out) hb); replace HO867 := Aside0.mk (Kd.R_mono (Kd.R_told (Kd.R_told (Kd.R_old (Zr HO867.out) hb) (Kd.R_base ho0)) (Kd.R_base ho1)) (fun _ h_ => h_.1)); replace HO870 := Aside0.mk (Kd.R_mono (Kd.R_told (Kd.R_told (Kd.R_old (Zr HO870.out) hb) (Kd.R_base ho0)) (Kd.R_base ho1)) (fun _ h_ => h_.1)); replace HO875 := Aside0.mk (Kd.R_mono (Kd.R_told (Kd.R_told (Kd.R_old (Zr HO875.out) hb) (Kd.R_base ho0)) (Kd.R_base ho1)) (fun _ h_ => h_.1)); replace HO877 := Aside0.mk (Kd.R_mono (Kd.R_told (Kd.R_told (Kd.R_old (Zr HO877.out) hb) (Kd.R_base ho0)) (Kd.R_base ho1)) (fun _ h_ => h_.1)); replace HO880 := Aside0.mk (Kd.R_below (Zr HO880.out) hb); replace HO883 := Aside0.mk (Kd.R_mono (Kd.R_told (Kd.R_told (Kd.R_old (Zr HO883.out) hb) (Kd.R_base ho0)) (Kd.R_base ho1)) (fun _ h_ => h_.1)); replace HO886 := Aside0.mk (Kd.R_mono (Kd.R_told (Kd.R_told (Kd.R_old (Zr HO886.out) hb) (Kd.R_base ho0)) (Kd.R_base ho1)) (fun _ h_ => h_.1)); replace HB := Aside0.mk (Qao (Zb) hb); (try clear hb); (try clear hb2); (try clear hk); (try clear hi); (try clear ho0); (try clear ho1)))
 (try simp only [Act.put, Zj, Zk, Zm])
 obtain ⟨y894, hy894⟩ : ∃ y_ : List Int, y_ = (([300, 400] : List Int)) := ⟨_, rfl⟩
 replace H : ((Qad.f k t871 y894).bind fun t897 => (if t897 = T then ((Qad.f k t872 (([1000, (-1000)] : List Int))).bind fun t901 => (if t901 = T then (if t873 = 0 then ((Qad.f k t887 (([0, 0] : List Int))).bind fun t905 => (if t905 = T then (some (t889 == 0)) else (some F))) else (some F)) else (some F))) else (some F))) = some r := by first | (rw [hy894]; with_reducible exact H) | (have H2_ := (Option.bind_some _ _).symm.trans H; rw [hy894]; with_reducible exact H2_) | (have H2_ := (Option.bind_some _ _).symm.trans H; with_reducible exact H2_) | with_reducible exact H | (rw [hy894]; exact H) | exact H
 have Ny894 := Aside0.mk hy894
 clear hy894
 replace H := Option.bind_eq_some_iff.mp H
 obtain ⟨t897, A260, H⟩ := H
 replace H : (if t897 = T then ((Qad.f k t872 (([1000, (-1000)] : List Int))).bind fun t901 => (if t901 = T then (if t873 = 0 then ((Qad.f k t887 (([0, 0] : List Int))).bind fun t905 => (if t905 = T then (some (t889 == 0)) else (some F))) else (some F)) else (some F))) else (some F)) = some r := H
 have A26 := Aside0.mk A260
 clear A260
 by_cases c27 : t897 = T
 ·subst c27
  have H1 : ((Qad.f k t872 (([1000, (-1000)] : List Int))).bind fun t901 => (if t901 = T then (if t873 = 0 then ((Qad.f k t887 (([0, 0] : List Int))).bind fun t905 => (if t905 = T then (some (t889 == 0)) else (some F))) else (some F)) else (some F))) = some r := by rw [if_pos rfl] at H; exact H
  clear H
  have H := H1
  clear H1
  obtain ⟨y898, hy898⟩ : ∃ y_ : List Int, y_ = (([1000, (-1000)] : List Int)) := ⟨_, rfl⟩
  replace H : ((Qad.f k t872 y898).bind fun t901 => (if t901 = T then (if t873 = 0 then ((Qad.f k t887 (([0, 0] : List Int))).bind fun t905 => (if t905 = T then (some (t889 == 0)) else (some F))) else (some F)) else (some F))) = some r := by first | (rw [hy898]; with_reducible exact H) | (have H2_ := (Option.bind_some _ _).symm.trans H; rw [hy898]; with_reducible exact H2_) | (have H2_ := (Option.bind_some _ _).symm.trans H; with_reducible exact H2_) | with_reducible exact H | (rw [hy898]; exact H) | exact H
  have Ny898 := Aside0.mk hy898
  clear hy898
  replace H := Option.bind_eq_some_iff.mp H
  obtain ⟨t901, A280, H⟩ := H
  replace H : (if t901 = T then (if t873 = 0 then ((Qad.f k t887 (([0, 0] : List Int))).bind fun t905 => (if t905 = T then (some (t889 == 0)) else (some F))) else (some F)) else (some F)) = some r := H
  have A28 := Aside0.mk A280
  clear A280
  by_cases c29 : t901 = T
  ·subst c29
   have H1 : (if t873 = 0 then ((Qad.f k t887 (([0, 0] : List Int))).bind fun t905 => (if t905 = T then (some (t889 == 0)) else (some F))) else (some F)) = some r := by rw [if_pos rfl] at H; exact H
   clear H
   have H := H1
   clear H1
   by_cases c30 : t873 = 0
   ·rw [if_pos c30] at H
    have c30b0 : (t873 == 0) = T := beq_iff_eq.mpr c30
    have c30b1 : (t873 != 0) = F := bne_eq_false_iff_eq.mpr c30
    clear c30
    (try simp only [c30b0, c30b1])
    obtain ⟨y902, hy902⟩ : ∃ y_ : List Int, y_ = (([0, 0] : List Int)) := ⟨_, rfl⟩
    replace H : ((Qad.f k t887 y902).bind fun t905 => (if t905 = T then (some (t889 == 0)) else (some F))) = some r := by first | (rw [hy902]; with_reducible exact H) | (have H2_ := (Option.bind_some _ _).symm.trans H; rw [hy902]; with_reducible exact H2_) | (have H2_ := (Option.bind_some _ _).symm.trans H; with_reducible exact H2_) | with_reducible exact H | (rw [hy902]; exact H) | exact H
    have Ny902 := Aside0.mk hy902
    clear hy902
    replace H := Option.bind_eq_some_iff.mp H
    obtain ⟨t905, A310, H⟩ := H
    replace H : (if t905 = T then (some (t889 == 0)) else (some F)) = some r := H
    have A31 := Aside0.mk A310
    clear A310
    by_cases c32 : t905 = T
    ·subst c32
     have H1 : (some (t889 == 0)) = some r := by rw [if_pos rfl] at H; exact H
     clear H
     have H := H1
     clear H1
     obtain rfl := Option.some.inj H
     go_wp2_with (first | ((with_reducible refine QaI (N := 29) rfl ?_); (try (refine QaQ (by rfl) ?_; dsimp only)); refine Kd.R_lit (Kd.int .i64) _ 3 ?hg (N := 29) ?hd (xs := ([300, 400] : List Int)) (inner := [.int .i64 300, .int .i64 400]) (ok := fun _ => True) (okp := fun _ => True) ?hr ?hp (fun _ hk => hk) trivial (Below.refl _ _) (Nat.le_refl _) (by simp) ?_; (case hd => rfl); (case hg => rfl); (case hr => first | (go_simp; done) | (go_simp; rfl)); (case hp => exact (Reps.one (show Kd.M (Kd.int .i64) _ _ _ 300 [.int .i64 300] from rfl) (Reps.one (show Kd.M (Kd.int .i64) _ _ _ 400 [.int .i64 400] from rfl) (Reps.none _ _)))); intro v895 w33 ho34 hb hg_ hnew_; clear hg_ hnew_; (first | rw [← Ny894.out] at ho34 | (simp only [Int.reduceToNat] at ho34; rw [← Ny894.out] at ho34)); have HO896 := Aside0.mk (Kd.R_lower (Kd.R_new' (Kd.R_new' (Kd.R_new' (Kd.R_new' (Kd.R_new' (Kd.R_new' (Kd.R_new' (Kd.R_new' ho34 (Kd.R_lt (Zr HO867.out))) (Kd.R_lt (Zr HO870.out))) (Kd.R_lt (Zr HO875.out))) (Kd.R_lt (Zr HO877.out))) (Kd.R_lt (Zr HO883.out))) (Kd.R_lt (Zr HO886.out))) (Kd.R_lt (Zr HO891.out))) (Kd.R_lt (Zr HO893.out))) (Qau (Zb))); replace HO861 := Aside0.mk (Kd.R_below (Zr HO861.out) hb); replace HO864 := Aside0.mk (Kd.R_below (Zr HO864.out) hb); replace HO867 := Aside0.mk (Kd.R_elder' (Zr HO867.out) (Kd.R_base ho34) hb); replace HO870 := Aside0.mk (Kd.R_elder' (Zr HO870.out) (Kd.R_base ho34) hb); replace HO875 := Aside0.mk (Kd.R_elder' (Zr HO875.out) (Kd.R_base ho34) hb); replace HO877 := Aside0.mk (Kd.R_elder' (Zr HO877.out) (Kd.R_base ho34) hb); replace HO880 := Aside0.mk (Kd.R_below (Zr HO880.out) hb); replace HO883 := Aside0.mk (Kd.R_elder' (Zr HO883.out) (Kd.R_base ho34) hb); replace HO886 := Aside0.mk (Kd.R_elder' (Zr HO886.out) (Kd.R_base ho34) hb); replace HO891 := Aside0.mk (Kd.R_elder' (Zr HO891.out) (Kd.R_base ho34) hb); replace HO893 := Aside0.mk (Kd.R_elder' (Zr HO893.out) (Kd.R_base ho34) hb); replace HB := Aside0.mk (Qao (Zb) hb); clear hb ho34; obtain ⟨Ao35, co35, eo35⟩ := Kd.R_slice HO875.out; subst eo35; obtain ⟨Ao36, co36, eo36⟩ := Kd.R_slice HO896.out; subst eo36) | ((with_reducible refine QaD (f := 46) rfl ?_); refine goesL_ (some 30) rfl rfl Try.func46 (by kernel_rfl) rfl #[.slice Ao35 t871.length co35, .slice Ao36 y894.length co36] rfl (Zl) ?_; (with_reducible refine (Qad.calls k _ _ t871 _ _ y894 T _ ?side1 ?side2 ?side3 ?side4 A26.out).mono ?_); (case side1 => exact Zv (Kd.R_reads' HO875.out).2.2); (case side2 => exact (Kd.R_reads' HO875.out).2.1); (case side3 => exact Zv (Kd.R_reads' HO896.out).2.2); (case side4 => exact (Kd.R_reads' HO896.out).2.1); rintro e w' ⟨rfl, ⟨nd, rfl⟩⟩; refine ⟨_, rfl, ?_⟩) | ((with_reducible refine QaI (N := 33) rfl ?_); (try (refine QaQ (by rfl) ?_; dsimp only)); refine Kd.R_lit (Kd.int .i64) _ 3 ?hg (N := 33) ?hd (xs := ([1000, (-1000)] : List Int)) (inner := [.int .i64 1000, .int .i64 (-1000)]) (ok := fun _ => True) (okp := fun _ => True) ?hr ?hp (fun _ hk => hk) trivial (Below.refl _ _) (Nat.le_refl _) (by simp) ?_; (case hd => rfl); (case hg => rfl); (case hr => first | (go_simp; done) | (go_simp; rfl)); (case hp => exact (Reps.one (show Kd.M (Kd.int .i64) _ _ _ 1000 [.int .i64 1000] from rfl) (Reps.one (show Kd.M (Kd.int .i64) _ _ _ (-1000) [.int .i64 (-1000)] from rfl) (Reps.none _ _)))); intro v899 w37 ho38 hb hg_ hnew_; clear hg_ hnew_; (first | rw [← Ny898.out] at ho38 | (simp only [Int.reduceToNat] at ho38; rw [← Ny898.out] at ho38)); have HO900 := Aside0.mk (Kd.R_lower (Kd.R_new' (Kd.R_new' (Kd.R_new' (Kd.R_new' (Kd.R_new' (Kd.R_new' (Kd.R_new' (Kd.R_new' (Kd.R_new' ho38 (Kd.R_lt (Zr HO867.out))) (Kd.R_lt (Zr HO870.out))) (Kd.R_lt (Zr HO875.out))) (Kd.R_lt (Zr HO877.out))) (Kd.R_lt (Zr HO883.out))) (Kd.R_lt (Zr HO886.out))) (Kd.R_lt (Zr HO891.out))) (Kd.R_lt (Zr HO893.out))) (Kd.R_lt (Zr HO896.out))) (Qau (Zb))); replace HO861 := Aside0.mk (Kd.R_below (Zr HO861.out) hb); replace HO864 := Aside0.mk (Kd.R_below (Zr HO864.out) hb); replace HO867 := Aside0.mk (Kd.R_elder' (Zr HO867.out) (Kd.R_base ho38) hb); replace HO870 := Aside0.mk (Kd.R_elder' (Zr HO870.out) (Kd.R_base ho38) hb); replace HO875 := Aside0.mk (Kd.R_elder' (Zr HO875.out) (Kd.R_base ho38) hb); replace HO877 := Aside0.mk (Kd.R_elder' (Zr HO877.out) (Kd.R_base ho38) hb); replace HO880 := Aside0.mk (Kd.R_below (Zr HO880.out) hb); replace HO883 := Aside0.mk (Kd.R_elder' (Zr HO883.out) (Kd.R_base ho38) hb); replace HO886 := Aside0.mk (Kd.R_elder' (Zr HO886.out) (Kd.R_base ho38) hb); replace HO891 := Aside0.mk (Kd.R_elder' (Zr HO891.out) (Kd.R_base ho38) hb); replace HO893 := Aside0.mk (Kd.R_elder' (Zr HO893.out) (Kd.R_base ho38) hb); replace HO896 := Aside0.mk (Kd.R_elder' (Zr HO896.out) (Kd.R_base ho38) hb); replace HB := Aside0.mk (Qao (Zb) hb); clear hb ho38; obtain ⟨Ao39, co39, eo39⟩ := Kd.R_slice HO877.out; subst eo39; obtain ⟨Ao40, co40, eo40⟩ := Kd.R_slice HO900.out; subst eo40) | (go_at_call 46; (with_reducible refine (Qad.calls k _ _ t872 _ _ y898 T _ ?side1 ?side2 ?side3 ?side4 A28.out).mono ?_); (case side1 => exact Zv (Kd.R_reads' HO877.out).2.2); (case side2 => exact (Kd.R_reads' HO877.out).2.1); (case side3 => exact Zv (Kd.R_reads' HO900.out).2.2); (case side4 => exact (Kd.R_reads' HO900.out).2.1); rintro e w' ⟨rfl, ⟨nd, rfl⟩⟩) | ((with_reducible refine QaI (N := 42) rfl ?_); (try (refine QaQ (by rfl) ?_; dsimp only)); refine Kd.R_lit (Kd.int .i64) _ 3 ?hg (N := 42) ?hd (xs := ([0, 0] : List Int)) (inner := [.int .i64 0, .int .i64 0]) (ok := fun _ => True) (okp := fun _ => True) ?hr ?hp (fun _ hk => hk) trivial (Below.refl _ _) (Nat.le_refl _) (by simp) ?_; (case hd => rfl); (case hg => rfl); (case hr => first | (go_simp; done) | (go_simp; rfl)); (case hp => exact (Reps.one (show Kd.M (Kd.int .i64) _ _ _ 0 [.int .i64 0] from rfl) (Reps.one (show Kd.M (Kd.int .i64) _ _ _ 0 [.int .i64 0] from rfl) (Reps.none _ _)))); intro v903 w41 ho42 hb hg_ hnew_; clear hg_ hnew_; (first | rw [← Ny902.out] at ho42 | (simp only [Int.reduceToNat] at ho42; rw [← Ny902.out] at ho42)); have HO904 := Aside0.mk (Kd.R_lower (Kd.R_new' (Kd.R_new' (Kd.R_new' (Kd.R_new' (Kd.R_new' (Kd.R_new' (Kd.R_new' (Kd.R_new' (Kd.R_new' (Kd.R_new' ho42 (Kd.R_lt (Zr HO867.out))) (Kd.R_lt (Zr HO870.out))) (Kd.R_lt (Zr HO875.out))) (Kd.R_lt (Zr HO877.out))) (Kd.R_lt (Zr HO883.out))) (Kd.R_lt (Zr HO886.out))) (Kd.R_lt (Zr HO891.out))) (Kd.R_lt (Zr HO893.out))) (Kd.R_lt (Zr HO896.out))) (Kd.R_lt (Zr HO900.out))) (Qau (Zb))); replace HO861 := Aside0.mk (Kd.R_below (Zr HO861.out) hb); replace HO864 := Aside0.mk (Kd.R_below (Zr HO864.out) hb); replace HO867 := Aside0.mk (Kd.R_elder' (Zr HO867.out) (Kd.R_base ho42) hb); replace HO870 := Aside0.mk (Kd.R_elder' (Zr HO870.out) (Kd.R_base ho42) hb); replace HO875 := Aside0.mk (Kd.R_elder' (Zr HO875.out) (Kd.R_base ho42) hb); replace HO877 := Aside0.mk (Kd.R_elder' (Zr HO877.out) (Kd.R_base ho42) hb); replace HO880 := Aside0.mk (Kd.R_below (Zr HO880.out) hb); replace HO883 := Aside0.mk (Kd.R_elder' (Zr HO883.out) (Kd.R_base ho42) hb); replace HO886 := Aside0.mk (Kd.R_elder' (Zr HO886.out) (Kd.R_base ho42) hb); replace HO891 := Aside0.mk (Kd.R_elder' (Zr HO891.out) (Kd.R_base ho42) hb); replace HO893 := Aside0.mk (Kd.R_elder' (Zr HO893.out) (Kd.R_base ho42) hb); replace HO896 := Aside0.mk (Kd.R_elder' (Zr HO896.out) (Kd.R_base ho42) hb); replace HO900 := Aside0.mk (Kd.R_elder' (Zr HO900.out) (Kd.R_base ho42) hb); replace HB := Aside0.mk (Qao (Zb) hb); clear hb ho42; obtain ⟨Ao43, co43, eo43⟩ := Kd.R_slice HO891.out; subst eo43; obtain ⟨Ao44, co44, eo44⟩ := Kd.R_slice HO904.out; subst eo44) | (go_at_call 46; (with_reducible refine (Qad.calls k _ _ t887 _ _ y902 T _ ?side1 ?side2 ?side3 ?side4 A31.out).mono ?_); (case side1 => exact Zv (Kd.R_reads' HO891.out).2.2); (case side2 => exact (Kd.R_reads' HO891.out).2.1); (case side3 => exact Zv (Kd.R_reads' HO904.out).2.2); (case side4 => exact (Kd.R_reads' HO904.out).2.1); rintro e w' ⟨rfl, ⟨nd, rfl⟩⟩))
     go_ret
     exact ⟨Zq, Zb⟩
    replace c32 := Bool.eq_false_iff.mpr c32
    subst c32
    have H1 : (some F) = some r := by rw [if_neg (show ¬ (F = T) by decide)] at H; exact H
    clear H
    have H := H1
    clear H1
    obtain rfl := Option.some.inj H
    go_wp2_with (first | ((with_reducible refine QaI (N := 29) rfl ?_); (try (refine QaQ (by rfl) ?_; dsimp only)); refine Kd.R_lit (Kd.int .i64) _ 3 ?hg (N := 29) ?hd (xs := ([300, 400] : List Int)) (inner := [.int .i64 300, .int .i64 400]) (ok := fun _ => True) (okp := fun _ => True) ?hr ?hp (fun _ hk => hk) trivial (Below.refl _ _) (Nat.le_refl _) (by simp) ?_; (case hd => rfl); (case hg => rfl); (case hr => first | (go_simp; done) | (go_simp; rfl)); (case hp => exact (Reps.one (show Kd.M (Kd.int .i64) _ _ _ 300 [.int .i64 300] from rfl) (Reps.one (show Kd.M (Kd.int .i64) _ _ _ 400 [.int .i64 400] from rfl) (Reps.none _ _)))); intro v895 w45 ho46 hb hg_ hnew_; clear hg_ hnew_; (first | rw [← Ny894.out] at ho46 | (simp only [Int.reduceToNat] at ho46; rw [← Ny894.out] at ho46)); have HO896 := Aside0.mk (Kd.R_lower (Kd.R_new' (Kd.R_new' (Kd.R_new' (Kd.R_new' (Kd.R_new' (Kd.R_new' (Kd.R_new' (Kd.R_new' ho46 (Kd.R_lt (Zr HO867.out))) (Kd.R_lt (Zr HO870.out))) (Kd.R_lt (Zr HO875.out))) (Kd.R_lt (Zr HO877.out))) (Kd.R_lt (Zr HO883.out))) (Kd.R_lt (Zr HO886.out))) (Kd.R_lt (Zr HO891.out))) (Kd.R_lt (Zr HO893.out))) (Qau (Zb))); replace HO861 := Aside0.mk (Kd.R_below (Zr HO861.out) hb); replace HO864 := Aside0.mk (Kd.R_below (Zr HO864.out) hb); replace HO867 := Aside0.mk (Kd.R_elder' (Zr HO867.out) (Kd.R_base ho46) hb); replace HO870 := Aside0.mk (Kd.R_elder' (Zr HO870.out) (Kd.R_base ho46) hb); replace HO875 := Aside0.mk (Kd.R_elder' (Zr HO875.out) (Kd.R_base ho46) hb); replace HO877 := Aside0.mk (Kd.R_elder' (Zr HO877.out) (Kd.R_base ho46) hb); replace HO880 := Aside0.mk (Kd.R_below (Zr HO880.out) hb); replace HO883 := Aside0.mk (Kd.R_elder' (Zr HO883.out) (Kd.R_base ho46) hb); replace HO886 := Aside0.mk (Kd.R_elder' (Zr HO886.out) (Kd.R_base ho46) hb); replace HO891 := Aside0.mk (Kd.R_elder' (Zr HO891.out) (Kd.R_base ho46) hb); replace HO893 := Aside0.mk (Kd.R_elder' (Zr HO893.out) (Kd.R_base ho46) hb); replace HB := Aside0.mk (Qao (Zb) hb); clear hb ho46; obtain ⟨Ao47, co47, eo47⟩ := Kd.R_slice HO875.out; subst eo47; obtain ⟨Ao48, co48, eo48⟩ := Kd.R_slice HO896.out; subst eo48) | ((with_reducible refine QaD (f := 46) rfl ?_); refine goesL_ (some 30) rfl rfl Try.func46 (by kernel_rfl) rfl #[.slice Ao47 t871.length co47, .slice Ao48 y894.length co48] rfl (Zl) ?_; (with_reducible refine (Qad.calls k _ _ t871 _ _ y894 T _ ?side1 ?side2 ?side3 ?side4 A26.out).mono ?_); (case side1 => exact Zv (Kd.R_reads' HO875.out).2.2); (case side2 => exact (Kd.R_reads' HO875.out).2.1); (case side3 => exact Zv (Kd.R_reads' HO896.out).2.2); (case side4 => exact (Kd.R_reads' HO896.out).2.1); rintro e w' ⟨rfl, ⟨nd, rfl⟩⟩; refine ⟨_, rfl, ?_⟩) | ((with_reducible refine QaI (N := 33) rfl ?_); (try (refine QaQ (by rfl) ?_; dsimp only)); refine Kd.R_lit (Kd.int .i64) _ 3 ?hg (N := 33) ?hd (xs := ([1000, (-1000)] : List Int)) (inner := [.int .i64 1000, .int .i64 (-1000)]) (ok := fun _ => True) (okp := fun _ => True) ?hr ?hp (fun _ hk => hk) trivial (Below.refl _ _) (Nat.le_refl _) (by simp) ?_; (case hd => rfl); (case hg => rfl); (case hr => first | (go_simp; done) | (go_simp; rfl)); (case hp => exact (Reps.one (show Kd.M (Kd.int .i64) _ _ _ 1000 [.int .i64 1000] from rfl) (Reps.one (show Kd.M (Kd.int .i64) _ _ _ (-1000) [.int .i64 (-1000)] from rfl) (Reps.none _ _)))); intro v899 w49 ho50 hb hg_ hnew_; clear hg_ hnew_; (first | rw [← Ny898.out] at ho50 | (simp only [Int.reduceToNat] at ho50; rw [← Ny898.out] at ho50)); have HO900 := Aside0.mk (Kd.R_lower (Kd.R_new' (Kd.R_new' (Kd.R_new' (Kd.R_new' (Kd.R_new' (Kd.R_new' (Kd.R_new' (Kd.R_new' (Kd.R_new' ho50 (Kd.R_lt (Zr HO867.out))) (Kd.R_lt (Zr HO870.out))) (Kd.R_lt (Zr HO875.out))) (Kd.R_lt (Zr HO877.out))) (Kd.R_lt (Zr HO883.out))) (Kd.R_lt (Zr HO886.out))) (Kd.R_lt (Zr HO891.out))) (Kd.R_lt (Zr HO893.out))) (Kd.R_lt (Zr HO896.out))) (Qau (Zb))); replace HO861 := Aside0.mk (Kd.R_below (Zr HO861.out) hb); replace HO864 := Aside0.mk (Kd.R_below (Zr HO864.out) hb); replace HO867 := Aside0.mk (Kd.R_elder' (Zr HO867.out) (Kd.R_base ho50) hb); replace HO870 := Aside0.mk (Kd.R_elder' (Zr HO870.out) (Kd.R_base ho50) hb); replace HO875 := Aside0.mk (Kd.R_elder' (Zr HO875.out) (Kd.R_base ho50) hb); replace HO877 := Aside0.mk (Kd.R_elder' (Zr HO877.out) (Kd.R_base ho50) hb); replace HO880 := Aside0.mk (Kd.R_below (Zr HO880.out) hb); replace HO883 := Aside0.mk (Kd.R_elder' (Zr HO883.out) (Kd.R_base ho50) hb); replace HO886 := Aside0.mk (Kd.R_elder' (Zr HO886.out) (Kd.R_base ho50) hb); replace HO891 := Aside0.mk (Kd.R_elder' (Zr HO891.out) (Kd.R_base ho50) hb); replace HO893 := Aside0.mk (Kd.R_elder' (Zr HO893.out) (Kd.R_base ho50) hb); replace HO896 := Aside0.mk (Kd.R_elder' (Zr HO896.out) (Kd.R_base ho50) hb); replace HB := Aside0.mk (Qao (Zb) hb); clear hb ho50; obtain ⟨Ao51, co51, eo51⟩ := Kd.R_slice HO877.out; subst eo51; obtain ⟨Ao52, co52, eo52⟩ := Kd.R_slice HO900.out; subst eo52) | (go_at_call 46; (with_reducible refine (Qad.calls k _ _ t872 _ _ y898 T _ ?side1 ?side2 ?side3 ?side4 A28.out).mono ?_); (case side1 => exact Zv (Kd.R_reads' HO877.out).2.2); (case side2 => exact (Kd.R_reads' HO877.out).2.1); (case side3 => exact Zv (Kd.R_reads' HO900.out).2.2); (case side4 => exact (Kd.R_reads' HO900.out).2.1); rintro e w' ⟨rfl, ⟨nd, rfl⟩⟩) | ((with_reducible refine QaI (N := 42) rfl ?_); (try (refine QaQ (by rfl) ?_; dsimp only)); refine Kd.R_lit (Kd.int .i64) _ 3 ?hg (N := 42) ?hd (xs := ([0, 0] : List Int)) (inner := [.int .i64 0, .int .i64 0]) (ok := fun _ => True) (okp := fun _ => True) ?hr ?hp (fun _ hk => hk) trivial (Below.refl _ _) (Nat.le_refl _) (by simp) ?_; (case hd => rfl); (case hg => rfl); (case hr => first | (go_simp; done) | (go_simp; rfl)); (case hp => exact (Reps.one (show Kd.M (Kd.int .i64) _ _ _ 0 [.int .i64 0] from rfl) (Reps.one (show Kd.M (Kd.int .i64) _ _ _ 0 [.int .i64 0] from rfl) (Reps.none _ _)))); intro v903 w53 ho54 hb hg_ hnew_; clear hg_ hnew_; (first | rw [← Ny902.out] at ho54 | (simp only [Int.reduceToNat] at ho54; rw [← Ny902.out] at ho54)); have HO904 := Aside0.mk (Kd.R_lower (Kd.R_new' (Kd.R_new' (Kd.R_new' (Kd.R_new' (Kd.R_new' (Kd.R_new' (Kd.R_new' (Kd.R_new' (Kd.R_new' (Kd.R_new' ho54 (Kd.R_lt (Zr HO867.out))) (Kd.R_lt (Zr HO870.out))) (Kd.R_lt (Zr HO875.out))) (Kd.R_lt (Zr HO877.out))) (Kd.R_lt (Zr HO883.out))) (Kd.R_lt (Zr HO886.out))) (Kd.R_lt (Zr HO891.out))) (Kd.R_lt (Zr HO893.out))) (Kd.R_lt (Zr HO896.out))) (Kd.R_lt (Zr HO900.out))) (Qau (Zb))); replace HO861 := Aside0.mk (Kd.R_below (Zr HO861.out) hb); replace HO864 := Aside0.mk (Kd.R_below (Zr HO864.out) hb); replace HO867 := Aside0.mk (Kd.R_elder' (Zr HO867.out) (Kd.R_base ho54) hb); replace HO870 := Aside0.mk (Kd.R_elder' (Zr HO870.out) (Kd.R_base ho54) hb); replace HO875 := Aside0.mk (Kd.R_elder' (Zr HO875.out) (Kd.R_base ho54) hb); replace HO877 := Aside0.mk (Kd.R_elder' (Zr HO877.out) (Kd.R_base ho54) hb); replace HO880 := Aside0.mk (Kd.R_below (Zr HO880.out) hb); replace HO883 := Aside0.mk (Kd.R_elder' (Zr HO883.out) (Kd.R_base ho54) hb); replace HO886 := Aside0.mk (Kd.R_elder' (Zr HO886.out) (Kd.R_base ho54) hb); replace HO891 := Aside0.mk (Kd.R_elder' (Zr HO891.out) (Kd.R_base ho54) hb); replace HO893 := Aside0.mk (Kd.R_elder' (Zr HO893.out) (Kd.R_base ho54) hb); replace HO896 := Aside0.mk (Kd.R_elder' (Zr HO896.out) (Kd.R_base ho54) hb); replace HO900 := Aside0.mk (Kd.R_elder' (Zr HO900.out) (Kd.R_base ho54) hb); replace HB := Aside0.mk (Qao (Zb) hb); clear hb ho54; obtain ⟨Ao55, co55, eo55⟩ := Kd.R_slice HO891.out; subst eo55; obtain ⟨Ao56, co56, eo56⟩ := Kd.R_slice HO904.out; subst eo56) | (go_at_call 46; (with_reducible refine (Qad.calls k _ _ t887 _ _ y902 F _ ?side1 ?side2 ?side3 ?side4 A31.out).mono ?_); (case side1 => exact Zv (Kd.R_reads' HO891.out).2.2); (case side2 => exact (Kd.R_reads' HO891.out).2.1); (case side3 => exact Zv (Kd.R_reads' HO904.out).2.2); (case side4 => exact (Kd.R_reads' HO904.out).2.1); rintro e w' ⟨rfl, ⟨nd, rfl⟩⟩))
    go_ret
    exact ⟨Zq, Zb⟩
   rw [if_neg c30] at H
   have c30b0 : (t873 == 0) = F := beq_eq_false_iff_ne.mpr c30
   have c30b1 : (t873 != 0) = T := bne_iff_ne.mpr c30
   (try simp only [c30b0, c30b1])
   obtain rfl := Option.some.inj H
   go_wp2_with (first | ((with_reducible refine QaI (N := 29) rfl ?_); (try (refine QaQ (by rfl) ?_; dsimp only)); refine Kd.R_lit (Kd.int .i64) _ 3 ?hg (N := 29) ?hd (xs := ([300, 400] : List Int)) (inner := [.int .i64 300, .int .i64 400]) (ok := fun _ => True) (okp := fun _ => True) ?hr ?hp (fun _ hk => hk) trivial (Below.refl _ _) (Nat.le_refl _) (by simp) ?_; (case hd => rfl); (case hg => rfl); (case hr => first | (go_simp; done) | (go_simp; rfl)); (case hp => exact (Reps.one (show Kd.M (Kd.int .i64) _ _ _ 300 [.int .i64 300] from rfl) (Reps.one (show Kd.M (Kd.int .i64) _ _ _ 400 [.int .i64 400] from rfl) (Reps.none _ _)))); intro v895 w57 ho58 hb hg_ hnew_; clear hg_ hnew_; (first | rw [← Ny894.out] at ho58 | (simp only [Int.reduceToNat] at ho58; rw [← Ny894.out] at ho58)); have HO896 := Aside0.mk (Kd.R_lower (Kd.R_new' (Kd.R_new' (Kd.R_new' (Kd.R_new' (Kd.R_new' (Kd.R_new' (Kd.R_new' (Kd.R_new' ho58 (Kd.R_lt (Zr HO867.out))) (Kd.R_lt (Zr HO870.out))) (Kd.R_lt (Zr HO875.out))) (Kd.R_lt (Zr HO877.out))) (Kd.R_lt (Zr HO883.out))) (Kd.R_lt (Zr HO886.out))) (Kd.R_lt (Zr HO891.out))) (Kd.R_lt (Zr HO893.out))) (Qau (Zb))); replace HO861 := Aside0.mk (Kd.R_below (Zr HO861.out) hb); replace HO864 := Aside0.mk (Kd.R_below (Zr HO864.out) hb); replace HO867 := Aside0.mk (Kd.R_elder' (Zr HO867.out) (Kd.R_base ho58) hb); replace HO870 := Aside0.mk (Kd.R_elder' (Zr HO870.out) (Kd.R_base ho58) hb); replace HO875 := Aside0.mk (Kd.R_elder' (Zr HO875.out) (Kd.R_base ho58) hb); replace HO877 := Aside0.mk (Kd.R_elder' (Zr HO877.out) (Kd.R_base ho58) hb); replace HO880 := Aside0.mk (Kd.R_below (Zr HO880.out) hb); replace HO883 := Aside0.mk (Kd.R_elder' (Zr HO883.out) (Kd.R_base ho58) hb); replace HO886 := Aside0.mk (Kd.R_elder' (Zr HO886.out) (Kd.R_base ho58) hb); replace HO891 := Aside0.mk (Kd.R_elder' (Zr HO891.out) (Kd.R_base ho58) hb); replace HO893 := Aside0.mk (Kd.R_elder' (Zr HO893.out) (Kd.R_base ho58) hb); replace HB := Aside0.mk (Qao (Zb) hb); clear hb ho58; obtain ⟨Ao59, co59, eo59⟩ := Kd.R_slice HO875.out; subst eo59; obtain ⟨Ao60, co60, eo60⟩ := Kd.R_slice HO896.out; subst eo60) | ((with_reducible refine QaD (f := 46) rfl ?_); refine goesL_ (some 30) rfl rfl Try.func46 (by kernel_rfl) rfl #[.slice Ao59 t871.length co59, .slice Ao60 y894.length co60] rfl (Zl) ?_; (with_reducible refine (Qad.calls k _ _ t871 _ _ y894 T _ ?side1 ?side2 ?side3 ?side4 A26.out).mono ?_); (case side1 => exact Zv (Kd.R_reads' HO875.out).2.2); (case side2 => exact (Kd.R_reads' HO875.out).2.1); (case side3 => exact Zv (Kd.R_reads' HO896.out).2.2); (case side4 => exact (Kd.R_reads' HO896.out).2.1); rintro e w' ⟨rfl, ⟨nd, rfl⟩⟩; refine ⟨_, rfl, ?_⟩) | ((with_reducible refine QaI (N := 33) rfl ?_); (try (refine QaQ (by rfl) ?_; dsimp only)); refine Kd.R_lit (Kd.int .i64) _ 3 ?hg (N := 33) ?hd (xs := ([1000, (-1000)] : List Int)) (inner := [.int .i64 1000, .int .i64 (-1000)]) (ok := fun _ => True) (okp := fun _ => True) ?hr ?hp (fun _ hk => hk) trivial (Below.refl _ _) (Nat.le_refl _) (by simp) ?_; (case hd => rfl); (case hg => rfl); (case hr => first | (go_simp; done) | (go_simp; rfl)); (case hp => exact (Reps.one (show Kd.M (Kd.int .i64) _ _ _ 1000 [.int .i64 1000] from rfl) (Reps.one (show Kd.M (Kd.int .i64) _ _ _ (-1000) [.int .i64 (-1000)] from rfl) (Reps.none _ _)))); intro v899 w61 ho62 hb hg_ hnew_; clear hg_ hnew_; (first | rw [← Ny898.out] at ho62 | (simp only [Int.reduceToNat] at ho62; rw [← Ny898.out] at ho62)); have HO900 := Aside0.mk (Kd.R_lower (Kd.R_new' (Kd.R_new' (Kd.R_new' (Kd.R_new' (Kd.R_new' (Kd.R_new' (Kd.R_new' (Kd.R_new' (Kd.R_new' ho62 (Kd.R_lt (Zr HO867.out))) (Kd.R_lt (Zr HO870.out))) (Kd.R_lt (Zr HO875.out))) (Kd.R_lt (Zr HO877.out))) (Kd.R_lt (Zr HO883.out))) (Kd.R_lt (Zr HO886.out))) (Kd.R_lt (Zr HO891.out))) (Kd.R_lt (Zr HO893.out))) (Kd.R_lt (Zr HO896.out))) (Qau (Zb))); replace HO861 := Aside0.mk (Kd.R_below (Zr HO861.out) hb); replace HO864 := Aside0.mk (Kd.R_below (Zr HO864.out) hb); replace HO867 := Aside0.mk (Kd.R_elder' (Zr HO867.out) (Kd.R_base ho62) hb); replace HO870 := Aside0.mk (Kd.R_elder' (Zr HO870.out) (Kd.R_base ho62) hb); replace HO875 := Aside0.mk (Kd.R_elder' (Zr HO875.out) (Kd.R_base ho62) hb); replace HO877 := Aside0.mk (Kd.R_elder' (Zr HO877.out) (Kd.R_base ho62) hb); replace HO880 := Aside0.mk (Kd.R_below (Zr HO880.out) hb); replace HO883 := Aside0.mk (Kd.R_elder' (Zr HO883.out) (Kd.R_base ho62) hb); replace HO886 := Aside0.mk (Kd.R_elder' (Zr HO886.out) (Kd.R_base ho62) hb); replace HO891 := Aside0.mk (Kd.R_elder' (Zr HO891.out) (Kd.R_base ho62) hb); replace HO893 := Aside0.mk (Kd.R_elder' (Zr HO893.out) (Kd.R_base ho62) hb); replace HO896 := Aside0.mk (Kd.R_elder' (Zr HO896.out) (Kd.R_base ho62) hb); replace HB := Aside0.mk (Qao (Zb) hb); clear hb ho62; obtain ⟨Ao63, co63, eo63⟩ := Kd.R_slice HO877.out; subst eo63; obtain ⟨Ao64, co64, eo64⟩ := Kd.R_slice HO900.out; subst eo64) | (go_at_call 46; (with_reducible refine (Qad.calls k _ _ t872 _ _ y898 T _ ?side1 ?side2 ?side3 ?side4 A28.out).mono ?_); (case side1 => exact Zv (Kd.R_reads' HO877.out).2.2); (case side2 => exact (Kd.R_reads' HO877.out).2.1); (case side3 => exact Zv (Kd.R_reads' HO900.out).2.2); (case side4 => exact (Kd.R_reads' HO900.out).2.1); rintro e w' ⟨rfl, ⟨nd, rfl⟩⟩))
   go_ret
   exact ⟨Zq, Zb⟩
  replace c29 := Bool.eq_false_iff.mpr c29
  subst c29
  have H1 : (some F) = some r := by rw [if_neg (show ¬ (F = T) by decide)] at H; exact H
  clear H
  have H := H1
  clear H1
  obtain rfl := Option.some.inj H
  go_wp2_with (first | ((with_reducible refine QaI (N := 29) rfl ?_); (try (refine QaQ (by rfl) ?_; dsimp only)); refine Kd.R_lit (Kd.int .i64) _ 3 ?hg (N := 29) ?hd (xs := ([300, 400] : List Int)) (inner := [.int .i64 300, .int .i64 400]) (ok := fun _ => True) (okp := fun _ => True) ?hr ?hp (fun _ hk => hk) trivial (Below.refl _ _) (Nat.le_refl _) (by simp) ?_; (case hd => rfl); (case hg => rfl); (case hr => first | (go_simp; done) | (go_simp; rfl)); (case hp => exact (Reps.one (show Kd.M (Kd.int .i64) _ _ _ 300 [.int .i64 300] from rfl) (Reps.one (show Kd.M (Kd.int .i64) _ _ _ 400 [.int .i64 400] from rfl) (Reps.none _ _)))); intro v895 w65 ho66 hb hg_ hnew_; clear hg_ hnew_; (first | rw [← Ny894.out] at ho66 | (simp only [Int.reduceToNat] at ho66; rw [← Ny894.out] at ho66)); have HO896 := Aside0.mk (Kd.R_lower (Kd.R_new' (Kd.R_new' (Kd.R_new' (Kd.R_new' (Kd.R_new' (Kd.R_new' (Kd.R_new' (Kd.R_new' ho66 (Kd.R_lt (Zr HO867.out))) (Kd.R_lt (Zr HO870.out))) (Kd.R_lt (Zr HO875.out))) (Kd.R_lt (Zr HO877.out))) (Kd.R_lt (Zr HO883.out))) (Kd.R_lt (Zr HO886.out))) (Kd.R_lt (Zr HO891.out))) (Kd.R_lt (Zr HO893.out))) (Qau (Zb))); replace HO861 := Aside0.mk (Kd.R_below (Zr HO861.out) hb); replace HO864 := Aside0.mk (Kd.R_below (Zr HO864.out) hb); replace HO867 := Aside0.mk (Kd.R_elder' (Zr HO867.out) (Kd.R_base ho66) hb); replace HO870 := Aside0.mk (Kd.R_elder' (Zr HO870.out) (Kd.R_base ho66) hb); replace HO875 := Aside0.mk (Kd.R_elder' (Zr HO875.out) (Kd.R_base ho66) hb); replace HO877 := Aside0.mk (Kd.R_elder' (Zr HO877.out) (Kd.R_base ho66) hb); replace HO880 := Aside0.mk (Kd.R_below (Zr HO880.out) hb); replace HO883 := Aside0.mk (Kd.R_elder' (Zr HO883.out) (Kd.R_base ho66) hb); replace HO886 := Aside0.mk (Kd.R_elder' (Zr HO886.out) (Kd.R_base ho66) hb); replace HO891 := Aside0.mk (Kd.R_elder' (Zr HO891.out) (Kd.R_base ho66) hb); replace HO893 := Aside0.mk (Kd.R_elder' (Zr HO893.out) (Kd.R_base ho66) hb); replace HB := Aside0.mk (Qao (Zb) hb); clear hb ho66; obtain ⟨Ao67, co67, eo67⟩ := Kd.R_slice HO875.out; subst eo67; obtain ⟨Ao68, co68, eo68⟩ := Kd.R_slice HO896.out; subst eo68) | ((with_reducible refine QaD (f := 46) rfl ?_); refine goesL_ (some 30) rfl rfl Try.func46 (by kernel_rfl) rfl #[.slice Ao67 t871.length co67, .slice Ao68 y894.length co68] rfl (Zl) ?_; (with_reducible refine (Qad.calls k _ _ t871 _ _ y894 T _ ?side1 ?side2 ?side3 ?side4 A26.out).mono ?_); (case side1 => exact Zv (Kd.R_reads' HO875.out).2.2); (case side2 => exact (Kd.R_reads' HO875.out).2.1); (case side3 => exact Zv (Kd.R_reads' HO896.out).2.2); (case side4 => exact (Kd.R_reads' HO896.out).2.1); rintro e w' ⟨rfl, ⟨nd, rfl⟩⟩; refine ⟨_, rfl, ?_⟩) | ((with_reducible refine QaI (N := 33) rfl ?_); (try (refine QaQ (by rfl) ?_; dsimp only)); refine Kd.R_lit (Kd.int .i64) _ 3 ?hg (N := 33) ?hd (xs := ([1000, (-1000)] : List Int)) (inner := [.int .i64 1000, .int .i64 (-1000)]) (ok := fun _ => True) (okp := fun _ => True) ?hr ?hp (fun _ hk => hk) trivial (Below.refl _ _) (Nat.le_refl _) (by simp) ?_; (case hd => rfl); (case hg => rfl); (case hr => first | (go_simp; done) | (go_simp; rfl)); (case hp => exact (Reps.one (show Kd.M (Kd.int .i64) _ _ _ 1000 [.int .i64 1000] from rfl) (Reps.one (show Kd.M (Kd.int .i64) _ _ _ (-1000) [.int .i64 (-1000)] from rfl) (Reps.none _ _)))); intro v899 w69 ho70 hb hg_ hnew_; clear hg_ hnew_; (first | rw [← Ny898.out] at ho70 | (simp only [Int.reduceToNat] at ho70; rw [← Ny898.out] at ho70)); have HO900 := Aside0.mk (Kd.R_lower (Kd.R_new' (Kd.R_new' (Kd.R_new' (Kd.R_new' (Kd.R_new' (Kd.R_new' (Kd.R_new' (Kd.R_new' (Kd.R_new' ho70 (Kd.R_lt (Zr HO867.out))) (Kd.R_lt (Zr HO870.out))) (Kd.R_lt (Zr HO875.out))) (Kd.R_lt (Zr HO877.out))) (Kd.R_lt (Zr HO883.out))) (Kd.R_lt (Zr HO886.out))) (Kd.R_lt (Zr HO891.out))) (Kd.R_lt (Zr HO893.out))) (Kd.R_lt (Zr HO896.out))) (Qau (Zb))); replace HO861 := Aside0.mk (Kd.R_below (Zr HO861.out) hb); replace HO864 := Aside0.mk (Kd.R_below (Zr HO864.out) hb); replace HO867 := Aside0.mk (Kd.R_elder' (Zr HO867.out) (Kd.R_base ho70) hb); replace HO870 := Aside0.mk (Kd.R_elder' (Zr HO870.out) (Kd.R_base ho70) hb); replace HO875 := Aside0.mk (Kd.R_elder' (Zr HO875.out) (Kd.R_base ho70) hb); replace HO877 := Aside0.mk (Kd.R_elder' (Zr HO877.out) (Kd.R_base ho70) hb); replace HO880 := Aside0.mk (Kd.R_below (Zr HO880.out) hb); replace HO883 := Aside0.mk (Kd.R_elder' (Zr HO883.out) (Kd.R_base ho70) hb); replace HO886 := Aside0.mk (Kd.R_elder' (Zr HO886.out) (Kd.R_base ho70) hb); replace HO891 := Aside0.mk (Kd.R_elder' (Zr HO891.out) (Kd.R_base ho70) hb); replace HO893 := Aside0.mk (Kd.R_elder' (Zr HO893.out) (Kd.R_base ho70) hb); replace HO896 := Aside0.mk (Kd.R_elder' (Zr HO896.out) (Kd.R_base ho70) hb); replace HB := Aside0.mk (Qao (Zb) hb); clear hb ho70; obtain ⟨Ao71, co71, eo71⟩ := Kd.R_slice HO877.out; subst eo71; obtain ⟨Ao72, co72, eo72⟩ := Kd.R_slice HO900.out; subst eo72) | (go_at_call 46; (with_reducible refine (Qad.calls k _ _ t872 _ _ y898 F _ ?side1 ?side2 ?side3 ?side4 A28.out).mono ?_); (case side1 => exact Zv (Kd.R_reads' HO877.out).2.2); (case side2 => exact (Kd.R_reads' HO877.out).2.1); (case side3 => exact Zv (Kd.R_reads' HO900.out).2.2); (case side4 => exact (Kd.R_reads' HO900.out).2.1); rintro e w' ⟨rfl, ⟨nd, rfl⟩⟩))
  go_ret
  exact ⟨Zq, Zb⟩
 replace c27 := Bool.eq_false_iff.mpr c27
 subst c27
 have H1 : (some F) = some r := by rw [if_neg (show ¬ (F = T) by decide)] at H; exact H
 clear H
 have H := H1
 clear H1
 obtain rfl := Option.some.inj H
 go_wp2_with (first | ((with_reducible refine QaI (N := 29) rfl ?_); (try (refine QaQ (by rfl) ?_; dsimp only)); refine Kd.R_lit (Kd.int .i64) _ 3 ?hg (N := 29) ?hd (xs := ([300, 400] : List Int)) (inner := [.int .i64 300, .int .i64 400]) (ok := fun _ => True) (okp := fun _ => True) ?hr ?hp (fun _ hk => hk) trivial (Below.refl _ _) (Nat.le_refl _) (by simp) ?_; (case hd => rfl); (case hg => rfl); (case hr => first | (go_simp; done) | (go_simp; rfl)); (case hp => exact (Reps.one (show Kd.M (Kd.int .i64) _ _ _ 300 [.int .i64 300] from rfl) (Reps.one (show Kd.M (Kd.int .i64) _ _ _ 400 [.int .i64 400] from rfl) (Reps.none _ _)))); intro v895 w73 ho74 hb hg_ hnew_; clear hg_ hnew_; (first | rw [← Ny894.out] at ho74 | (simp only [Int.reduceToNat] at ho74; rw [← Ny894.out] at ho74)); have HO896 := Aside0.mk (Kd.R_lower (Kd.R_new' (Kd.R_new' (Kd.R_new' (Kd.R_new' (Kd.R_new' (Kd.R_new' (Kd.R_new' (Kd.R_new' ho74 (Kd.R_lt (Zr HO867.out))) (Kd.R_lt (Zr HO870.out))) (Kd.R_lt (Zr HO875.out))) (Kd.R_lt (Zr HO877.out))) (Kd.R_lt (Zr HO883.out))) (Kd.R_lt (Zr HO886.out))) (Kd.R_lt (Zr HO891.out))) (Kd.R_lt (Zr HO893.out))) (Qau (Zb))); replace HO861 := Aside0.mk (Kd.R_below (Zr HO861.out) hb); replace HO864 := Aside0.mk (Kd.R_below (Zr HO864.out) hb); replace HO867 := Aside0.mk (Kd.R_elder' (Zr HO867.out) (Kd.R_base ho74) hb); replace HO870 := Aside0.mk (Kd.R_elder' (Zr HO870.out) (Kd.R_base ho74) hb); replace HO875 := Aside0.mk (Kd.R_elder' (Zr HO875.out) (Kd.R_base ho74) hb); replace HO877 := Aside0.mk (Kd.R_elder' (Zr HO877.out) (Kd.R_base ho74) hb); replace HO880 := Aside0.mk (Kd.R_below (Zr HO880.out) hb); replace HO883 := Aside0.mk (Kd.R_elder' (Zr HO883.out) (Kd.R_base ho74) hb); replace HO886 := Aside0.mk (Kd.R_elder' (Zr HO886.out) (Kd.R_base ho74) hb); replace HO891 := Aside0.mk (Kd.R_elder' (Zr HO891.out) (Kd.R_base ho74) hb); replace HO893 := Aside0.mk (Kd.R_elder' (Zr HO893.out) (Kd.R_base ho74) hb); replace HB := Aside0.mk (Qao (Zb) hb); clear hb ho74; obtain ⟨Ao75, co75, eo75⟩ := Kd.R_slice HO875.out; subst eo75; obtain ⟨Ao76, co76, eo76⟩ := Kd.R_slice HO896.out; subst eo76) | ((with_reducible refine QaD (f := 46) rfl ?_); refine goesL_ (some 30) rfl rfl Try.func46 (by kernel_rfl) rfl #[.slice Ao75 t871.length co75, .slice Ao76 y894.length co76] rfl (Zl) ?_; (with_reducible refine (Qad.calls k _ _ t871 _ _ y894 F _ ?side1 ?side2 ?side3 ?side4 A26.out).mono ?_); (case side1 => exact Zv (Kd.R_reads' HO875.out).2.2); (case side2 => exact (Kd.R_reads' HO875.out).2.1); (case side3 => exact Zv (Kd.R_reads' HO896.out).2.2); (case side4 => exact (Kd.R_reads' HO896.out).2.1); rintro e w' ⟨rfl, ⟨nd, rfl⟩⟩; refine ⟨_, rfl, ?_⟩))
 go_ret
 exact ⟨Zq, Zb⟩
end Go.Proofs.Ytggbflplbblgbaa.Pr
