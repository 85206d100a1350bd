/- Functions' values and contracts, as the print wrote them. -/
import Derived.Test.YtfcaaefdmabkhaaQDA3P0
namespace Go.Proofs.Ytfcaaefdmabkhaa.Pr
open Bool renaming true → T
open Bool renaming false → F
open Go.RowKit Go.Proofs.YtfcaaefdmabkhaaW.PrintWords Go.Proofs.YtfcaaefdmabkhaaW.PrintLast Go.Proofs.YtfcaaefdmabkhaaW.PrintMore
attribute [local go_sem] QaQ QaS Qa1 Qa2 QaJ QaK QaR QaT   -- for this text's walks alone
set_option linter.unusedVariables false
set_option linter.unusedSimpArgs false
set_option maxRecDepth 100000
def Qbj.j0 : Nat → Int → Int → Bool → Option (Int × Int)
 | 0, _, _, _ => none
 | k + 1, x0, x1, x15 => if x15 = T then (some (0, 2)) else ((Qbw.f x0).bind fun t130 => ((Qbw.f x1).bind fun t131 => ((QbB.f t130 t131).bind fun bt132 => (if bt132.1 > 0 then (some (0, 3)) else ((Qbs.f bt132.2 (!((decide (x0 < 0)) == (decide (x1 < 0))))).bind fun bt134 => (some (bt134.1, bt134.2)))))))
def Qbj.f (k : Nat) (a0 : Int) (a1 : Int) : Option (Int × Int) := (QbC.f a0).bind fun t128 => (if t128 = T then ((QbC.f a1).bind fun t129 => (Qbj.j0 k a0 a1 (!t129))) else (Qbj.j0 k a0 a1 T))
theorem Qbj.mono_l : ∀ k, (∀ y0 y1 y2, LeO (Qbj.j0 k y0 y1 y2) (Qbj.j0 (k + 1) y0 y1 y2))
 | 0 => fun _ _ _ r h => by simp [Qbj.j0] at h
 | k + 1 => by
  have ih0 := Qbj.mono_l k
  intro y0 y1 y2
  unfold Qbj.j0
  exact ZM1 ih0
theorem Qbj.mono : ∀ a0 a1 k, LeO (Qbj.f k a0 a1) (Qbj.f (k + 1) a0 a1) := by
 intro a0 a1 k
 have ih0 := Qbj.mono_l k
 unfold Qbj.f
 exact ZM1 ih0
set_option maxHeartbeats 8000000 in
theorem Qbj.calls (k : Nat) (a0 : Int) (a1 : Int) (r1 : Int) (r2 : Int) (w : World) (h : Qbj.f k a0 a1 = some (r1, r2)) :
  Calls Try.prog 125 #[.int .i64 a0, .int .i64 a1] w fun e w' => e = .returned (.tuple #[.int .i64 r1, .int .i64 r2]) ∧ Drawn0 w w' := by
 have H : ((QbC.f a0).bind fun t128 => (if t128 = T then ((QbC.f a1).bind fun t129 => (Qbj.j0 k a0 a1 (!t129))) else (Qbj.j0 k a0 a1 T))) = some (r1, r2) := h
 clear h
 have HC3 := Aside0.mk H
 clear H
 go_enter Try.func125, Try.ntmps125
 go_upto_region 1 with (fail)
 go_cut [15] (fun v15 wc => ∃ (kq : Nat) (x15_2 : Bool), v15 = .bool x15_2 ∧ Aside0 (Qbj.j0 kq a0 a1 x15_2 = some (r1, r2)) ∧ Aside0 (kq ≤ k) ∧ Drawn0 w wc)
 case first =>
  have H := HC3.out
  clear HC3
  replace H := Option.bind_eq_some_iff.mp H
  obtain ⟨t128, A40, H⟩ := H
  replace H : (if t128 = T then ((QbC.f a1).bind fun t129 => (Qbj.j0 k a0 a1 (!t129))) else (Qbj.j0 k a0 a1 T)) = some (r1, r2) := H
  have A4 := Aside0.mk A40
  clear A40
  by_cases c5 : t128 = T
  ·subst c5
   have H1 : ((QbC.f a1).bind fun t129 => (Qbj.j0 k a0 a1 (!t129))) = some (r1, r2) := by rw [if_pos rfl] at H; exact H
   clear H
   have H := H1
   clear H1
   replace H := Option.bind_eq_some_iff.mp H
   obtain ⟨t129, A60, H⟩ := H
   replace H : (Qbj.j0 k a0 a1 (!t129)) = some (r1, r2) := H
   have A6 := Aside0.mk A60
   clear A60
   have H' := Aside0.mk H
   clear H
   go_wp2_with (first | ((with_reducible refine Qaw (f := 87) rfl ?_); refine goesL_ (some 9) rfl rfl Try.func87 (by kernel_rfl) rfl #[.int .i64 a0] rfl (Zl) ?_; (with_reducible refine (QbC.calls a0 T _ A4.out).mono ?_); rintro e w' ⟨rfl, ⟨nd, rfl⟩⟩; refine ⟨_, rfl, ?_⟩) | (go_at_call 87; (with_reducible refine (QbC.calls a1 t129 _ A6.out).mono ?_); rintro e w' ⟨rfl, ⟨nd, rfl⟩⟩))
   go_meet
   case rel => exact ⟨_, (!t129), (Zs), H', ⟨by first | omega | exact Nat.le_refl _⟩, Zd⟩
  replace c5 := Bool.eq_false_iff.mpr c5
  subst c5
  have H1 : (Qbj.j0 k a0 a1 T) = some (r1, r2) := by rw [if_neg (show ¬ (F = T) by decide)] at H; exact H
  clear H
  have H := H1
  clear H1
  have H' := Aside0.mk H
  clear H
  go_wp2_with (first | ((with_reducible refine Qaw (f := 87) rfl ?_); refine goesL_ (some 9) rfl rfl Try.func87 (by kernel_rfl) rfl #[.int .i64 a0] rfl (Zl) ?_; (with_reducible refine (QbC.calls a0 F _ A4.out).mono ?_); rintro e w' ⟨rfl, ⟨nd, rfl⟩⟩; refine ⟨_, rfl, ?_⟩))
  go_meet
  case rel => exact ⟨_, (T), (Zs), H', ⟨by first | omega | exact Nat.le_refl _⟩, Zd⟩
 case rest =>
  clear HC3
  try clear c1
  try clear p2
  try clear c5
  obtain ⟨kq, x15_2, rfl, HA, HJ2, ⟨mc2, rfl⟩⟩ := hcut
  cases kq with
  | zero => exact absurd HA.out (by simp [Qbj.j0])
  | succ kj2 =>
   have H := HA.out
   clear HA
   simp only [Qbj.j0] at H
   by_cases c7 : x15_2 = T
   ·subst c7
    have H1 : (some (0, 2)) = some (r1, r2) := by rw [if_pos rfl] at H; exact H
    clear H
    have H := H1
    clear H1
    simp only [Option.some.injEq, Prod.mk.injEq] at H
    obtain ⟨rfl, rfl⟩ := H
    go_wp2
    go_ret2
    exact ⟨Zs, Zd⟩
   replace c7 := Bool.eq_false_iff.mpr c7
   subst c7
   have H1 : ((Qbw.f a0).bind fun t130 => ((Qbw.f a1).bind fun t131 => ((QbB.f t130 t131).bind fun bt132 => (if bt132.1 > 0 then (some (0, 3)) else ((Qbs.f bt132.2 (!((decide (a0 < 0)) == (decide (a1 < 0))))).bind fun bt134 => (some (bt134.1, bt134.2))))))) = some (r1, r2) := by rw [if_neg (show ¬ (F = T) by decide)] at H; exact H
   clear H
   have H := H1
   clear H1
   replace H := Option.bind_eq_some_iff.mp H
   obtain ⟨t130, A80, H⟩ := H
   replace H : ((Qbw.f a1).bind fun t131 => ((QbB.f t130 t131).bind fun bt132 => (if bt132.1 > 0 then (some (0, 3)) else ((Qbs.f bt132.2 (!((decide (a0 < 0)) == (decide (a1 < 0))))).bind fun bt134 => (some (bt134.1, bt134.2)))))) = some (r1, r2) := H
   have A8 := Aside0.mk A80
   clear A80
   replace H := Option.bind_eq_some_iff.mp H
   obtain ⟨t131, A90, H⟩ := H
   replace H : ((QbB.f t130 t131).bind fun bt132 => (if bt132.1 > 0 then (some (0, 3)) else ((Qbs.f bt132.2 (!((decide (a0 < 0)) == (decide (a1 < 0))))).bind fun bt134 => (some (bt134.1, bt134.2))))) = some (r1, r2) := H
   have A9 := Aside0.mk A90
   clear A90
   replace H := Option.bind_eq_some_iff.mp H
   obtain ⟨⟨t132, t133⟩, A100, H⟩ := H
   replace H : (if t132 > 0 then (some (0, 3)) else ((Qbs.f t133 (!((decide (a0 < 0)) == (decide (a1 < 0))))).bind fun bt134 => (some (bt134.1, bt134.2)))) = some (r1, r2) := H
   have A10 := Aside0.mk A100
   clear A100
   go_upto_if 25 with (first | ((with_reducible refine Qaw (f := 89) rfl ?_); refine goesL_ (some 18) rfl rfl Try.func89 (by kernel_rfl) rfl #[.int .i64 a0] rfl (Zl) ?_; (with_reducible refine (Qbw.calls a0 t130 _ A8.out).mono ?_); rintro e w' ⟨rfl, ⟨nd, rfl⟩⟩; refine ⟨_, rfl, ?_⟩) | ((with_reducible refine Qaw (f := 89) rfl ?_); refine goesL_ (some 20) rfl rfl Try.func89 (by kernel_rfl) rfl #[.int .i64 a1] rfl (Zl) ?_; (with_reducible refine (Qbw.calls a1 t131 _ A9.out).mono ?_); rintro e w' ⟨rfl, ⟨nd, rfl⟩⟩; refine ⟨_, rfl, ?_⟩) | ((with_reducible refine Qaw (f := 88) rfl ?_); refine goesL_ (some 21) rfl rfl Try.func88 (by kernel_rfl) rfl #[.int .u64 t130, .int .u64 t131] rfl (Zl) ?_; (with_reducible refine (QbB.calls t130 t131 t132 t133 _ A10.out).mono ?_); rintro e w' ⟨rfl, ⟨nd, rfl⟩⟩; refine ⟨_, rfl, ?_⟩))
   (try simp only [Act.put, Zj, Zk, Zm])
   by_cases c11 : t132 > 0
   ·rw [if_pos c11] at H
    have c11b0 : decide (0 < t132) = T := decide_eq_true c11
    clear c11
    (try simp only [c11b0])
    simp only [Option.some.injEq, Prod.mk.injEq] at H
    obtain ⟨rfl, rfl⟩ := H
    go_wp2
    go_ret2
    exact ⟨Zs, Zd⟩
   rw [if_neg c11] at H
   have c11b0 : decide (0 < t132) = F := decide_eq_false c11
   clear c11
   (try simp only [c11b0])
   replace H := Option.bind_eq_some_iff.mp H
   obtain ⟨⟨t134, t135⟩, A120, H⟩ := H
   replace H : (some (t134, t135)) = some (r1, r2) := H
   have A12 := Aside0.mk A120
   clear A120
   simp only [Option.some.injEq, Prod.mk.injEq] at H
   obtain ⟨rfl, rfl⟩ := H
   go_wp2_with (first | ((with_reducible refine Qaw (f := 92) rfl ?_); refine goesL_ (some 32) rfl rfl Try.func92 (by kernel_rfl) rfl #[.int .u64 t133, .bool (!((decide (a0 < 0)) == (decide (a1 < 0))))] rfl (Zl) ?_; (with_reducible refine (Qbs.calls t133 (!((decide (a0 < 0)) == (decide (a1 < 0)))) t134 t135 _ A12.out).mono ?_); rintro e w' ⟨rfl, ⟨nd, rfl⟩⟩; refine ⟨_, rfl, ?_⟩))
   go_ret2
   exact ⟨Zs, Zd⟩
def QbK.f (k : Nat) (a0_0 : ByteArray) (a0_1 : Int) (a0_2 : Int) (a0_3 : Int) (a0_4 : Int) (a0_5 : Int) (a1 : Int) : Option (Int × Int) := (QaY.f k a0_0 a0_1 a0_2 a0_3 a0_4 a0_5).bind fun t137 => (if t137 = 0 then ((QbY.f a1).bind fun t138 => (if t138 = T then ((Qbj.f k a1 a0_3).bind fun bt139 => (some (bt139.1, bt139.2))) else (some (0, 18)))) else (some (0, t137)))
theorem QbK.mono : ∀ a0 a1 a2 a3 a4 a5 a6 k, LeO (QbK.f k a0 a1 a2 a3 a4 a5 a6) (QbK.f (k + 1) a0 a1 a2 a3 a4 a5 a6) := by
 intro a0 a1 a2 a3 a4 a5 a6 k
 unfold QbK.f
 exact ZM2 QaY.mono Qbj.mono
set_option maxHeartbeats 8000000 in
theorem QbK.calls (k : Nat) (a0_0 : ByteArray) (a0_1 : Int) (a0_2 : Int) (a0_3 : Int) (a0_4 : Int) (a0_5 : Int) (a1 : Int) (r1 : Int) (r2 : Int) (w : World) (h : QbK.f k a0_0 a0_1 a0_2 a0_3 a0_4 a0_5 a1 = some (r1, r2)) :
  Calls Try.prog 114 #[.agg #[.string a0_0, .int .i64 a0_1, .int .i64 a0_2, .int .i64 a0_3, .int .i64 a0_4, .int .i64 a0_5], .int .i64 a1] w fun e w' => e = .returned (.tuple #[.int .i64 r1, .int .i64 r2]) ∧ Below w.heap.size w w' := by
 have hu84 := Try.underlying84
 have HB := Aside0.mk (Below.refl w.heap.size w)
 have H : ((QaY.f k a0_0 a0_1 a0_2 a0_3 a0_4 a0_5).bind fun t137 => (if t137 = 0 then ((QbY.f a1).bind fun t138 => (if t138 = T then ((Qbj.f k a1 a0_3).bind fun bt139 => (some (bt139.1, bt139.2))) else (some (0, 18)))) else (some (0, t137)))) = some (r1, r2) := h
 clear h
 replace H := Option.bind_eq_some_iff.mp H
 obtain ⟨t137, A30, H⟩ := H
 replace H : (if t137 = 0 then ((QbY.f a1).bind fun t138 => (if t138 = T then ((Qbj.f k a1 a0_3).bind fun bt139 => (some (bt139.1, bt139.2))) else (some (0, 18)))) else (some (0, t137))) = some (r1, r2) := H
 have A3 := Aside0.mk A30
 clear A30
 go_enter Try.func114, Try.ntmps114
 go_upto_if 10 with (first | ((with_reducible refine QaL (N := 2) rfl ?_); refine Zbx (N := 2) (cs := #[.string a0_0, .int .i64 a0_1, .int .i64 a0_2, .int .i64 a0_3, .int .i64 a0_4, .int .i64 a0_5]) (t := 84) ?_; intro gb136 hg w4 hbox hb; have BK136 := Aside0.mk (hbox); have GW136 := Aside0.mk (Zt w hg (Zb)); have GE136 := GW136; replace HB := Aside0.mk (Qan (Zb) hb); clear hb hbox hg; obtain ⟨hcz5_0, hfz5_0⟩ := Zy (v := (.string a0_0)) BK136.out 0; obtain ⟨hcz5_1, hfz5_1⟩ := Zy (v := (.int .i64 a0_1)) BK136.out 1; obtain ⟨hcz5_2, hfz5_2⟩ := Zy (v := (.int .i64 a0_2)) BK136.out 2; obtain ⟨hcz5_3, hfz5_3⟩ := Zy (v := (.int .i64 a0_3)) BK136.out 3; obtain ⟨hcz5_4, hfz5_4⟩ := Zy (v := (.int .i64 a0_4)) BK136.out 4; obtain ⟨hcz5_5, hfz5_5⟩ := Zy (v := (.int .i64 a0_5)) BK136.out 5) | ((with_reducible refine Qaw (f := 78) rfl ?_); refine goesL_ (some 8) rfl rfl Try.func78 (by kernel_rfl) rfl #[.agg #[.string a0_0, .int .i64 a0_1, .int .i64 a0_2, .int .i64 a0_3, .int .i64 a0_4, .int .i64 a0_5]] rfl (Zl) ?_; (with_reducible refine (QaY.calls k a0_0 a0_1 a0_2 a0_3 a0_4 a0_5 t137 _ A3.out).mono ?_); rintro e w6 ⟨rfl, hb⟩; refine ⟨_, rfl, ?_⟩; replace BK136 := Aside0.mk (Zi BK136.out hb); replace HB := Aside0.mk (Qan (Zc1 GE136.out) hb); (try clear hb); (try clear hb2); (try clear hk); (try clear hi)))
 (try simp only [Act.put, Zj, Zk, Zm])
 by_cases c7 : t137 = 0
 ·rw [if_pos c7] at H
  have c7b0 : (t137 == 0) = T := beq_iff_eq.mpr c7
  have c7b1 : (t137 != 0) = F := bne_eq_false_iff_eq.mpr c7
  clear c7
  (try simp only [c7b0, c7b1])
  replace H := Option.bind_eq_some_iff.mp H
  obtain ⟨t138, A80, H⟩ := H
  replace H : (if t138 = T then ((Qbj.f k a1 a0_3).bind fun bt139 => (some (bt139.1, bt139.2))) else (some (0, 18))) = some (r1, r2) := H
  have A8 := Aside0.mk A80
  clear A80
  go_upto_if 14 with (first | ((with_reducible refine Qaw (f := 80) rfl ?_); refine goesL_ (some 13) rfl rfl Try.func80 (by kernel_rfl) rfl #[.int .i64 a1] rfl (Zl) ?_; (with_reducible refine (QbY.calls a1 t138 _ A8.out).mono ?_); rintro e w' ⟨rfl, ⟨nd, rfl⟩⟩; refine ⟨_, rfl, ?_⟩))
  (try simp only [Act.put, Zj, Zk, Zm])
  by_cases c9 : t138 = T
  ·subst c9
   have H1 : ((Qbj.f k a1 a0_3).bind fun bt139 => (some (bt139.1, bt139.2))) = some (r1, r2) := by rw [if_pos rfl] at H; exact H
   clear H
   have H := H1
   clear H1
   replace H := Option.bind_eq_some_iff.mp H
   obtain ⟨⟨t139, t140⟩, A100, H⟩ := H
   replace H : (some (t139, t140)) = some (r1, r2) := H
   have A10 := Aside0.mk A100
   clear A100
   simp only [Option.some.injEq, Prod.mk.injEq] at H
   obtain ⟨rfl, rfl⟩ := H
   obtain ⟨hcz11_0, hfz11_0⟩ := Zy (v := (.string a0_0)) BK136.out 0
   obtain ⟨hcz11_1, hfz11_1⟩ := Zy (v := (.int .i64 a0_1)) BK136.out 1
   obtain ⟨hcz11_2, hfz11_2⟩ := Zy (v := (.int .i64 a0_2)) BK136.out 2
   obtain ⟨hcz11_3, hfz11_3⟩ := Zy (v := (.int .i64 a0_3)) BK136.out 3
   obtain ⟨hcz11_4, hfz11_4⟩ := Zy (v := (.int .i64 a0_4)) BK136.out 4
   obtain ⟨hcz11_5, hfz11_5⟩ := Zy (v := (.int .i64 a0_5)) BK136.out 5
   go_wp2_with (first | ((with_reducible refine Qaw (f := 125) rfl ?_); refine goesL_ (some 18) rfl rfl Try.func125 (by kernel_rfl) rfl #[.int .i64 a1, .int .i64 a0_3] rfl (Zl) ?_; (with_reducible refine (Qbj.calls k a1 a0_3 t139 t140 _ A10.out).mono ?_); rintro e w' ⟨rfl, ⟨nd, rfl⟩⟩; refine ⟨_, rfl, ?_⟩))
   go_ret2
   exact ⟨Zq, Zc1 GE136.out⟩
  replace c9 := Bool.eq_false_iff.mpr c9
  subst c9
  have H1 : (some (0, 18)) = some (r1, r2) := by rw [if_neg (show ¬ (F = T) by decide)] at H; exact H
  clear H
  have H := H1
  clear H1
  simp only [Option.some.injEq, Prod.mk.injEq] at H
  obtain ⟨rfl, rfl⟩ := H
  go_wp2
  go_ret2
  exact ⟨Zq, Zc1 GE136.out⟩
 rw [if_neg c7] at H
 have c7b0 : (t137 == 0) = F := beq_eq_false_iff_ne.mpr c7
 have c7b1 : (t137 != 0) = T := bne_iff_ne.mpr c7
 (try simp only [c7b0, c7b1])
 simp only [Option.some.injEq, Prod.mk.injEq] at H
 obtain ⟨rfl, rfl⟩ := H
 go_wp2
 go_ret2
 exact ⟨Zq, Zc1 GE136.out⟩
def Qca.f (s a0 : ByteArray) : Option Bool := some (decide (a0.toList = s.toList))
set_option maxHeartbeats 1000000 in
theorem Qca.calls (D : Addr) (s : ByteArray) (a0_0 : ByteArray) (a0_1 : Int) (r : Bool) (w : World) (hd : w.cell? D = some (.string s)) (h : Qca.f s a0_0 = some r) :
  Calls Try.prog 124 #[.agg #[.string a0_0, .int .i64 a0_1], .pointer (some D)] w fun e w' => e = .returned (.bool r) ∧ Below w.heap.size w w' := by
 have hu87 := Try.underlying98
 have hd1 := hd
 have ld : D.block < w.heap.size := World.block_lt_of_cell? _ _ (by rw [hd])
 have H := Aside0.mk (Option.some.inj h)
 clear h
 by_cases c : a0_0.toList = s.toList
 all_goals
  go_enter Try.func124, Try.ntmps124
  go_wp2
  go_ret
  refine ⟨congrArg Ending.returned (congrArg Value.bool ?_), by repeat (first | exact Below.refl _ _ | apply Qaf | apply Qae | apply Qb6)⟩
  rw [← H.out]
  simp [c]
def Qbm.l0 : Nat → List (S98) → ByteArray → Int → Int → Option (Int)
 | 0, _, _, _, _ => none
 | k + 1, x0, s, x7, x8 => if x8 < x7 then (if 0 ≤ x8 then (if x8 < (x0.length : Int) then ((Qca.f s ((rd_T98 x0 x8).f0)).bind fun t109 => (if t109 = T then (some x8) else (Qbm.l0 k x0 s x7 (wrap64 (x8 + 1))))) else (none)) else (none)) else (some (-1))
def Qbm.f (k : Nat) (l0 : List (S98)) (s : ByteArray) : Option (Int) := Qbm.l0 k l0 s (l0.length : Int) 0
theorem Qbm.mono_l : ∀ k, (∀ y0 y1 y2 y3, LeO (Qbm.l0 k y0 y1 y2 y3) (Qbm.l0 (k + 1) y0 y1 y2 y3))
 | 0 => fun _ _ _ _ r h => by simp [Qbm.l0] at h
 | k + 1 => by
  have ih0 := Qbm.mono_l k
  intro y0 y1 y2 y3
  unfold Qbm.l0
  exact ZM1 ih0
theorem Qbm.mono : ∀ a0 a1 k, LeO (Qbm.f k a0 a1) (Qbm.f (k + 1) a0 a1) := by
 intro a0 a1 k
 have ih0 := Qbm.mono_l k
 unfold Qbm.f
 exact ZM1 ih0
set_option maxHeartbeats 8000000 in
theorem Qbm.calls (k : Nat) (D : Addr) (s : ByteArray) (A0 : Option Addr) (c0 : Nat) (l0 : List (S98)) (r : Int) (w : World) (hD : Aside0 (w.cell? D = some (.string s))) (hr0 : Kd.C k98 w A0 l0.length l0) (hc0 : l0.length ≤ c0) (h : Qbm.f k l0 s = some r) :
  Calls Try.prog 123 #[.slice A0 l0.length c0, .func (.func 124) #[] #[.pointer (some D)]] w fun e w' => e = .returned (.int .i64 r) ∧ Below w.heap.size w w' := by
 have hu87 := Try.underlying98
 have HR0 := Aside0.mk hr0
 have HC0 := Aside0.mk hc0
 clear hr0 hc0
 have HB := Aside0.mk (Below.refl w.heap.size w)
 have H : (Qbm.l0 k l0 s (l0.length : Int) 0) = some r := h
 clear h
 have H' := Aside0.mk H
 clear H
 go_enter Try.func123, Try.ntmps123
 go_wp2
 go_loopg [8] k (fun kq v8 w' => ∃ (x8_1 : Int), v8 = .int .i64 x8_1 ∧ Aside0 (Qbm.l0 kq l0 s (l0.length : Int) x8_1 = some r) ∧ Aside0 (kq ≤ k) ∧ Aside0 (Below w.heap.size w w'))
 case atStart => exact ⟨(0), (Zs), H', ⟨Nat.le_refl _⟩, ⟨Zb⟩⟩
 case round =>
  clear H'
  try clear p2
  obtain ⟨x8_1, rfl, HA, HK1, HB⟩ := hrel
  cases gk with
  | zero => exact absurd HA.out (by simp [Qbm.l0])
  | succ k1 =>
   have H := HA.out
   clear HA
   simp only [Qbm.l0] at H
   by_cases c3 : x8_1 < (l0.length : Int)
   ·rw [if_pos c3] at H
    have c3b0 : decide (x8_1 < (l0.length : Int)) = T := decide_eq_true c3
    clear c3
    by_cases c4 : 0 ≤ x8_1
    ·rw [if_pos c4] at H
     have c4b0 : decide (0 ≤ x8_1) = T := decide_eq_true c4
     clear c4
     by_cases c5 : x8_1 < (l0.length : Int)
     ·rw [if_pos c5] at H
      have c5b0 : decide (x8_1 < (l0.length : Int)) = T := decide_eq_true c5
      clear c5
      replace H := Option.bind_eq_some_iff.mp H
      obtain ⟨t109, A60, H⟩ := H
      replace H : (if t109 = T then (some x8_1) else (Qbm.l0 k1 l0 s (l0.length : Int) (wrap64 (x8_1 + 1)))) = some r := H
      have A6 := Aside0.mk A60
      clear A60
      by_cases c7 : t109 = T
      ·subst c7
       have H1 : (some x8_1) = some r := by rw [if_pos rfl] at H; exact H
       clear H
       have H := H1
       clear H1
       obtain rfl := Option.some.inj H
       have p108 : 0 ≤ (x8_1 : Int) := Ze
       have q108 : x8_1 < (l0.length : Int) := Ze
       obtain ⟨ad108, e108, hx108_0, hx108_1⟩ := at_T98 HR0.out x8_1 p108 q108
       cases e108
       replace hx108_0 := Zx HB.out hx108_0
       replace hx108_1 := Zx HB.out hx108_1
       replace p108 := eq_true p108
       replace q108 := eq_true q108
       go_wp2_with (first | (go_at_call 124; refine (Qca.calls D s ((rd_T98 l0 x8_1).f0) ((rd_T98 l0 x8_1).f1) T _ ((HB.out.cell (World.block_lt_of_cell? w _ hD.out)).trans hD.out) A6.out).mono ?_; rintro e w8 ⟨rfl, hb⟩; replace HB := Aside0.mk (Qan (Zb) hb); (try clear hb); (try clear hb2); (try clear hk); (try clear hi)))
       go_ret
       exact ⟨Zq, Zb⟩
      replace c7 := Bool.eq_false_iff.mpr c7
      subst c7
      have H1 : (Qbm.l0 k1 l0 s (l0.length : Int) (wrap64 (x8_1 + 1))) = some r := by rw [if_neg (show ¬ (F = T) by decide)] at H; exact H
      clear H
      have H := H1
      clear H1
      have H' := Aside0.mk H
      clear H
      have p108 : 0 ≤ (x8_1 : Int) := Ze
      have q108 : x8_1 < (l0.length : Int) := Ze
      obtain ⟨ad108, e108, hx108_0, hx108_1⟩ := at_T98 HR0.out x8_1 p108 q108
      cases e108
      replace hx108_0 := Zx HB.out hx108_0
      replace hx108_1 := Zx HB.out hx108_1
      replace p108 := eq_true p108
      replace q108 := eq_true q108
      go_wp2_with (first | (go_at_call 124; refine (Qca.calls D s ((rd_T98 l0 x8_1).f0) ((rd_T98 l0 x8_1).f1) F _ ((HB.out.cell (World.block_lt_of_cell? w _ hD.out)).trans hD.out) A6.out).mono ?_; rintro e w9 ⟨rfl, hb⟩; replace HB := Aside0.mk (Qan (Zb) hb); (try clear hb); (try clear hb2); (try clear hk); (try clear hi)))
      go_roundg k1
      case measure => have := HK1.out; omega
      case rel => exact ⟨(wrap64 (x8_1 + 1)), (Zs), H', ⟨by have := HK1.out; omega⟩, ⟨Zb⟩⟩
     rw [if_neg c5] at H
     exact absurd H (by simp)
    rw [if_neg c4] at H
    exact absurd H (by simp)
   rw [if_neg c3] at H
   have c3b0 : decide (x8_1 < (l0.length : Int)) = F := decide_eq_false c3
   clear c3
   obtain rfl := Option.some.inj H
   go_wp2
   go_ret
   exact ⟨Zq, Zb⟩
def QbN.f (k : Nat) (l0 : List S98) (a1 : ByteArray) : Option (Int × Bool) := (Qbm.f k l0 a1).bind fun t => some (mx t 0, decide (t ≥ 0))
theorem QbN.mono : ∀ a0 a1 k, LeO (QbN.f k a0 a1) (QbN.f (k + 1) a0 a1) := by
 intro a0 a1 k
 unfold QbN.f
 exact LeO.bind (Qbm.mono _ _ _) (fun _ => LeO.refl _)
set_option maxHeartbeats 8000000 in
theorem QbN.calls (k : Nat) (A0 : Option Addr) (c0 : Nat) (l0 : List S98) (a1 : ByteArray) (r1 : Int) (r2 : Bool) (w : World) (hr0 : Kd.C k98 w A0 l0.length l0) (hc0 : l0.length ≤ c0) (h : QbN.f k l0 a1 = some (r1, r2)) :
  Calls Try.prog 112 #[.slice A0 l0.length c0, .string a1] w fun e w' => e = .returned (.tuple #[.int .i64 r1, .bool r2]) ∧ Below w.heap.size w w' := by
 have HR := Aside0.mk hr0
 have HC := Aside0.mk hc0
 clear hr0 hc0
 obtain ⟨t, ht, h⟩ := Option.bind_eq_some_iff.1 h
 have HT := Aside0.mk ht
 clear ht
 simp only [Option.some.injEq, Prod.mk.injEq] at h
 obtain ⟨rfl, rfl⟩ := h
 go_enter Try.func112, Try.ntmps112
 go_wp2_with fail
 refine (Qbm.calls k ⟨w.heap.size, 0, none⟩ a1 A0 c0 l0 t _ ⟨?_⟩ (Kd.C_below HR.out ?_) HC.out HT.out).mono ?_
 ·go_simp
 ·repeat (first | exact Below.refl _ _ | apply Qaf)
 rintro e w1 ⟨rfl, hb⟩
 have HB := Aside0.mk ((Qaf (Below.refl w.heap.size w) (.cells #[.string a1] 9 (0, 0))).trans (hb.mono (by simp)))
 clear hb
 by_cases ht0 : t < 0
 ·go_wp2
  go_ret2
  refine ⟨?_, by repeat (first | exact HB.out | apply Qaf | apply Qae | apply Qb6)⟩
  have h1 : mx t 0 = 0 := by unfold mx; rw [if_pos ht0]
  have h2 : ¬ t ≥ 0 := by omega
  simp [h1, h2]
 have ht1 : 0 ≤ t := by omega
 have h1 : mx t 0 = t := by unfold mx; rw [if_neg ht0]
 have h2 : t ≥ 0 := by omega
 go_wp2
 go_ret2
 refine ⟨?_, by repeat (first | exact HB.out | apply Qaf | apply Qae | apply Qb6)⟩
 simp [h1, h2]
def QbH.f (k : Nat) (a0_0 : ByteArray) (a0_1 : Int) : Option (Bool) := (QaN.f k a0_0).bind fun t143 => (some (!t143))
theorem QbH.mono : ∀ a0 a1 k, LeO (QbH.f k a0 a1) (QbH.f (k + 1) a0 a1) := by
 intro a0 a1 k
 unfold QbH.f
 exact ZM1 QaN.mono
set_option maxHeartbeats 8000000 in
theorem QbH.calls (k : Nat) (a0_0 : ByteArray) (a0_1 : Int) (r : Bool) (w : World) (h : QbH.f k a0_0 a0_1 = some r) :
  Calls Try.prog 111 #[.agg #[.string a0_0, .int .i64 a0_1]] w fun e w' => e = .returned (.bool r) ∧ Below w.heap.size w w' := by
 have hu98 := Try.underlying98
 have HB := Aside0.mk (Below.refl w.heap.size w)
 have H : ((QaN.f k a0_0).bind fun t143 => (some (!t143))) = some r := h
 clear h
 replace H := Option.bind_eq_some_iff.mp H
 obtain ⟨t143, A20, H⟩ := H
 replace H : (some (!t143)) = some r := H
 have A2 := Aside0.mk A20
 clear A20
 obtain rfl := Option.some.inj H
 go_enter Try.func111, Try.ntmps111
 go_wp2_with (first | ((with_reducible refine QaL (N := 1) rfl ?_); refine Zbx (N := 1) (cs := #[.string a0_0, .int .i64 a0_1]) (t := 98) ?_; intro gb142 hg w3 hbox hb; have BK142 := Aside0.mk (hbox); have GW142 := Aside0.mk (Zt w hg (Zb)); have GE142 := GW142; replace HB := Aside0.mk (Qan (Zb) hb); clear hb hbox hg; obtain ⟨hcz4_0, hfz4_0⟩ := Zy (v := (.string a0_0)) BK142.out 0; obtain ⟨hcz4_1, hfz4_1⟩ := Zy (v := (.int .i64 a0_1)) BK142.out 1) | ((with_reducible refine Qaw (f := 108) rfl ?_); refine goesL_ (some 5) rfl rfl Try.func108 (by kernel_rfl) rfl #[.string a0_0] rfl (Zl) ?_; (with_reducible refine (QaN.calls k a0_0 t143 _ A2.out).mono ?_); rintro e w' ⟨rfl, ⟨nd, rfl⟩⟩; refine ⟨_, rfl, ?_⟩))
 go_ret
 exact ⟨Zq, Zc1 GE142.out⟩
def Qas.l0 : Nat → List (S98) → Int → Int → Option (Int)
 | 0, _, _, _ => none
 | k + 1, x0, x7, x8 => if x8 < x7 then (if 0 ≤ x8 then (if x8 < (x0.length : Int) then ((QbH.f k ((rd_T98 x0 x8).f0) ((rd_T98 x0 x8).f1)).bind fun t145 => (if t145 = T then (some x8) else (Qas.l0 k x0 x7 (wrap64 (x8 + 1))))) else (none)) else (none)) else (some (-1))
def Qas.f (k : Nat) (l0 : List (S98))  : Option (Int) := Qas.l0 k l0 (l0.length : Int) 0
theorem Qas.mono_l : ∀ k, (∀ y0 y1 y2, LeO (Qas.l0 k y0 y1 y2) (Qas.l0 (k + 1) y0 y1 y2))
 | 0 => fun _ _ _ r h => by simp [Qas.l0] at h
 | k + 1 => by
  have ih0 := Qas.mono_l k
  intro y0 y1 y2
  unfold Qas.l0
  exact ZM2 ih0 QbH.mono
theorem Qas.mono : ∀ a0 k, LeO (Qas.f k a0) (Qas.f (k + 1) a0) := by
 intro a0 k
 have ih0 := Qas.mono_l k
 unfold Qas.f
 exact ZM2 ih0 QbH.mono
set_option maxHeartbeats 8000000 in
theorem Qas.calls (k : Nat) (A0 : Option Addr) (c0 : Nat) (l0 : List (S98))  (r : Int) (w : World) (hr0 : Kd.C k98 w A0 l0.length l0) (hc0 : l0.length ≤ c0) (h : Qas.f k l0 = some r) :
  Calls Try.prog 123 #[.slice A0 l0.length c0, .func (.func 111) #[] #[]] w fun e w' => e = .returned (.int .i64 r) ∧ Below w.heap.size w w' := by
 have hu98 := Try.underlying98
 have HR0 := Aside0.mk hr0
 have HC0 := Aside0.mk hc0
 clear hr0 hc0
 have HB := Aside0.mk (Below.refl w.heap.size w)
 have H : (Qas.l0 k l0 (l0.length : Int) 0) = some r := h
 clear h
 have H' := Aside0.mk H
 clear H
 go_enter Try.func123, Try.ntmps123
 go_wp2
 go_loopg [8] k (fun kq v8 w' => ∃ (x8_1 : Int), v8 = .int .i64 x8_1 ∧ Aside0 (Qas.l0 kq l0 (l0.length : Int) x8_1 = some r) ∧ Aside0 (kq ≤ k) ∧ Aside0 (Below w.heap.size w w'))
 case atStart => exact ⟨(0), (Zs), H', ⟨Nat.le_refl _⟩, ⟨Zb⟩⟩
 case round =>
  clear H'
  try clear p2
  obtain ⟨x8_1, rfl, HA, HK1, HB⟩ := hrel
  cases gk with
  | zero => exact absurd HA.out (by simp [Qas.l0])
  | succ k1 =>
   have H := HA.out
   clear HA
   simp only [Qas.l0] at H
   by_cases c3 : x8_1 < (l0.length : Int)
   ·rw [if_pos c3] at H
    have c3b0 : decide (x8_1 < (l0.length : Int)) = T := decide_eq_true c3
    clear c3
    (try simp only [c3b0])
    by_cases c4 : 0 ≤ x8_1
    ·rw [if_pos c4] at H
     have c4b0 : decide (0 ≤ x8_1) = T := decide_eq_true c4
     clear c4
     by_cases c5 : x8_1 < (l0.length : Int)
     ·rw [if_pos c5] at H
      have c5b0 : decide (x8_1 < (l0.length : Int)) = T := decide_eq_true c5
      clear c5
      replace H := Option.bind_eq_some_iff.mp H
      obtain ⟨t145, A60, H⟩ := H
      replace H : (if t145 = T then (some x8_1) else (Qas.l0 k1 l0 (l0.length : Int) (wrap64 (x8_1 + 1)))) = some r := H
      have A6 := Aside0.mk A60
      clear A60
      have p144 : 0 ≤ (x8_1 : Int) := Ze
      have q144 : x8_1 < (l0.length : Int) := Ze
      obtain ⟨ad144, e144, hx144_0, hx144_1⟩ := at_T98 HR0.out x8_1 p144 q144
      cases e144
      replace hx144_0 := Zx HB.out hx144_0
      replace hx144_1 := Zx HB.out hx144_1
      replace p144 := eq_true p144
      replace q144 := eq_true q144
      go_upto_if 16 with (first | (go_at_call 111; (with_reducible refine (QbH.calls k1 ((rd_T98 l0 x8_1).f0) ((rd_T98 l0 x8_1).f1) t145 _ A6.out).mono ?_); rintro e w7 ⟨rfl, hb⟩; replace HB := Aside0.mk (Qan (Zb) hb); (try clear hb); (try clear hb2); (try clear hk); (try clear hi)))
      (try simp only [Act.put, Zj, Zk, Zm])
      by_cases c8 : t145 = T
      ·subst c8
       have H1 : (some x8_1) = some r := by rw [if_pos rfl] at H; exact H
       clear H
       have H := H1
       clear H1
       obtain rfl := Option.some.inj H
       go_wp2
       go_ret
       exact ⟨Zq, Zb⟩
      replace c8 := Bool.eq_false_iff.mpr c8
      subst c8
      have H1 : (Qas.l0 k1 l0 (l0.length : Int) (wrap64 (x8_1 + 1))) = some r := by rw [if_neg (show ¬ (F = T) by decide)] at H; exact H
      clear H
      have H := H1
      clear H1
      have H' := Aside0.mk H
      clear H
      go_wp2
      go_roundg k1
      case measure => have := HK1.out; omega
      case rel => exact ⟨(wrap64 (x8_1 + 1)), (Zs), H', ⟨by have := HK1.out; omega⟩, ⟨Zb⟩⟩
     rw [if_neg c5] at H
     exact absurd H (by simp)
    rw [if_neg c4] at H
    exact absurd H (by simp)
   rw [if_neg c3] at H
   have c3b0 : decide (x8_1 < (l0.length : Int)) = F := decide_eq_false c3
   clear c3
   (try simp only [c3b0])
   obtain rfl := Option.some.inj H
   go_wp2
   go_ret
   exact ⟨Zq, Zb⟩
def QaE.f (k : Nat) (l0 : List (S98))  : Option (Bool) := (Qas.f k l0).bind fun t146 => (some (decide (t146 ≥ 0)))
theorem QaE.mono : ∀ a0 k, LeO (QaE.f k a0) (QaE.f (k + 1) a0) := by
 intro a0 k
 unfold QaE.f
 exact ZM1 Qas.mono
set_option maxHeartbeats 8000000 in
theorem QaE.calls (k : Nat) (A0 : Option Addr) (c0 : Nat) (l0 : List (S98))  (r : Bool) (w : World) (hr0 : Kd.C k98 w A0 l0.length l0) (hc0 : l0.length ≤ c0) (h : QaE.f k l0 = some r) :
  Calls Try.prog 110 #[.slice A0 l0.length c0, .func (.func 111) #[] #[]] w fun e w' => e = .returned (.bool r) ∧ Below w.heap.size w w' := by
 have HR0 := Aside0.mk hr0
 have HC0 := Aside0.mk hc0
 clear hr0 hc0
 have HB := Aside0.mk (Below.refl w.heap.size w)
 have H : ((Qas.f k l0).bind fun t146 => (some (decide (t146 ≥ 0)))) = some r := h
 clear h
 replace H := Option.bind_eq_some_iff.mp H
 obtain ⟨t146, A30, H⟩ := H
 replace H : (some (decide (t146 ≥ 0))) = some r := H
 have A3 := Aside0.mk A30
 clear A30
 obtain rfl := Option.some.inj H
 go_enter Try.func110, Try.ntmps110
 go_wp2_with (first | ((with_reducible refine Qaw (f := 123) rfl ?_); refine goesL_ (some 7) rfl rfl Try.func123 (by kernel_rfl) rfl #[.slice A0 l0.length c0, .func (.func 111) #[] #[]] rfl (Zl) ?_; (with_reducible refine (Qas.calls k _ _ l0  t146 _ ?side1 ?side2 A3.out).mono ?_); (case side1 => exact Zv HR0.out); (case side2 => exact HC0.out); rintro e w4 ⟨rfl, hb⟩; refine ⟨_, rfl, ?_⟩; replace HB := Aside0.mk (Qan (Zb) hb); (try clear hb); (try clear hb2); (try clear hk); (try clear hi)))
 go_ret
 exact ⟨Zq, Zb⟩
def Qcd.f (a0_0 : ByteArray) (a0_1 : Int) : Option (Bool) := if a0_1 < 1 then (some T) else (some (decide (a0_1 > 1000000000000)))
set_option maxHeartbeats 8000000 in
theorem Qcd.calls (a0_0 : ByteArray) (a0_1 : Int) (r : Bool) (w : World) (h : Qcd.f a0_0 a0_1 = some r) :
  Calls Try.prog 113 #[.agg #[.string a0_0, .int .i64 a0_1]] w fun e w' => e = .returned (.bool r) ∧ Below w.heap.size w w' := by
 have hu98 := Try.underlying98
 have HB := Aside0.mk (Below.refl w.heap.size w)
 have H : (if a0_1 < 1 then (some T) else (some (decide (a0_1 > 1000000000000)))) = some r := h
 clear h
 go_enter Try.func113, Try.ntmps113
 go_upto_region 1 with (first | ((with_reducible refine QaL (N := 1) rfl ?_); refine Zbx (N := 1) (cs := #[.string a0_0, .int .i64 a0_1]) (t := 98) ?_; intro gb147 hg w2 hbox hb; have BK147 := Aside0.mk (hbox); have GW147 := Aside0.mk (Zt w hg (Zb)); have GE147 := GW147; replace HB := Aside0.mk (Qan (Zb) hb); clear hb hbox hg))
 (try simp only [Act.put, Zj, Zk, Zm])
 by_cases c3 : a0_1 < 1
 ·rw [if_pos c3] at H
  have c3b0 : decide (a0_1 < 1) = T := decide_eq_true c3
  clear c3
  (try simp only [c3b0])
  obtain rfl := Option.some.inj H
  obtain ⟨hcz4_0, hfz4_0⟩ := Zy (v := (.string a0_0)) BK147.out 0
  obtain ⟨hcz4_1, hfz4_1⟩ := Zy (v := (.int .i64 a0_1)) BK147.out 1
  go_wp2
  go_ret
  exact ⟨Zq, Zc1 GE147.out⟩
 rw [if_neg c3] at H
 have c3b0 : decide (a0_1 < 1) = F := decide_eq_false c3
 clear c3
 (try simp only [c3b0])
 obtain rfl := Option.some.inj H
 obtain ⟨hcz5_0, hfz5_0⟩ := Zy (v := (.string a0_0)) BK147.out 0
 obtain ⟨hcz5_1, hfz5_1⟩ := Zy (v := (.int .i64 a0_1)) BK147.out 1
 go_wp2
 go_ret
 exact ⟨Zq, Zc1 GE147.out⟩
def Qat.l0 : Nat → List (S98) → Int → Int → Option (Int)
 | 0, _, _, _ => none
 | k + 1, x0, x7, x8 => if x8 < x7 then (if 0 ≤ x8 then (if x8 < (x0.length : Int) then ((Qcd.f ((rd_T98 x0 x8).f0) ((rd_T98 x0 x8).f1)).bind fun t149 => (if t149 = T then (some x8) else (Qat.l0 k x0 x7 (wrap64 (x8 + 1))))) else (none)) else (none)) else (some (-1))
def Qat.f (k : Nat) (l0 : List (S98))  : Option (Int) := Qat.l0 k l0 (l0.length : Int) 0
theorem Qat.mono_l : ∀ k, (∀ y0 y1 y2, LeO (Qat.l0 k y0 y1 y2) (Qat.l0 (k + 1) y0 y1 y2))
 | 0 => fun _ _ _ r h => by simp [Qat.l0] at h
 | k + 1 => by
  have ih0 := Qat.mono_l k
  intro y0 y1 y2
  unfold Qat.l0
  exact ZM1 ih0
theorem Qat.mono : ∀ a0 k, LeO (Qat.f k a0) (Qat.f (k + 1) a0) := by
 intro a0 k
 have ih0 := Qat.mono_l k
 unfold Qat.f
 exact ZM1 ih0
set_option maxHeartbeats 8000000 in
theorem Qat.calls (k : Nat) (A0 : Option Addr) (c0 : Nat) (l0 : List (S98))  (r : Int) (w : World) (hr0 : Kd.C k98 w A0 l0.length l0) (hc0 : l0.length ≤ c0) (h : Qat.f k l0 = some r) :
  Calls Try.prog 123 #[.slice A0 l0.length c0, .func (.func 113) #[] #[]] w fun e w' => e = .returned (.int .i64 r) ∧ Below w.heap.size w w' := by
 have hu98 := Try.underlying98
 have HR0 := Aside0.mk hr0
 have HC0 := Aside0.mk hc0
 clear hr0 hc0
 have HB := Aside0.mk (Below.refl w.heap.size w)
 have H : (Qat.l0 k l0 (l0.length : Int) 0) = some r := h
 clear h
 have H' := Aside0.mk H
 clear H
 go_enter Try.func123, Try.ntmps123
 go_wp2
 go_loopg [8] k (fun kq v8 w' => ∃ (x8_1 : Int), v8 = .int .i64 x8_1 ∧ Aside0 (Qat.l0 kq l0 (l0.length : Int) x8_1 = some r) ∧ Aside0 (kq ≤ k) ∧ Aside0 (Below w.heap.size w w'))
 case atStart => exact ⟨(0), (Zs), H', ⟨Nat.le_refl _⟩, ⟨Zb⟩⟩
 case round =>
  clear H'
  try clear p2
  obtain ⟨x8_1, rfl, HA, HK1, HB⟩ := hrel
  cases gk with
  | zero => exact absurd HA.out (by simp [Qat.l0])
  | succ k1 =>
   have H := HA.out
   clear HA
   simp only [Qat.l0] at H
   by_cases c3 : x8_1 < (l0.length : Int)
   ·rw [if_pos c3] at H
    have c3b0 : decide (x8_1 < (l0.length : Int)) = T := decide_eq_true c3
    clear c3
    (try simp only [c3b0])
    by_cases c4 : 0 ≤ x8_1
    ·rw [if_pos c4] at H
     have c4b0 : decide (0 ≤ x8_1) = T := decide_eq_true c4
     clear c4
     by_cases c5 : x8_1 < (l0.length : Int)
     ·rw [if_pos c5] at H
      have c5b0 : decide (x8_1 < (l0.length : Int)) = T := decide_eq_true c5
      clear c5
      replace H := Option.bind_eq_some_iff.mp H
      obtain ⟨t149, A60, H⟩ := H
      replace H : (if t149 = T then (some x8_1) else (Qat.l0 k1 l0 (l0.length : Int) (wrap64 (x8_1 + 1)))) = some r := H
      have A6 := Aside0.mk A60
      clear A60
      have p148 : 0 ≤ (x8_1 : Int) := Ze
      have q148 : x8_1 < (l0.length : Int) := Ze
      obtain ⟨ad148, e148, hx148_0, hx148_1⟩ := at_T98 HR0.out x8_1 p148 q148
      cases e148
      replace hx148_0 := Zx HB.out hx148_0
      replace hx148_1 := Zx HB.out hx148_1
      replace p148 := eq_true p148
      replace q148 := eq_true q148
      go_upto_if 16 with (first | (go_at_call 113; (with_reducible refine (Qcd.calls ((rd_T98 l0 x8_1).f0) ((rd_T98 l0 x8_1).f1) t149 _ A6.out).mono ?_); rintro e w7 ⟨rfl, hb⟩; replace HB := Aside0.mk (Qan (Zb) hb); (try clear hb); (try clear hb2); (try clear hk); (try clear hi)))
      (try simp only [Act.put, Zj, Zk, Zm])
      by_cases c8 : t149 = T
      ·subst c8
       have H1 : (some x8_1) = some r := by rw [if_pos rfl] at H; exact H
       clear H
       have H := H1
       clear H1
       obtain rfl := Option.some.inj H
       go_wp2
       go_ret
       exact ⟨Zq, Zb⟩
      replace c8 := Bool.eq_false_iff.mpr c8
      subst c8
      have H1 : (Qat.l0 k1 l0 (l0.length : Int) (wrap64 (x8_1 + 1))) = some r := by rw [if_neg (show ¬ (F = T) by decide)] at H; exact H
      clear H
      have H := H1
      clear H1
      have H' := Aside0.mk H
      clear H
      go_wp2
      go_roundg k1
      case measure => have := HK1.out; omega
      case rel => exact ⟨(wrap64 (x8_1 + 1)), (Zs), H', ⟨by have := HK1.out; omega⟩, ⟨Zb⟩⟩
     rw [if_neg c5] at H
     exact absurd H (by simp)
    rw [if_neg c4] at H
    exact absurd H (by simp)
   rw [if_neg c3] at H
   have c3b0 : decide (x8_1 < (l0.length : Int)) = F := decide_eq_false c3
   clear c3
   (try simp only [c3b0])
   obtain rfl := Option.some.inj H
   go_wp2
   go_ret
   exact ⟨Zq, Zb⟩
def QaG.f (k : Nat) (l0 : List (S98))  : Option (Bool) := (Qat.f k l0).bind fun t150 => (some (decide (t150 ≥ 0)))
theorem QaG.mono : ∀ a0 k, LeO (QaG.f k a0) (QaG.f (k + 1) a0) := by
 intro a0 k
 unfold QaG.f
 exact ZM1 Qat.mono
set_option maxHeartbeats 8000000 in
theorem QaG.calls (k : Nat) (A0 : Option Addr) (c0 : Nat) (l0 : List (S98))  (r : Bool) (w : World) (hr0 : Kd.C k98 w A0 l0.length l0) (hc0 : l0.length ≤ c0) (h : QaG.f k l0 = some r) :
  Calls Try.prog 110 #[.slice A0 l0.length c0, .func (.func 113) #[] #[]] w fun e w' => e = .returned (.bool r) ∧ Below w.heap.size w w' := by
 have HR0 := Aside0.mk hr0
 have HC0 := Aside0.mk hc0
 clear hr0 hc0
 have HB := Aside0.mk (Below.refl w.heap.size w)
 have H : ((Qat.f k l0).bind fun t150 => (some (decide (t150 ≥ 0)))) = some r := h
 clear h
 replace H := Option.bind_eq_some_iff.mp H
 obtain ⟨t150, A30, H⟩ := H
 replace H : (some (decide (t150 ≥ 0))) = some r := H
 have A3 := Aside0.mk A30
 clear A30
 obtain rfl := Option.some.inj H
 go_enter Try.func110, Try.ntmps110
 go_wp2_with (first | ((with_reducible refine Qaw (f := 123) rfl ?_); refine goesL_ (some 7) rfl rfl Try.func123 (by kernel_rfl) rfl #[.slice A0 l0.length c0, .func (.func 113) #[] #[]] rfl (Zl) ?_; (with_reducible refine (Qat.calls k _ _ l0  t150 _ ?side1 ?side2 A3.out).mono ?_); (case side1 => exact Zv HR0.out); (case side2 => exact HC0.out); rintro e w4 ⟨rfl, hb⟩; refine ⟨_, rfl, ?_⟩; replace HB := Aside0.mk (Qan (Zb) hb); (try clear hb); (try clear hb2); (try clear hk); (try clear hi)))
 go_ret
 exact ⟨Zq, Zb⟩
mutual
def Qba.j0 : Nat → List (S98) → Bool → Option (Int)
 | 0, _, _ => none
 | k + 1, x0, x14 => if x14 = T then (some 8) else ((QaE.f k x0).bind fun t151 => (if t151 = T then (some 10) else (Qba.l0 k x0 x0 (x0.length : Int) 0)))
def Qba.l0 : Nat → List (S98) → List (S98) → Int → Int → Option (Int)
 | 0, _, _, _, _ => none
 | k + 1, x0, x17, x18, x19 => if x19 < x18 then (if 0 ≤ x19 then (if x19 < (x17.length : Int) then ((QbN.f k x0 ((rd_T98 x17 x19).f0)).bind fun bt154 => (if bt154.1 = x19 then (Qba.l0 k x0 x17 x18 (wrap64 (x19 + 1))) else (some 12))) else (none)) else (none)) else (if 0 < (x0.length : Int) then (if ((rd_T98 x0 0).f1) = 1000000 then ((QaG.f k x0).bind fun t157 => (if t157 = T then (some 25) else (some 0))) else (some 25)) else (none))
end
def Qba.f (k : Nat) (l0 : List (S98)) : Option (Int) := if (l0.length : Int) = 0 then (Qba.j0 k l0 T) else (Qba.j0 k l0 (decide ((l0.length : Int) > 8)))
theorem Qba.mono_l : ∀ k, (∀ y0 y1, LeO (Qba.j0 k y0 y1) (Qba.j0 (k + 1) y0 y1)) ∧ (∀ y0 y1 y2 y3, LeO (Qba.l0 k y0 y1 y2 y3) (Qba.l0 (k + 1) y0 y1 y2 y3))
 | 0 => ⟨fun _ _ r h => by simp [Qba.j0] at h, fun _ _ _ _ r h => by simp [Qba.l0] at h⟩
 | k + 1 => by
  obtain ⟨ih0, ih1⟩ := Qba.mono_l k
  refine ⟨?_, ?_⟩
  ·intro y0 y1
   unfold Qba.j0
   exact ZM5 ih0 ih1 QbN.mono QaE.mono QaG.mono
  intro y0 y1 y2 y3
  unfold Qba.l0
  exact ZM5 ih0 ih1 QbN.mono QaE.mono QaG.mono
theorem Qba.mono : ∀ a0 k, LeO (Qba.f k a0) (Qba.f (k + 1) a0) := by
 intro a0 k
 obtain ⟨ih0, ih1⟩ := Qba.mono_l k
 unfold Qba.f
 exact ZM5 ih0 ih1 QbN.mono QaE.mono QaG.mono
set_option maxHeartbeats 8000000 in
theorem Qba.calls (k : Nat) (A0 : Option Addr) (c0 : Nat) (l0 : List (S98)) (r : Int) (w : World) (hr0 : Kd.C k98 w A0 l0.length l0) (hc0 : l0.length ≤ c0) (h : Qba.f k l0 = some r) :
  Calls Try.prog 79 #[.slice A0 l0.length c0] w fun e w' => e = .returned (.int .i64 r) ∧ Below w.heap.size w w' := by
 have hu98 := Try.underlying98
 have HR0 := Aside0.mk hr0
 have HC0 := Aside0.mk hc0
 clear hr0 hc0
 have HB := Aside0.mk (Below.refl w.heap.size w)
 have H : (if (l0.length : Int) = 0 then (Qba.j0 k l0 T) else (Qba.j0 k l0 (decide ((l0.length : Int) > 8)))) = some r := h
 clear h
 have HC2 := Aside0.mk H
 clear H
 go_enter Try.func79, Try.ntmps79
 go_upto_region 1 with (fail)
 go_cut [14] (fun v14 wc => ∃ (kq : Nat) (x14_1 : Bool), v14 = .bool x14_1 ∧ Aside0 (Qba.j0 kq l0 x14_1 = some r) ∧ Aside0 (kq ≤ k) ∧ Aside0 (Below w.heap.size w wc))
 case first =>
  have H := HC2.out
  clear HC2
  by_cases c3 : (l0.length : Int) = 0
  ·rw [if_pos c3] at H
   have c3b0 : ((l0.length : Int) == 0) = T := beq_iff_eq.mpr c3
   have c3b1 : ((l0.length : Int) != 0) = F := bne_eq_false_iff_eq.mpr c3
   clear c3
   have H' := Aside0.mk H
   clear H
   go_wp2
   go_meet
   case rel => exact ⟨_, (T), (Zs), H', ⟨by first | omega | exact Nat.le_refl _⟩, ⟨Zb⟩⟩
  rw [if_neg c3] at H
  have c3b0 : ((l0.length : Int) == 0) = F := beq_eq_false_iff_ne.mpr c3
  have c3b1 : ((l0.length : Int) != 0) = T := bne_iff_ne.mpr c3
  have c3b2 : ¬ (l0 = []) := fun h_ => c3 (by rw [h_]; rfl)
  have H' := Aside0.mk H
  clear H
  go_wp2
  go_meet
  case rel => exact ⟨_, (decide ((l0.length : Int) > 8)), (Zs), H', ⟨by first | omega | exact Nat.le_refl _⟩, ⟨Zb⟩⟩
 case rest =>
  clear HC2
  try clear p2
  try clear c3
  try clear c3b0
  try clear c3b1
  try clear c3b2
  obtain ⟨kq, x14_1, rfl, HA, HJ1, HB⟩ := hcut
  cases kq with
  | zero => exact absurd HA.out (by simp [Qba.j0])
  | succ kj1 =>
   have H := HA.out
   clear HA
   simp only [Qba.j0] at H
   by_cases c4 : x14_1 = T
   ·subst c4
    have H1 : (some 8) = some r := by rw [if_pos rfl] at H; exact H
    clear H
    have H := H1
    clear H1
    obtain rfl := Option.some.inj H
    go_wp2
    go_ret
    exact ⟨Zq, Zb⟩
   replace c4 := Bool.eq_false_iff.mpr c4
   subst c4
   have H1 : ((QaE.f kj1 l0).bind fun t151 => (if t151 = T then (some 10) else (Qba.l0 kj1 l0 l0 (l0.length : Int) 0))) = some r := by rw [if_neg (show ¬ (F = T) by decide)] at H; exact H
   clear H
   have H := H1
   clear H1
   replace H := Option.bind_eq_some_iff.mp H
   obtain ⟨t151, A50, H⟩ := H
   replace H : (if t151 = T then (some 10) else (Qba.l0 kj1 l0 l0 (l0.length : Int) 0)) = some r := H
   have A5 := Aside0.mk A50
   clear A50
   go_upto_if 16 with (first | ((with_reducible refine Qaw (f := 110) rfl ?_); refine goesL_ (some 16) rfl rfl Try.func110 (by kernel_rfl) rfl #[.slice A0 l0.length c0, .func (.func 111) #[] #[]] rfl (Zl) ?_; (with_reducible refine (QaE.calls kj1 _ _ l0  t151 _ ?side1 ?side2 A5.out).mono ?_); (case side1 => exact Zv (Kd.C_below HR0.out HB.out)); (case side2 => exact HC0.out); rintro e w6 ⟨rfl, hb⟩; refine ⟨_, rfl, ?_⟩; replace HB := Aside0.mk (Qan (Zb) hb); (try clear hb); (try clear hb2); (try clear hk); (try clear hi)))
   (try simp only [Act.put, Zj, Zk, Zm])
   by_cases c7 : t151 = T
   ·subst c7
    have H1 : (some 10) = some r := by rw [if_pos rfl] at H; exact H
    clear H
    have H := H1
    clear H1
    obtain rfl := Option.some.inj H
    go_wp2
    go_ret
    exact ⟨Zq, Zb⟩
   replace c7 := Bool.eq_false_iff.mpr c7
   subst c7
   have H1 : (Qba.l0 kj1 l0 l0 (l0.length : Int) 0) = some r := by rw [if_neg (show ¬ (F = T) by decide)] at H; exact H
   clear H
   have H := H1
   clear H1
   have H' := Aside0.mk H
   clear H
   go_wp2
   go_loopg [19] kj1 (fun kq v19 w' => ∃ (x19_2 : Int), v19 = .int .i64 x19_2 ∧ Aside0 (Qba.l0 kq l0 l0 (l0.length : Int) x19_2 = some r) ∧ Aside0 (kq ≤ kj1) ∧ Aside0 (Below w.heap.size w w'))
   case atStart => exact ⟨(0), (Zs), H', ⟨Nat.le_refl _⟩, ⟨Zb⟩⟩
   case round =>
    clear H'
    try clear p2
    try clear c3
    try clear c3b0
    try clear c3b1
    try clear c3b2
    try clear c4
    try clear c7
    try clear p2
    obtain ⟨x19_2, rfl, HA, HK2, HB⟩ := hrel
    cases gk with
    | zero => exact absurd HA.out (by simp [Qba.l0])
    | succ k2 =>
     have H := HA.out
     clear HA
     simp only [Qba.l0] at H
     by_cases c8 : x19_2 < (l0.length : Int)
     ·rw [if_pos c8] at H
      have c8b0 : decide (x19_2 < (l0.length : Int)) = T := decide_eq_true c8
      clear c8
      (try simp only [c8b0])
      by_cases c9 : 0 ≤ x19_2
      ·rw [if_pos c9] at H
       have c9b0 : decide (0 ≤ x19_2) = T := decide_eq_true c9
       clear c9
       by_cases c10 : x19_2 < (l0.length : Int)
       ·rw [if_pos c10] at H
        have c10b0 : decide (x19_2 < (l0.length : Int)) = T := decide_eq_true c10
        clear c10
        replace H := Option.bind_eq_some_iff.mp H
        obtain ⟨⟨t154, t155⟩, A110, H⟩ := H
        replace H : (if t154 = x19_2 then (Qba.l0 k2 l0 l0 (l0.length : Int) (wrap64 (x19_2 + 1))) else (some 12)) = some r := H
        have A11 := Aside0.mk A110
        clear A110
        have p152 : 0 ≤ (x19_2 : Int) := Ze
        have q152 : x19_2 < (l0.length : Int) := Ze
        obtain ⟨ad152, e152, hx152_0, hx152_1⟩ := at_T98 HR0.out x19_2 p152 q152
        cases e152
        replace hx152_0 := Zx HB.out hx152_0
        replace hx152_1 := Zx HB.out hx152_1
        replace p152 := eq_true p152
        replace q152 := eq_true q152
        go_upto_if 33 with (first | ((with_reducible refine QaL (N := 4) rfl ?_); (try (refine QbG (by rfl) ?_; dsimp only)); refine Zbx (N := 4) (cs := #[.string (⟨#[]⟩ : ByteArray), .int .i64 0]) (t := 98) ?_; intro gb153 hg w12 hbox hb; have BK153 := Aside0.mk (hbox); have GW153 := Aside0.mk (Zt w hg (Zb)); have GE153 := GW153; replace HB := Aside0.mk (Qan (Zb) hb); clear hb hbox hg; obtain ⟨hcz13_0, hfz13_0⟩ := Zy (v := (.string (⟨#[]⟩ : ByteArray))) BK153.out 0; obtain ⟨hcz13_1, hfz13_1⟩ := Zy (v := (.int .i64 0)) BK153.out 1) | ((with_reducible refine Qaw (f := 112) rfl ?_); refine goesL_ (some 28) rfl rfl Try.func112 (by kernel_rfl) rfl #[.slice (some ad152) l0.length c0, .string ((rd_T98 l0 x19_2).f0)] rfl (Zl) ?_; (with_reducible refine (QbN.calls k2 _ _ l0 ((rd_T98 l0 x19_2).f0) t154 t155 _ ?side1 ?side2 A11.out).mono ?_); (case side1 => exact Kd.C_below HR0.out (Zc1 GE153.out)); (case side2 => exact HC0.out); rintro e w14 ⟨rfl, hb⟩; refine ⟨_, rfl, ?_⟩; replace BK153 := Aside0.mk (Zpi #[.string ((rd_T98 l0 x19_2).f0), .int .i64 ((rd_T98 l0 x19_2).f1)] BK153.out hb); replace HB := Aside0.mk (Qan (Zc1 GE153.out) hb); (try clear hb); (try clear hb2); (try clear hk); (try clear hi)))
        (try simp only [Act.put, Zj, Zk, Zm])
        by_cases c15 : t154 = x19_2
        ·rw [if_pos c15] at H
         have c15b0 : (t154 == x19_2) = T := beq_iff_eq.mpr c15
         have c15b1 : (t154 != x19_2) = F := bne_eq_false_iff_eq.mpr c15
         clear c15
         (try simp only [c15b0, c15b1])
         have H' := Aside0.mk H
         clear H
         go_wp2
         go_roundg k2
         case measure => have := HJ1.out; have := HK2.out; omega
         case rel => exact ⟨(wrap64 (x19_2 + 1)), (Zs), H', ⟨by have := HJ1.out; have := HK2.out; omega⟩, ⟨Zc1 GE153.out⟩⟩
        rw [if_neg c15] at H
        have c15b0 : (t154 == x19_2) = F := beq_eq_false_iff_ne.mpr c15
        have c15b1 : (t154 != x19_2) = T := bne_iff_ne.mpr c15
        (try simp only [c15b0, c15b1])
        obtain rfl := Option.some.inj H
        go_wp2
        go_ret
        exact ⟨Zq, Zc1 GE153.out⟩
       rw [if_neg c10] at H
       exact absurd H (by simp)
      rw [if_neg c9] at H
      exact absurd H (by simp)
     rw [if_neg c8] at H
     have c8b0 : decide (x19_2 < (l0.length : Int)) = F := decide_eq_false c8
     clear c8
     (try simp only [c8b0])
     by_cases c16 : 0 < (l0.length : Int)
     ·rw [if_pos c16] at H
      have c16b0 : decide (0 < (l0.length : Int)) = T := decide_eq_true c16
      have c16b1 : decide (0 < l0.length) = T := decide_eq_true (by omega)
      clear c16
      by_cases c17 : ((rd_T98 l0 0).f1) = 1000000
      ·rw [if_pos c17] at H
       have c17b0 : (((rd_T98 l0 0).f1) == 1000000) = T := beq_iff_eq.mpr c17
       have c17b1 : (((rd_T98 l0 0).f1) != 1000000) = F := bne_eq_false_iff_eq.mpr c17
       clear c17
       replace H := Option.bind_eq_some_iff.mp H
       obtain ⟨t157, A180, H⟩ := H
       replace H : (if t157 = T then (some 25) else (some 0)) = some r := H
       have A18 := Aside0.mk A180
       clear A180
       have p156 : 0 ≤ (0 : Int) := (by omega)
       have q156 : 0 < (l0.length : Int) := Ze
       obtain ⟨ad156, e156, hx156_0, hx156_1⟩ := at_T98 HR0.out 0 p156 q156
       cases e156
       have qi156 : (0 < l0.length) = True := eq_true (by omega)
       (try rw [show ((0 : Int)).toNat = 0 from rfl] at hx156_0)
       (try rw [show 0 * 2 = 0 from rfl] at hx156_0)
       (try rw [Addr.add_zero'] at hx156_0)
       (try rw [show ((0 : Int)).toNat = 0 from rfl] at hx156_1)
       (try rw [show 0 * 2 = 0 from rfl] at hx156_1)
       (try rw [Addr.add_zero'] at hx156_1)
       replace hx156_0 := Zx HB.out hx156_0
       replace hx156_1 := Zx HB.out hx156_1
       replace p156 := eq_true p156
       replace q156 := eq_true q156
       go_upto_if 43 with (first | (go_at_call 110; (with_reducible refine (QaG.calls k2 _ _ l0  t157 _ ?side1 ?side2 A18.out).mono ?_); (case side1 => exact Zv (Kd.C_below HR0.out HB.out)); (case side2 => exact HC0.out); rintro e w19 ⟨rfl, hb⟩; replace HB := Aside0.mk (Qan (Zb) hb); (try clear hb); (try clear hb2); (try clear hk); (try clear hi)))
       (try simp only [Act.put, Zj, Zk, Zm])
       by_cases c20 : t157 = T
       ·subst c20
        have H1 : (some 25) = some r := by rw [if_pos rfl] at H; exact H
        clear H
        have H := H1
        clear H1
        obtain rfl := Option.some.inj H
        go_wp2
        go_ret
        exact ⟨Zq, Zb⟩
       replace c20 := Bool.eq_false_iff.mpr c20
       subst c20
       have H1 : (some 0) = some r := by rw [if_neg (show ¬ (F = T) by decide)] at H; exact H
       clear H
       have H := H1
       clear H1
       obtain rfl := Option.some.inj H
       go_wp2
       go_ret
       exact ⟨Zq, Zb⟩
      rw [if_neg c17] at H
      have c17b0 : (((rd_T98 l0 0).f1) == 1000000) = F := beq_eq_false_iff_ne.mpr c17
      have c17b1 : (((rd_T98 l0 0).f1) != 1000000) = T := bne_iff_ne.mpr c17
      obtain rfl := Option.some.inj H
      have p156 : 0 ≤ (0 : Int) := (by omega)
      have q156 : 0 < (l0.length : Int) := Ze
      obtain ⟨ad156, e156, hx156_0, hx156_1⟩ := at_T98 HR0.out 0 p156 q156
      cases e156
      have qi156 : (0 < l0.length) = True := eq_true (by omega)
      (try rw [show ((0 : Int)).toNat = 0 from rfl] at hx156_0)
      (try rw [show 0 * 2 = 0 from rfl] at hx156_0)
      (try rw [Addr.add_zero'] at hx156_0)
      (try rw [show ((0 : Int)).toNat = 0 from rfl] at hx156_1)
      (try rw [show 0 * 2 = 0 from rfl] at hx156_1)
      (try rw [Addr.add_zero'] at hx156_1)
      replace hx156_0 := Zx HB.out hx156_0
      replace hx156_1 := Zx HB.out hx156_1
      replace p156 := eq_true p156
      replace q156 := eq_true q156
      go_wp2
      go_ret
      exact ⟨Zq, Zb⟩
     rw [if_neg c16] at H
     exact absurd H (by simp)
def Qbt.f (k : Nat) (l0 : List (S98)) (a1 : Int) (a2 : Int) (a3 : Int) (a4 : Int) : Option (Int × Int) := (Qba.f k l0).bind fun t158 => (if t158 = 0 then (if a2 < 0 then (some (0, 25)) else (if a2 ≥ (l0.length : Int) then (some (0, 25)) else (if a3 < 0 then (some (0, 25)) else (if a3 ≥ (l0.length : Int) then (some (0, 25)) else (if 0 ≤ a2 then (if a2 < (l0.length : Int) then (if 0 ≤ a3 then (if a3 < (l0.length : Int) then ((Qa0.f a1 ((rd_T98 l0 a2).f1) ((rd_T98 l0 a3).f1) a4).bind fun bt161 => (some (bt161.1, bt161.2))) else (none)) else (none)) else (none)) else (none)))))) else (some (0, t158)))
theorem Qbt.mono : ∀ a0 a1 a2 a3 a4 k, LeO (Qbt.f k a0 a1 a2 a3 a4) (Qbt.f (k + 1) a0 a1 a2 a3 a4) := by
 intro a0 a1 a2 a3 a4 k
 unfold Qbt.f
 exact ZM1 Qba.mono
def Qbt.T6 : Bool × List (List Nat × List Nat) := (T, [([], []), ([], []), ([], []), ([1, 2], [1, 2]), ([3], [3]), ([4], [4]), ([], []), ([], []), ([6, 7], [6, 7]), ([8], [8]), ([9], [9]), ([], []), ([0, 5, 10, 11], [0, 5, 10, 11]), ([12], [12]), ([12], [12]), ([13, 12, 0, 1, 2, 3, 4, 5, 6, 7, 8, 9, 10, 11, 12, 13, 14], [13]), ([14, 15, 0, 1, 2, 3, 4, 5, 6, 7, 8, 9, 10, 11, 12, 13, 14, 15], [14])])
def Qbt.B6 : List Nat := [0, 0, 0, 6, 14, 30, 0, 0, 192, 448, 960, 0, 4095, 8191, 8191, 32767, 65535]
theorem Qbt.tab6 : rtab .any (opsOf Try.f126 6) = Qbt.T6 := by kernel_rfl
theorem Qbt.bits6 : Qb0 Qbt.T6.2 Qbt.B6 = T := by kernel_rfl
set_option maxHeartbeats 8000000 in
theorem Qbt.calls (k : Nat) (A0 : Option Addr) (c0 : Nat) (l0 : List (S98)) (a1 : Int) (a2 : Int) (a3 : Int) (a4 : Int) (r1 : Int) (r2 : Int) (w : World) (hr0 : Kd.C k98 w A0 l0.length l0) (hc0 : l0.length ≤ c0) (h : Qbt.f k l0 a1 a2 a3 a4 = some (r1, r2)) :
  Calls Try.prog 126 #[.slice A0 l0.length c0, .int .i64 a1, .int .i64 a2, .int .i64 a3, .int .i64 a4] w fun e w' => e = .returned (.tuple #[.int .i64 r1, .int .i64 r2]) ∧ Below w.heap.size w w' := by
 have HR0 := Aside0.mk hr0
 have HC0 := Aside0.mk hc0
 clear hr0 hc0
 have HB := Aside0.mk (Below.refl w.heap.size w)
 have H : ((Qba.f k l0).bind fun t158 => (if t158 = 0 then (if a2 < 0 then (some (0, 25)) else (if a2 ≥ (l0.length : Int) then (some (0, 25)) else (if a3 < 0 then (some (0, 25)) else (if a3 ≥ (l0.length : Int) then (some (0, 25)) else (if 0 ≤ a2 then (if a2 < (l0.length : Int) then (if 0 ≤ a3 then (if a3 < (l0.length : Int) then ((Qa0.f a1 ((rd_T98 l0 a2).f1) ((rd_T98 l0 a3).f1) a4).bind fun bt161 => (some (bt161.1, bt161.2))) else (none)) else (none)) else (none)) else (none)))))) else (some (0, t158)))) = some (r1, r2) := h
 clear h
 replace H := Option.bind_eq_some_iff.mp H
 obtain ⟨t158, A60, H⟩ := H
 replace H : (if t158 = 0 then (if a2 < 0 then (some (0, 25)) else (if a2 ≥ (l0.length : Int) then (some (0, 25)) else (if a3 < 0 then (some (0, 25)) else (if a3 ≥ (l0.length : Int) then (some (0, 25)) else (if 0 ≤ a2 then (if a2 < (l0.length : Int) then (if 0 ≤ a3 then (if a3 < (l0.length : Int) then ((Qa0.f a1 ((rd_T98 l0 a2).f1) ((rd_T98 l0 a3).f1) a4).bind fun bt161 => (some (bt161.1, bt161.2))) else (none)) else (none)) else (none)) else (none)))))) else (some (0, t158))) = some (r1, r2) := H
 have A6 := Aside0.mk A60
 clear A60
 go_enter Try.func126, Try.ntmps126
 go_upto_if 15 with (first | ((with_reducible refine Qaw (f := 79) rfl ?_); refine goesL_ (some 13) rfl rfl Try.func79 (by kernel_rfl) rfl #[.slice A0 l0.length c0] rfl (Zl) ?_; (with_reducible refine (Qba.calls k _ _ l0 t158 _ ?side1 ?side2 A6.out).mono ?_); (case side1 => exact Zv HR0.out); (case side2 => exact HC0.out); rintro e w7 ⟨rfl, hb⟩; refine ⟨_, rfl, ?_⟩; replace HB := Aside0.mk (Qan (Zb) hb); (try clear hb); (try clear hb2); (try clear hk); (try clear hi)))
 (try simp only [Act.put, Zj, Zk, Zm])
 by_cases c8 : t158 = 0
 ·rw [if_pos c8] at H
  have c8b0 : (t158 == 0) = T := beq_iff_eq.mpr c8
  have c8b1 : (t158 != 0) = F := bne_eq_false_iff_eq.mpr c8
  clear c8
  (try simp only [c8b0, c8b1])
  by_cases c9 : a2 < 0
  ·rw [if_pos c9] at H
   have c9b0 : decide (a2 < 0) = T := decide_eq_true c9
   clear c9
   simp only [Option.some.injEq, Prod.mk.injEq] at H
   obtain ⟨rfl, rfl⟩ := H
   go_wp2
   go_ret2
   exact ⟨Zq, Zb⟩
  rw [if_neg c9] at H
  have c9b0 : decide (a2 < 0) = F := decide_eq_false c9
  clear c9
  by_cases c10 : a2 ≥ (l0.length : Int)
  ·rw [if_pos c10] at H
   have c10b0 : decide ((l0.length : Int) ≤ a2) = T := decide_eq_true c10
   clear c10
   simp only [Option.some.injEq, Prod.mk.injEq] at H
   obtain ⟨rfl, rfl⟩ := H
   go_wp2
   go_ret2
   exact ⟨Zq, Zb⟩
  rw [if_neg c10] at H
  have c10b0 : decide ((l0.length : Int) ≤ a2) = F := decide_eq_false c10
  clear c10
  by_cases c11 : a3 < 0
  ·rw [if_pos c11] at H
   have c11b0 : decide (a3 < 0) = T := decide_eq_true c11
   clear c11
   simp only [Option.some.injEq, Prod.mk.injEq] at H
   obtain ⟨rfl, rfl⟩ := H
   go_wp2
   go_ret2
   exact ⟨Zq, Zb⟩
  rw [if_neg c11] at H
  have c11b0 : decide (a3 < 0) = F := decide_eq_false c11
  clear c11
  by_cases c12 : a3 ≥ (l0.length : Int)
  ·rw [if_pos c12] at H
   have c12b0 : decide ((l0.length : Int) ≤ a3) = T := decide_eq_true c12
   clear c12
   (try simp only [c12b0])
   simp only [Option.some.injEq, Prod.mk.injEq] at H
   obtain ⟨rfl, rfl⟩ := H
   go_wp2
   go_ret2
   exact ⟨Zq, Zb⟩
  rw [if_neg c12] at H
  have c12b0 : decide ((l0.length : Int) ≤ a3) = F := decide_eq_false c12
  clear c12
  (try simp only [c12b0])
  by_cases c13 : 0 ≤ a2
  ·rw [if_pos c13] at H
   have c13b0 : decide (0 ≤ a2) = T := decide_eq_true c13
   clear c13
   by_cases c14 : a2 < (l0.length : Int)
   ·rw [if_pos c14] at H
    have c14b0 : decide (a2 < (l0.length : Int)) = T := decide_eq_true c14
    clear c14
    by_cases c15 : 0 ≤ a3
    ·rw [if_pos c15] at H
     have c15b0 : decide (0 ≤ a3) = T := decide_eq_true c15
     clear c15
     by_cases c16 : a3 < (l0.length : Int)
     ·rw [if_pos c16] at H
      have c16b0 : decide (a3 < (l0.length : Int)) = T := decide_eq_true c16
      clear c16
      replace H := Option.bind_eq_some_iff.mp H
      obtain ⟨⟨t161, t162⟩, A170, H⟩ := H
      replace H : (some (t161, t162)) = some (r1, r2) := H
      have A17 := Aside0.mk A170
      clear A170
      simp only [Option.some.injEq, Prod.mk.injEq] at H
      obtain ⟨rfl, rfl⟩ := H
      try go_wp2
      replace HB := Aside0.mk (Qag HB.out)
      have p159 : 0 ≤ (a2 : Int) := Ze
      have q159 : a2 < (l0.length : Int) := Ze
      obtain ⟨ad159, e159, hx159_0, hx159_1⟩ := at_T98 HR0.out a2 p159 q159
      have hw159_1 := hx159_1
      have hw159_0 := hx159_0
      cases e159
      replace hx159_0 := Zx HB.out hx159_0
      replace hx159_1 := Zx HB.out hx159_1
      replace p159 := eq_true p159
      replace q159 := eq_true q159
      have p160 : 0 ≤ (a3 : Int) := Ze
      have q160 : a3 < (l0.length : Int) := Ze
      obtain ⟨ad160, e160, hx160_0, hx160_1⟩ := at_T98 HR0.out a3 p160 q160
      have hw160_1 := hx160_1
      have hw160_0 := hx160_0
      obtain rfl : ad159 = ad160 := (by injection e160)
      replace hx160_0 := Zx HB.out hx160_0
      replace hx160_1 := Zx HB.out hx160_1
      replace p160 := eq_true p160
      replace q160 := eq_true q160
      refine start_ (n := 17) (S := fun w' => w'.cell? (ad159.add ((a2).toNat * 2)) = some (.string ((rd_T98 l0 a2).f0)) ∧ w'.cell? ⟨(ad159.add ((a2).toNat * 2)).block, (ad159.add ((a2).toNat * 2)).off + 1, none⟩ = some (.int .i64 ((rd_T98 l0 a2).f1)) ∧ w'.cell? (ad159.add ((a3).toNat * 2)) = some (.string ((rd_T98 l0 a3).f0)) ∧ w'.cell? ⟨(ad159.add ((a3).toNat * 2)).block, (ad159.add ((a3).toNat * 2)).off + 1, none⟩ = some (.int .i64 ((rd_T98 l0 a3).f1))) (ds := []) #[F, F, F, F, F, F, F, F, F, F, F, F, F, F, F, F, F] (by kernel_rfl) rfl rfl ⟨((HB.out.cell (World.block_lt_of_cell? w _ hw159_0)).trans hw159_0), ((HB.out.cell (World.block_lt_of_cell? w _ hw159_1)).trans hw159_1), ((HB.out.cell (World.block_lt_of_cell? w _ hw160_0)).trans hw160_0), ((HB.out.cell (World.block_lt_of_cell? w _ hw160_1)).trans hw160_1)⟩ (fun hHeld => ?_); refine QbW Qbt.tab6 Qbt.bits6 (fun HT_ HW_ => ?_)
      generalize w7.drew = w18 at HB hx159_0 hx159_1 hx160_0 hx160_1 hHeld ⊢
      refine pure_ (i := 0) (N := some 35) (v := ?_) (a' := ?_) #[T, F, F, F, F, F, F, F, F, F, F, F, F, F, F, F, F] rfl rfl (any_of HT_.out (by kernel_rfl)) (fun _ _ _ h => h) (Or.inl ⟨by rfl, ?_⟩) ?_ ?_
      rotate_left
      ·intro w'
       go_simp
       with_reducible rfl
      rotate_left
      ·simp only [Act.put, Zj, Zk, Zm, i64_w, i32_w]
       rfl
      refine pure_ (i := 1) (N := some 36) (v := ?_) (a' := ?_) #[T, T, F, F, F, F, F, F, F, F, F, F, F, F, F, F, F] rfl rfl (any_of HT_.out (by kernel_rfl)) (fun _ _ _ h => h) (Or.inl ⟨by rfl, ?_⟩) ?_ ?_
      rotate_left
      ·intro w'
       go_simp
       with_reducible rfl
      rotate_left
      ·simp only [Act.put, Zj, Zk, Zm, i64_w, i32_w]
       rfl
      refine pure_ (i := 2) (N := some 37) (v := ?_) (a' := ?_) #[T, T, T, F, F, F, F, F, F, F, F, F, F, F, F, F, F] rfl rfl (any_of HT_.out (by kernel_rfl)) (fun _ _ _ h => h) (Or.inl ⟨by rfl, ?_⟩) ?_ ?_
      rotate_left
      ·intro w'
       go_simp
       with_reducible rfl
      rotate_left
      ·simp only [Act.put, Zj, Zk, Zm, i64_w, i32_w]
       rfl
      refine pure_ (i := 3) (N := some 38) (v := ?_) (a' := ?_) #[T, T, T, T, F, F, F, F, F, F, F, F, F, F, F, F, F] rfl rfl (any_of HT_.out (by kernel_rfl)) (fun _ _ _ h => h) (Or.inl ⟨by rfl, ?_⟩) ?_ ?_
      rotate_left
      ·intro w'
       go_simp
       with_reducible rfl
      rotate_left
      ·simp only [Act.put, Zj, Zk, Zm, i64_w, i32_w]
       rfl
      refine pure_ (i := 4) (N := some 39) (v := ?_) (a' := ?_) #[T, T, T, T, T, F, F, F, F, F, F, F, F, F, F, F, F] rfl rfl (any_of HT_.out (by kernel_rfl)) (fun _ _ _ h => h) (Or.inl ⟨by rfl, ?_⟩) ?_ ?_
      rotate_left
      ·intro w'
       go_simp
       with_reducible rfl
      rotate_left
      ·simp only [Act.put, Zj, Zk, Zm, i64_w, i32_w]
       rfl
      refine pure_ (i := 6) (N := some 41) (v := ?_) (a' := ?_) #[T, T, T, T, T, F, T, F, F, F, F, F, F, F, F, F, F] rfl rfl (any_of HT_.out (by kernel_rfl)) (fun _ _ _ h => h) (Or.inl ⟨by rfl, ?_⟩) ?_ ?_
      rotate_left
      ·intro w'
       go_simp
       with_reducible rfl
      rotate_left
      ·simp only [Act.put, Zj, Zk, Zm, i64_w, i32_w]
       rfl
      refine pure_ (i := 7) (N := some 42) (v := ?_) (a' := ?_) #[T, T, T, T, T, F, T, T, F, F, F, F, F, F, F, F, F] rfl rfl (any_of HT_.out (by kernel_rfl)) (fun _ _ _ h => h) (Or.inl ⟨by rfl, ?_⟩) ?_ ?_
      rotate_left
      ·intro w'
       go_simp
       with_reducible rfl
      rotate_left
      ·simp only [Act.put, Zj, Zk, Zm, i64_w, i32_w]
       rfl
      refine pure_ (i := 8) (N := some 43) (v := ?_) (a' := ?_) #[T, T, T, T, T, F, T, T, T, F, F, F, F, F, F, F, F] rfl rfl (any_of HT_.out (by kernel_rfl)) (fun _ _ _ h => h) (Or.inl ⟨by rfl, ?_⟩) ?_ ?_
      rotate_left
      ·intro w'
       go_simp
       with_reducible rfl
      rotate_left
      ·simp only [Act.put, Zj, Zk, Zm, i64_w, i32_w]
       rfl
      refine pure_ (i := 9) (N := some 44) (v := ?_) (a' := ?_) #[T, T, T, T, T, F, T, T, T, T, F, F, F, F, F, F, F] rfl rfl (any_of HT_.out (by kernel_rfl)) (fun _ _ _ h => h) (Or.inl ⟨by rfl, ?_⟩) ?_ ?_
      rotate_left
      ·intro w'
       go_simp
       with_reducible rfl
      rotate_left
      ·simp only [Act.put, Zj, Zk, Zm, i64_w, i32_w]
       rfl
      refine pure_ (i := 11) (N := some 46) (v := ?_) (a' := ?_) #[T, T, T, T, T, F, T, T, T, T, F, T, F, F, F, F, F] rfl rfl (any_of HT_.out (by kernel_rfl)) (fun _ _ _ h => h) (Or.inl ⟨by rfl, ?_⟩) ?_ ?_
      rotate_left
      ·intro w'
       go_simp
       with_reducible rfl
      rotate_left
      ·simp only [Act.put, Zj, Zk, Zm, i64_w, i32_w]
       rfl
      refine take_ (i := 5) (N := some 40) (v := ?_) (a' := ?_) #[T, T, T, T, T, T, T, T, T, T, F, T, F, F, F, F, F] rfl rfl (QbJ HT_.out HW_.out (by kernel_rfl)) (fun _ _ _ h => h) (Or.inl ⟨by rfl, ?_⟩) hHeld ?_ ?_
      rotate_left
      ·rintro w' ⟨s0, s1, s2, s3⟩
       go_simp
       with_reducible rfl
      rotate_left
      ·simp only [Act.put, Zj, Zk, Zm, i64_w, i32_w]
       rfl
      refine take_ (i := 10) (N := some 45) (v := ?_) (a' := ?_) #[T, T, T, T, T, T, T, T, T, T, T, T, F, F, F, F, F] rfl rfl (QbJ HT_.out HW_.out (by kernel_rfl)) (fun _ _ _ h => h) (Or.inl ⟨by rfl, ?_⟩) hHeld ?_ ?_
      rotate_left
      ·rintro w' ⟨s0, s1, s2, s3⟩
       go_simp
       with_reducible rfl
      rotate_left
      ·simp only [Act.put, Zj, Zk, Zm, i64_w, i32_w]
       rfl
      refine one_ (i := 12) (N := some 47) #[T, T, T, T, T, T, T, T, T, T, T, T, T, F, F, F, F] rfl rfl (one_of HT_.out (by kernel_rfl)) (by decide) (fun K hK => ?_)
      refine goes_ Try.func57 (by kernel_rfl) rfl #[.int .i64 a1, .int .i64 ((rd_T98 l0 a2).f1), .int .i64 ((rd_T98 l0 a3).f1), .int .i64 a4] (by rfl) rfl rfl (Zl) ?_
      with_reducible refine (Qa0.calls a1 ((rd_T98 l0 a2).f1) ((rd_T98 l0 a3).f1) a4 t161 t162 _ A17.out).mono ?_
      rintro e w19 ⟨rfl, hb⟩
      refine ⟨_, rfl, ?_⟩
      replace HB := Aside0.mk (Qan (Zb) hb)
      (try clear hb)
      (try clear hb2)
      (try clear hk)
      (try clear hi)
      refine hK.out _ _ ⟨((HB.out.cell (World.block_lt_of_cell? w _ hw159_0)).trans hw159_0), ((HB.out.cell (World.block_lt_of_cell? w _ hw159_1)).trans hw159_1), ((HB.out.cell (World.block_lt_of_cell? w _ hw160_0)).trans hw160_0), ((HB.out.cell (World.block_lt_of_cell? w _ hw160_1)).trans hw160_1)⟩ (fun hHeld => ?_)
      clear hK K
      refine norm_ (a' := ?_) ?_ ?_
      rotate_left
      ·show Act.put _ (some 47) _ = _
       simp only [Act.put, Zj, Zk, Zm, i64_w, i32_w]
       rfl
      refine pure_ (i := 13) (N := some 48) (v := ?_) (a' := ?_) #[T, T, T, T, T, T, T, T, T, T, T, T, T, T, F, F, F] rfl rfl (any_of HT_.out (by kernel_rfl)) (fun _ _ _ h => h) (Or.inl ⟨by rfl, ?_⟩) ?_ ?_
      rotate_left
      ·intro w'
       go_simp
       with_reducible rfl
      rotate_left
      ·simp only [Act.put, Zj, Zk, Zm, i64_w, i32_w]
       rfl
      refine pure_ (i := 14) (N := some 49) (v := ?_) (a' := ?_) #[T, T, T, T, T, T, T, T, T, T, T, T, T, T, T, F, F] rfl rfl (any_of HT_.out (by kernel_rfl)) (fun _ _ _ h => h) (Or.inl ⟨by rfl, ?_⟩) ?_ ?_
      rotate_left
      ·intro w'
       go_simp
       with_reducible rfl
      rotate_left
      ·simp only [Act.put, Zj, Zk, Zm, i64_w, i32_w]
       rfl
      refine pure_ (i := 15) (N := some 10) (v := ?_) (a' := ?_) #[T, T, T, T, T, T, T, T, T, T, T, T, T, T, T, T, F] rfl rfl (any_of HT_.out (by kernel_rfl)) (fun _ _ _ h => h) (Or.inl ⟨by rfl, ?_⟩) ?_ ?_
      rotate_left
      ·intro w'
       go_simp
       with_reducible rfl
      rotate_left
      ·simp only [Act.put, Zj, Zk, Zm, i64_w, i32_w]
       rfl
      refine pure_ (i := 16) (N := some 11) (v := ?_) (a' := ?_) #[T, T, T, T, T, T, T, T, T, T, T, T, T, T, T, T, T] rfl rfl (any_of HT_.out (by kernel_rfl)) (fun _ _ _ h => h) (Or.inl ⟨by rfl, ?_⟩) ?_ ?_
      rotate_left
      ·intro w'
       go_simp
       with_reducible rfl
      rotate_left
      ·simp only [Act.put, Zj, Zk, Zm, i64_w, i32_w]
       rfl
      refine done_ (Qb4 HT_.out (by kernel_rfl)) ?_
      try go_wp2
      go_ret2
      exact ⟨Zq, Zb⟩
     rw [if_neg c16] at H
     exact absurd H (by simp)
    rw [if_neg c15] at H
    exact absurd H (by simp)
   rw [if_neg c14] at H
   exact absurd H (by simp)
  rw [if_neg c13] at H
  exact absurd H (by simp)
 rw [if_neg c8] at H
 have c8b0 : (t158 == 0) = F := beq_eq_false_iff_ne.mpr c8
 have c8b1 : (t158 != 0) = T := bne_iff_ne.mpr c8
 (try simp only [c8b0, c8b1])
 simp only [Option.some.injEq, Prod.mk.injEq] at H
 obtain ⟨rfl, rfl⟩ := H
 go_wp2
 go_ret2
 exact ⟨Zq, Zb⟩
def QbS.f (k : Nat) (l0 : List (S98)) (a1 : Int) (a2 : Int) (a3 : Int) : Option (Int × Int) := (Qbt.f k l0 a1 a2 0 a3).bind fun bt163 => (some (bt163.1, bt163.2))
theorem QbS.mono : ∀ a0 a1 a2 a3 k, LeO (QbS.f k a0 a1 a2 a3) (QbS.f (k + 1) a0 a1 a2 a3) := by
 intro a0 a1 a2 a3 k
 unfold QbS.f
 exact ZM1 Qbt.mono
set_option maxHeartbeats 8000000 in
theorem QbS.calls (k : Nat) (A0 : Option Addr) (c0 : Nat) (l0 : List (S98)) (a1 : Int) (a2 : Int) (a3 : Int) (r1 : Int) (r2 : Int) (w : World) (hr0 : Kd.C k98 w A0 l0.length l0) (hc0 : l0.length ≤ c0) (h : QbS.f k l0 a1 a2 a3 = some (r1, r2)) :
  Calls Try.prog 115 #[.slice A0 l0.length c0, .int .i64 a1, .int .i64 a2, .int .i64 a3] w fun e w' => e = .returned (.tuple #[.int .i64 r1, .int .i64 r2]) ∧ Below w.heap.size w w' := by
 have HR0 := Aside0.mk hr0
 have HC0 := Aside0.mk hc0
 clear hr0 hc0
 have HB := Aside0.mk (Below.refl w.heap.size w)
 have H : ((Qbt.f k l0 a1 a2 0 a3).bind fun bt163 => (some (bt163.1, bt163.2))) = some (r1, r2) := h
 clear h
 replace H := Option.bind_eq_some_iff.mp H
 obtain ⟨⟨t163, t164⟩, A50, H⟩ := H
 replace H : (some (t163, t164)) = some (r1, r2) := H
 have A5 := Aside0.mk A50
 clear A50
 simp only [Option.some.injEq, Prod.mk.injEq] at H
 obtain ⟨rfl, rfl⟩ := H
 go_enter Try.func115, Try.ntmps115
 go_wp2_with (first | ((with_reducible refine Qaw (f := 126) rfl ?_); refine goesL_ (some 14) rfl rfl Try.func126 (by kernel_rfl) rfl #[.slice A0 l0.length c0, .int .i64 a1, .int .i64 a2, .int .i64 0, .int .i64 a3] rfl (Zl) ?_; (with_reducible refine (Qbt.calls k _ _ l0 a1 a2 0 a3 t163 t164 _ ?side1 ?side2 A5.out).mono ?_); (case side1 => exact Zv HR0.out); (case side2 => exact HC0.out); rintro e w6 ⟨rfl, hb⟩; refine ⟨_, rfl, ?_⟩; replace HB := Aside0.mk (Qan (Zb) hb); (try clear hb); (try clear hb2); (try clear hk); (try clear hi)))
 go_ret2
 exact ⟨Zq, Zb⟩
def Qbh.f (k : Nat) (a0_0 : ByteArray) (a0_1 : Int) (a0_2 : Int) (a0_3 : Int) (a0_4 : Int) (a0_5 : Int) (a1 : Int) (l2 : List (S98)) : Option (Int × Int) := (QbK.f k a0_0 a0_1 a0_2 a0_3 a0_4 a0_5 a1).bind fun bt166 => (if bt166.2 = 0 then ((QbS.f k l2 bt166.1 a0_2 3).bind fun bt168 => (if bt168.2 = 0 then ((Qa0.f bt168.1 (wrap64 (1000 - a0_4)) 1000 3).bind fun bt170 => (some (bt170.1, bt170.2))) else (some (0, bt168.2)))) else (some (0, bt166.2)))
theorem Qbh.mono : ∀ a0 a1 a2 a3 a4 a5 a6 a7 k, LeO (Qbh.f k a0 a1 a2 a3 a4 a5 a6 a7) (Qbh.f (k + 1) a0 a1 a2 a3 a4 a5 a6 a7) := by
 intro a0 a1 a2 a3 a4 a5 a6 a7 k
 unfold Qbh.f
 exact ZM2 QbK.mono QbS.mono
set_option maxHeartbeats 8000000 in
theorem Qbh.calls (k : Nat) (a0_0 : ByteArray) (a0_1 : Int) (a0_2 : Int) (a0_3 : Int) (a0_4 : Int) (a0_5 : Int) (a1 : Int) (A2 : Option Addr) (c2 : Nat) (l2 : List (S98)) (r1 : Int) (r2 : Int) (w : World) (hr2 : Kd.C k98 w A2 l2.length l2) (hc2 : l2.length ≤ c2) (h : Qbh.f k a0_0 a0_1 a0_2 a0_3 a0_4 a0_5 a1 l2 = some (r1, r2)) :
  Calls Try.prog 82 #[.agg #[.string a0_0, .int .i64 a0_1, .int .i64 a0_2, .int .i64 a0_3, .int .i64 a0_4, .int .i64 a0_5], .int .i64 a1, .slice A2 l2.length c2] w fun e w' => e = .returned (.tuple #[.int .i64 r1, .int .i64 r2]) ∧ Below w.heap.size w w' := by
 have hu84 := Try.underlying84
 have HR2 := Aside0.mk hr2
 have HC2 := Aside0.mk hc2
 clear hr2 hc2
 have HB := Aside0.mk (Below.refl w.heap.size w)
 have H : ((QbK.f k a0_0 a0_1 a0_2 a0_3 a0_4 a0_5 a1).bind fun bt166 => (if bt166.2 = 0 then ((QbS.f k l2 bt166.1 a0_2 3).bind fun bt168 => (if bt168.2 = 0 then ((Qa0.f bt168.1 (wrap64 (1000 - a0_4)) 1000 3).bind fun bt170 => (some (bt170.1, bt170.2))) else (some (0, bt168.2)))) else (some (0, bt166.2)))) = some (r1, r2) := h
 clear h
 replace H := Option.bind_eq_some_iff.mp H
 obtain ⟨⟨t166, t167⟩, A40, H⟩ := H
 replace H : (if t167 = 0 then ((QbS.f k l2 t166 a0_2 3).bind fun bt168 => (if bt168.2 = 0 then ((Qa0.f bt168.1 (wrap64 (1000 - a0_4)) 1000 3).bind fun bt170 => (some (bt170.1, bt170.2))) else (some (0, bt168.2)))) else (some (0, t167))) = some (r1, r2) := H
 have A4 := Aside0.mk A40
 clear A40
 go_enter Try.func82, Try.ntmps82
 go_upto_if 17 with (first | ((with_reducible refine QaL (N := 3) rfl ?_); refine Zbx (N := 3) (cs := #[.string a0_0, .int .i64 a0_1, .int .i64 a0_2, .int .i64 a0_3, .int .i64 a0_4, .int .i64 a0_5]) (t := 84) ?_; intro gb165 hg w5 hbox hb; have BK165 := Aside0.mk (hbox); have GW165 := Aside0.mk (Zt w hg (Zb)); have GE165 := GW165; replace HB := Aside0.mk (Qan (Zb) hb); clear hb hbox hg; obtain ⟨hcz6_0, hfz6_0⟩ := Zy (v := (.string a0_0)) BK165.out 0; obtain ⟨hcz6_1, hfz6_1⟩ := Zy (v := (.int .i64 a0_1)) BK165.out 1; obtain ⟨hcz6_2, hfz6_2⟩ := Zy (v := (.int .i64 a0_2)) BK165.out 2; obtain ⟨hcz6_3, hfz6_3⟩ := Zy (v := (.int .i64 a0_3)) BK165.out 3; obtain ⟨hcz6_4, hfz6_4⟩ := Zy (v := (.int .i64 a0_4)) BK165.out 4; obtain ⟨hcz6_5, hfz6_5⟩ := Zy (v := (.int .i64 a0_5)) BK165.out 5) | ((with_reducible refine Qaw (f := 114) rfl ?_); refine goesL_ (some 13) rfl rfl Try.func114 (by kernel_rfl) rfl #[.agg #[.string a0_0, .int .i64 a0_1, .int .i64 a0_2, .int .i64 a0_3, .int .i64 a0_4, .int .i64 a0_5], .int .i64 a1] rfl (Zl) ?_; (with_reducible refine (QbK.calls k a0_0 a0_1 a0_2 a0_3 a0_4 a0_5 a1 t166 t167 _ A4.out).mono ?_); rintro e w7 ⟨rfl, hb⟩; refine ⟨_, rfl, ?_⟩; replace BK165 := Aside0.mk (Zi BK165.out hb); replace HB := Aside0.mk (Qan (Zc1 GE165.out) hb); (try clear hb); (try clear hb2); (try clear hk); (try clear hi)))
 (try simp only [Act.put, Zj, Zk, Zm])
 by_cases c8 : t167 = 0
 ·rw [if_pos c8] at H
  have c8b0 : (t167 == 0) = T := beq_iff_eq.mpr c8
  have c8b1 : (t167 != 0) = F := bne_eq_false_iff_eq.mpr c8
  clear c8
  (try simp only [c8b0, c8b1])
  replace H := Option.bind_eq_some_iff.mp H
  obtain ⟨⟨t168, t169⟩, A90, H⟩ := H
  replace H : (if t169 = 0 then ((Qa0.f t168 (wrap64 (1000 - a0_4)) 1000 3).bind fun bt170 => (some (bt170.1, bt170.2))) else (some (0, t169))) = some (r1, r2) := H
  have A9 := Aside0.mk A90
  clear A90
  obtain ⟨hcz10_0, hfz10_0⟩ := Zy (v := (.string a0_0)) BK165.out 0
  obtain ⟨hcz10_1, hfz10_1⟩ := Zy (v := (.int .i64 a0_1)) BK165.out 1
  obtain ⟨hcz10_2, hfz10_2⟩ := Zy (v := (.int .i64 a0_2)) BK165.out 2
  obtain ⟨hcz10_3, hfz10_3⟩ := Zy (v := (.int .i64 a0_3)) BK165.out 3
  obtain ⟨hcz10_4, hfz10_4⟩ := Zy (v := (.int .i64 a0_4)) BK165.out 4
  obtain ⟨hcz10_5, hfz10_5⟩ := Zy (v := (.int .i64 a0_5)) BK165.out 5
  go_upto_if 28 with (first | ((with_reducible refine Qaw (f := 115) rfl ?_); refine goesL_ (some 24) rfl rfl Try.func115 (by kernel_rfl) rfl #[.slice A2 l2.length c2, .int .i64 t166, .int .i64 a0_2, .int .i64 3] rfl (Zl) ?_; (with_reducible refine (QbS.calls k _ _ l2 t166 a0_2 3 t168 t169 _ ?side1 ?side2 A9.out).mono ?_); (case side1 => exact Zv (Kd.C_below HR2.out HB.out)); (case side2 => exact HC2.out); rintro e w11 ⟨rfl, hb⟩; refine ⟨_, rfl, ?_⟩; replace BK165 := Aside0.mk (Zi BK165.out hb); replace HB := Aside0.mk (Qan (Zc1 GE165.out) hb); (try clear hb); (try clear hb2); (try clear hk); (try clear hi)))
  (try simp only [Act.put, Zj, Zk, Zm])
  by_cases c12 : t169 = 0
  ·rw [if_pos c12] at H
   have c12b0 : (t169 == 0) = T := beq_iff_eq.mpr c12
   have c12b1 : (t169 != 0) = F := bne_eq_false_iff_eq.mpr c12
   clear c12
   (try simp only [c12b0, c12b1])
   replace H := Option.bind_eq_some_iff.mp H
   obtain ⟨⟨t170, t171⟩, A130, H⟩ := H
   replace H : (some (t170, t171)) = some (r1, r2) := H
   have A13 := Aside0.mk A130
   clear A130
   simp only [Option.some.injEq, Prod.mk.injEq] at H
   obtain ⟨rfl, rfl⟩ := H
   obtain ⟨hcz14_0, hfz14_0⟩ := Zy (v := (.string a0_0)) BK165.out 0
   obtain ⟨hcz14_1, hfz14_1⟩ := Zy (v := (.int .i64 a0_1)) BK165.out 1
   obtain ⟨hcz14_2, hfz14_2⟩ := Zy (v := (.int .i64 a0_2)) BK165.out 2
   obtain ⟨hcz14_3, hfz14_3⟩ := Zy (v := (.int .i64 a0_3)) BK165.out 3
   obtain ⟨hcz14_4, hfz14_4⟩ := Zy (v := (.int .i64 a0_4)) BK165.out 4
   obtain ⟨hcz14_5, hfz14_5⟩ := Zy (v := (.int .i64 a0_5)) BK165.out 5
   go_wp2_with (first | ((with_reducible refine Qaw (f := 57) rfl ?_); refine goesL_ (some 34) rfl rfl Try.func57 (by kernel_rfl) rfl #[.int .i64 t168, .int .i64 (wrap64 (1000 - a0_4)), .int .i64 1000, .int .i64 3] rfl (Zl) ?_; (with_reducible refine (Qa0.calls t168 (wrap64 (1000 - a0_4)) 1000 3 t170 t171 _ A13.out).mono ?_); rintro e w15 ⟨rfl, hb⟩; refine ⟨_, rfl, ?_⟩; replace BK165 := Aside0.mk (Zi BK165.out hb); replace HB := Aside0.mk (Qan (Zc1 GE165.out) hb); (try clear hb); (try clear hb2); (try clear hk); (try clear hi)))
   go_ret2
   exact ⟨Zq, Zc1 GE165.out⟩
  rw [if_neg c12] at H
  have c12b0 : (t169 == 0) = F := beq_eq_false_iff_ne.mpr c12
  have c12b1 : (t169 != 0) = T := bne_iff_ne.mpr c12
  (try simp only [c12b0, c12b1])
  simp only [Option.some.injEq, Prod.mk.injEq] at H
  obtain ⟨rfl, rfl⟩ := H
  go_wp2
  go_ret2
  exact ⟨Zq, Zc1 GE165.out⟩
 rw [if_neg c8] at H
 have c8b0 : (t167 == 0) = F := beq_eq_false_iff_ne.mpr c8
 have c8b1 : (t167 != 0) = T := bne_iff_ne.mpr c8
 (try simp only [c8b0, c8b1])
 simp only [Option.some.injEq, Prod.mk.injEq] at H
 obtain ⟨rfl, rfl⟩ := H
 go_wp2
 go_ret2
 exact ⟨Zq, Zc1 GE165.out⟩
theorem eqA44 (d : Nat) (w : World) (x0 y0 : ByteArray) (x1 y1 : ByteArray) :
  (Op.equalIn (d + 2) 44 (.agg #[.string x0, .string x1]) (.agg #[.string y0, .string y1])).run Try.prog w = .ok (x0.toList == y0.toList && (x1.toList == y1.toList)) w := by
 refine eqA_of Try.underlying44 (by kernel_rfl) ?_
 refine Qft (by rfl) (by go_simp; rfl) (by go_simp; rfl) (by go_simp) ?_
 exact Qfu (by rfl) (by go_simp; rfl) (by go_simp; rfl) (by go_simp)
def Qb3.f (a0 : Int) : Option (Int × Int) := (QbC.f a0).bind fun t172 => (if t172 = T then (some (a0, 0)) else (some (0, 3)))
set_option maxHeartbeats 8000000 in
theorem Qb3.calls (a0 : Int) (r1 : Int) (r2 : Int) (w : World) (h : Qb3.f a0 = some (r1, r2)) :
  Calls Try.prog 97 #[.int .i64 a0] w fun e w' => e = .returned (.tuple #[.int .i64 r1, .int .i64 r2]) ∧ Drawn0 w w' := by
 have H : ((QbC.f a0).bind fun t172 => (if t172 = T then (some (a0, 0)) else (some (0, 3)))) = some (r1, r2) := h
 clear h
 replace H := Option.bind_eq_some_iff.mp H
 obtain ⟨t172, A20, H⟩ := H
 replace H : (if t172 = T then (some (a0, 0)) else (some (0, 3))) = some (r1, r2) := H
 have A2 := Aside0.mk A20
 clear A20
 go_enter Try.func97, Try.ntmps97
 go_upto_if 6 with (first | ((with_reducible refine Qaw (f := 87) rfl ?_); refine goesL_ (some 5) rfl rfl Try.func87 (by kernel_rfl) rfl #[.int .i64 a0] rfl (Zl) ?_; (with_reducible refine (QbC.calls a0 t172 _ A2.out).mono ?_); rintro e w' ⟨rfl, ⟨nd, rfl⟩⟩; refine ⟨_, rfl, ?_⟩))
 (try simp only [Act.put, Zj, Zk, Zm])
 by_cases c3 : t172 = T
 ·subst c3
  have H1 : (some (a0, 0)) = some (r1, r2) := by rw [if_pos rfl] at H; exact H
  clear H
  have H := H1
  clear H1
  simp only [Option.some.injEq, Prod.mk.injEq] at H
  obtain ⟨rfl, rfl⟩ := H
  go_wp2
  go_ret2
  exact ⟨Zs, Zd⟩
 replace c3 := Bool.eq_false_iff.mpr c3
 subst c3
 have H1 : (some (0, 3)) = some (r1, r2) := by rw [if_neg (show ¬ (F = T) by decide)] at H; exact H
 clear H
 have H := H1
 clear H1
 simp only [Option.some.injEq, Prod.mk.injEq] at H
 obtain ⟨rfl, rfl⟩ := H
 go_wp2
 go_ret2
 exact ⟨Zs, Zd⟩
def Qbl.l0 : Nat → List Int → Int → Int → Int → Int → Option (Int × Int)
 | 0, _, _, _, _, _ => none
 | k + 1, x0, x4, x5, x9, x10 => if x10 < x9 then (if 0 ≤ x10 then (if x10 < (x0.length : Int) then ((QbC.f (rd x0 x10)).bind fun t174 => (if t174 = T then (Qbl.l0 k x0 (wrap64 (x4 + ((rd x0 x10) / 4294967296))) (wrap64 (x5 + (Go.bits .and .i64 (rd x0 x10) 4294967295))) x9 (wrap64 (x10 + 1))) else (some (0, 2)))) else (none)) else (none)) else (if (wrap64 (x4 + (x5 / 4294967296))) < (-268435456) then (some (0, 3)) else (if (wrap64 (x4 + (x5 / 4294967296))) > 268435456 then (some (0, 3)) else ((Qb3.f (wrap64 ((wrap64 ((wrap64 (x4 + (x5 / 4294967296))) * 4294967296)) + (Go.bits .and .i64 x5 4294967295)))).bind fun bt177 => (some (bt177.1, bt177.2)))))
def Qbl.f (k : Nat) (l0 : List Int) : Option (Int × Int) := Qbl.l0 k l0 0 0 (l0.length : Int) 0
theorem Qbl.mono_l : ∀ k, (∀ y0 y1 y2 y3 y4, LeO (Qbl.l0 k y0 y1 y2 y3 y4) (Qbl.l0 (k + 1) y0 y1 y2 y3 y4))
 | 0 => fun _ _ _ _ _ r h => by simp [Qbl.l0] at h
 | k + 1 => by
  have ih0 := Qbl.mono_l k
  intro y0 y1 y2 y3 y4
  unfold Qbl.l0
  exact ZM1 ih0
theorem Qbl.mono : ∀ a0 k, LeO (Qbl.f k a0) (Qbl.f (k + 1) a0) := by
 intro a0 k
 have ih0 := Qbl.mono_l k
 unfold Qbl.f
 exact ZM1 ih0
set_option maxHeartbeats 8000000 in
theorem Qbl.calls (k : Nat) (A0 : Option Addr) (c0 : Nat) (l0 : List Int) (r1 : Int) (r2 : Int) (w : World) (hr0 : Kd.C (Kd.int .i64) w A0 l0.length l0) (hc0 : l0.length ≤ c0) (h : Qbl.f k l0 = some (r1, r2)) :
  Calls Try.prog 59 #[.slice A0 l0.length c0] w fun e w' => e = .returned (.tuple #[.int .i64 r1, .int .i64 r2]) ∧ Drawn0 w w' := by
 have HR0 := Aside0.mk hr0
 have HC0 := Aside0.mk hc0
 clear hr0 hc0
 have H : (Qbl.l0 k l0 0 0 (l0.length : Int) 0) = some (r1, r2) := h
 clear h
 have H' := Aside0.mk H
 clear H
 go_enter Try.func59, Try.ntmps59
 go_wp2
 go_loopg [4, 5, 10] k (fun kq v4 v5 v10 w' => ∃ (x4_1 : Int) (x5_1 : Int) (x10_1 : Int), v4 = .int .i64 x4_1 ∧ v5 = .int .i64 x5_1 ∧ v10 = .int .i64 x10_1 ∧ Aside0 (Qbl.l0 kq l0 x4_1 x5_1 (l0.length : Int) x10_1 = some (r1, r2)) ∧ Aside0 (kq ≤ k) ∧ Drawn0 w w')
 case atStart => exact ⟨(0), (0), (0), (Zs), (Zs), (Zs), H', ⟨Nat.le_refl _⟩, Zd⟩
 case round =>
  clear H'
  obtain ⟨x4_1, x5_1, x10_1, rfl, rfl, rfl, HA, HK1, ⟨m1, rfl⟩⟩ := hrel
  cases gk with
  | zero => exact absurd HA.out (by simp [Qbl.l0])
  | succ k1 =>
   have H := HA.out
   clear HA
   simp only [Qbl.l0] at H
   by_cases c2 : x10_1 < (l0.length : Int)
   ·rw [if_pos c2] at H
    have c2b0 : decide (x10_1 < (l0.length : Int)) = T := decide_eq_true c2
    clear c2
    (try simp only [c2b0])
    by_cases c3 : 0 ≤ x10_1
    ·rw [if_pos c3] at H
     have c3b0 : decide (0 ≤ x10_1) = T := decide_eq_true c3
     clear c3
     by_cases c4 : x10_1 < (l0.length : Int)
     ·rw [if_pos c4] at H
      have c4b0 : decide (x10_1 < (l0.length : Int)) = T := decide_eq_true c4
      clear c4
      replace H := Option.bind_eq_some_iff.mp H
      obtain ⟨t174, A50, H⟩ := H
      replace H : (if t174 = T then (Qbl.l0 k1 l0 (wrap64 (x4_1 + ((rd l0 x10_1) / 4294967296))) (wrap64 (x5_1 + (Go.bits .and .i64 (rd l0 x10_1) 4294967295))) (l0.length : Int) (wrap64 (x10_1 + 1))) else (some (0, 2))) = some (r1, r2) := H
      have A5 := Aside0.mk A50
      clear A50
      have p173 : 0 ≤ (x10_1 : Int) := Ze
      have q173 : x10_1 < (l0.length : Int) := Ze
      obtain ⟨ad173, e173, hx173_0⟩ := Kd.at_int HR0.out x10_1 p173 q173
      cases e173
      replace p173 := eq_true p173
      replace q173 := eq_true q173
      go_upto_if 18 with (first | ((with_reducible refine Qaw (f := 87) rfl ?_); refine goesL_ (some 17) rfl rfl Try.func87 (by kernel_rfl) rfl #[.int .i64 (rd l0 x10_1)] rfl (Zl) ?_; (with_reducible refine (QbC.calls (rd l0 x10_1) t174 _ A5.out).mono ?_); rintro e w' ⟨rfl, ⟨nd, rfl⟩⟩; refine ⟨_, rfl, ?_⟩))
      (try simp only [Act.put, Zj, Zk, Zm])
      by_cases c6 : t174 = T
      ·subst c6
       have H1 : (Qbl.l0 k1 l0 (wrap64 (x4_1 + ((rd l0 x10_1) / 4294967296))) (wrap64 (x5_1 + (Go.bits .and .i64 (rd l0 x10_1) 4294967295))) (l0.length : Int) (wrap64 (x10_1 + 1))) = some (r1, r2) := by rw [if_pos rfl] at H; exact H
       clear H
       have H := H1
       clear H1
       have H' := Aside0.mk H
       clear H
       have p175 : 0 ≤ (x10_1 : Int) := Ze
       have q175 : x10_1 < (l0.length : Int) := Ze
       obtain ⟨ad175, e175, hx175_0⟩ := Kd.at_int HR0.out x10_1 p175 q175
       obtain rfl : ad173 = ad175 := (by injection e175)
       replace p175 := eq_true p175
       replace q175 := eq_true q175
       have p176 : 0 ≤ (x10_1 : Int) := Ze
       have q176 : x10_1 < (l0.length : Int) := Ze
       obtain ⟨ad176, e176, hx176_0⟩ := Kd.at_int HR0.out x10_1 p176 q176
       obtain rfl : ad173 = ad176 := (by injection e176)
       replace p176 := eq_true p176
       replace q176 := eq_true q176
       go_wp2
       go_roundg k1
       case measure => have := HK1.out; omega
       case rel => exact ⟨(wrap64 (x4_1 + ((rd l0 x10_1) / 4294967296))), (wrap64 (x5_1 + (Go.bits .and .i64 (rd l0 x10_1) 4294967295))), (wrap64 (x10_1 + 1)), (Zs), (Zs), (Zs), H', ⟨by have := HK1.out; omega⟩, Zd⟩
      replace c6 := Bool.eq_false_iff.mpr c6
      subst c6
      have H1 : (some (0, 2)) = some (r1, r2) := by rw [if_neg (show ¬ (F = T) by decide)] at H; exact H
      clear H
      have H := H1
      clear H1
      simp only [Option.some.injEq, Prod.mk.injEq] at H
      obtain ⟨rfl, rfl⟩ := H
      go_wp2
      go_ret2
      exact ⟨Zs, Zd⟩
     rw [if_neg c4] at H
     exact absurd H (by simp)
    rw [if_neg c3] at H
    exact absurd H (by simp)
   rw [if_neg c2] at H
   have c2b0 : decide (x10_1 < (l0.length : Int)) = F := decide_eq_false c2
   clear c2
   (try simp only [c2b0])
   by_cases c7 : (wrap64 (x4_1 + (x5_1 / 4294967296))) < (-268435456)
   ·rw [if_pos c7] at H
    have c7b0 : decide ((wrap64 (x4_1 + (x5_1 / 4294967296))) < (-268435456)) = T := decide_eq_true c7
    clear c7
    simp only [Option.some.injEq, Prod.mk.injEq] at H
    obtain ⟨rfl, rfl⟩ := H
    go_wp2
    go_ret2
    exact ⟨Zs, Zd⟩
   rw [if_neg c7] at H
   have c7b0 : decide ((wrap64 (x4_1 + (x5_1 / 4294967296))) < (-268435456)) = F := decide_eq_false c7
   clear c7
   by_cases c8 : (wrap64 (x4_1 + (x5_1 / 4294967296))) > 268435456
   ·rw [if_pos c8] at H
    have c8b0 : decide (268435456 < (wrap64 (x4_1 + (x5_1 / 4294967296)))) = T := decide_eq_true c8
    clear c8
    (try simp only [c8b0])
    simp only [Option.some.injEq, Prod.mk.injEq] at H
    obtain ⟨rfl, rfl⟩ := H
    go_wp2
    go_ret2
    exact ⟨Zs, Zd⟩
   rw [if_neg c8] at H
   have c8b0 : decide (268435456 < (wrap64 (x4_1 + (x5_1 / 4294967296)))) = F := decide_eq_false c8
   clear c8
   (try simp only [c8b0])
   replace H := Option.bind_eq_some_iff.mp H
   obtain ⟨⟨t177, t178⟩, A90, H⟩ := H
   replace H : (some (t177, t178)) = some (r1, r2) := H
   have A9 := Aside0.mk A90
   clear A90
   simp only [Option.some.injEq, Prod.mk.injEq] at H
   obtain ⟨rfl, rfl⟩ := H
   go_wp2_with (first | ((with_reducible refine Qaw (f := 97) rfl ?_); refine goesL_ (some 52) rfl rfl Try.func97 (by kernel_rfl) rfl #[.int .i64 (wrap64 ((wrap64 ((wrap64 (x4_1 + (x5_1 / 4294967296))) * 4294967296)) + (Go.bits .and .i64 x5_1 4294967295)))] rfl (Zl) ?_; (with_reducible refine (Qb3.calls (wrap64 ((wrap64 ((wrap64 (x4_1 + (x5_1 / 4294967296))) * 4294967296)) + (Go.bits .and .i64 x5_1 4294967295))) t177 t178 _ A9.out).mono ?_); rintro e w' ⟨rfl, ⟨nd, rfl⟩⟩; refine ⟨_, rfl, ?_⟩))
   go_ret2
   exact ⟨Zs, Zd⟩
def QbT.f (a0 : Int) : Option (Bool) := if a0 ≥ 1 then (some (decide (a0 ≤ 1152921504606846976))) else (some F)
set_option maxHeartbeats 8000000 in
theorem QbT.calls (a0 : Int) (r : Bool) (w : World) (h : QbT.f a0 = some r) :
  Calls Try.prog 72 #[.int .i64 a0] w fun e w' => e = .returned (.bool r) ∧ Drawn0 w w' := by
 have H : (if a0 ≥ 1 then (some (decide (a0 ≤ 1152921504606846976))) else (some F)) = some r := h
 clear h
 by_cases c2 : a0 ≥ 1
 ·rw [if_pos c2] at H
  have c2b0 : decide (1 ≤ a0) = T := decide_eq_true c2
  clear c2
  obtain rfl := Option.some.inj H
  go_enter Try.func72, Try.ntmps72
  go_wp2
  go_ret
  exact ⟨Zs, Zd⟩
 rw [if_neg c2] at H
 have c2b0 : decide (1 ≤ a0) = F := decide_eq_false c2
 clear c2
 obtain rfl := Option.some.inj H
 go_enter Try.func72, Try.ntmps72
 go_wp2
 go_ret
 exact ⟨Zs, Zd⟩
def QbD.f (a0 : ByteArray) : Option (Bool) := some (a0.toList != a0.toList)
set_option maxHeartbeats 8000000 in
theorem QbD.calls (a0 : ByteArray) (r : Bool) (w : World) (h : QbD.f a0 = some r) :
  Calls Try.prog 120 #[.string a0] w fun e w' => e = .returned (.bool r) ∧ Drawn0 w w' := by
 have H : (some (a0.toList != a0.toList)) = some r := h
 clear h
 obtain rfl := Option.some.inj H
 go_enter Try.func120, Try.ntmps120
 go_wp2
 go_ret
 exact ⟨Zs, Zd⟩
def Qbq.f (a0 : ByteArray) (a1 : ByteArray) : Option (Int) := (QbD.f a0).bind fun t179 => ((QbD.f a1).bind fun t180 => (if t179 = T then (if t180 = T then (some 0) else (some (-1))) else (if t180 = T then (some 1) else (if (Op.bytesLess a0.toList a1.toList) = T then (some (-1)) else (if a0.toList = a1.toList then (some 0) else (some 1))))))
set_option maxHeartbeats 8000000 in
theorem Qbq.calls (a0 : ByteArray) (a1 : ByteArray) (r : Int) (w : World) (h : Qbq.f a0 a1 = some r) :
  Calls Try.prog 107 #[.string a0, .string a1] w fun e w' => e = .returned (.int .i64 r) ∧ Drawn0 w w' := by
 have H : ((QbD.f a0).bind fun t179 => ((QbD.f a1).bind fun t180 => (if t179 = T then (if t180 = T then (some 0) else (some (-1))) else (if t180 = T then (some 1) else (if (Op.bytesLess a0.toList a1.toList) = T then (some (-1)) else (if a0.toList = a1.toList then (some 0) else (some 1))))))) = some r := h
 clear h
 replace H := Option.bind_eq_some_iff.mp H
 obtain ⟨t179, A30, H⟩ := H
 replace H : ((QbD.f a1).bind fun t180 => (if t179 = T then (if t180 = T then (some 0) else (some (-1))) else (if t180 = T then (some 1) else (if (Op.bytesLess a0.toList a1.toList) = T then (some (-1)) else (if a0.toList = a1.toList then (some 0) else (some 1)))))) = some r := H
 have A3 := Aside0.mk A30
 clear A30
 replace H := Option.bind_eq_some_iff.mp H
 obtain ⟨t180, A40, H⟩ := H
 replace H : (if t179 = T then (if t180 = T then (some 0) else (some (-1))) else (if t180 = T then (some 1) else (if (Op.bytesLess a0.toList a1.toList) = T then (some (-1)) else (if a0.toList = a1.toList then (some 0) else (some 1))))) = some r := H
 have A4 := Aside0.mk A40
 clear A40
 go_enter Try.func107, Try.ntmps107
 go_upto_if 11 with (first | ((with_reducible refine Qaw (f := 120) rfl ?_); refine goesL_ (some 8) rfl rfl Try.func120 (by kernel_rfl) rfl #[.string a0] rfl (Zl) ?_; (with_reducible refine (QbD.calls a0 t179 _ A3.out).mono ?_); rintro e w' ⟨rfl, ⟨nd, rfl⟩⟩; refine ⟨_, rfl, ?_⟩) | ((with_reducible refine Qaw (f := 120) rfl ?_); refine goesL_ (some 10) rfl rfl Try.func120 (by kernel_rfl) rfl #[.string a1] rfl (Zl) ?_; (with_reducible refine (QbD.calls a1 t180 _ A4.out).mono ?_); rintro e w' ⟨rfl, ⟨nd, rfl⟩⟩; refine ⟨_, rfl, ?_⟩))
 (try simp only [Act.put, Zj, Zk, Zm])
 by_cases c5 : t179 = T
 ·subst c5
  have H1 : (if t180 = T then (some 0) else (some (-1))) = some r := by rw [if_pos rfl] at H; exact H
  clear H
  have H := H1
  clear H1
  by_cases c6 : t180 = T
  ·subst c6
   have H1 : (some 0) = some r := by rw [if_pos rfl] at H; exact H
   clear H
   have H := H1
   clear H1
   obtain rfl := Option.some.inj H
   go_wp2
   go_ret
   exact ⟨Zs, Zd⟩
  replace c6 := Bool.eq_false_iff.mpr c6
  subst c6
  have H1 : (some (-1)) = some r := by rw [if_neg (show ¬ (F = T) by decide)] at H; exact H
  clear H
  have H := H1
  clear H1
  obtain rfl := Option.some.inj H
  go_wp2
  go_ret
  exact ⟨Zs, Zd⟩
 replace c5 := Bool.eq_false_iff.mpr c5
 subst c5
 have H1 : (if t180 = T then (some 1) else (if (Op.bytesLess a0.toList a1.toList) = T then (some (-1)) else (if a0.toList = a1.toList then (some 0) else (some 1)))) = some r := by rw [if_neg (show ¬ (F = T) by decide)] at H; exact H
 clear H
 have H := H1
 clear H1
 by_cases c7 : t180 = T
 ·subst c7
  have H1 : (some 1) = some r := by rw [if_pos rfl] at H; exact H
  clear H
  have H := H1
  clear H1
  obtain rfl := Option.some.inj H
  go_wp2
  go_ret
  exact ⟨Zs, Zd⟩
 replace c7 := Bool.eq_false_iff.mpr c7
 subst c7
 have H1 : (if (Op.bytesLess a0.toList a1.toList) = T then (some (-1)) else (if a0.toList = a1.toList then (some 0) else (some 1))) = some r := by rw [if_neg (show ¬ (F = T) by decide)] at H; exact H
 clear H
 have H := H1
 clear H1
 by_cases c8 : (Op.bytesLess a0.toList a1.toList) = T
 ·rw [if_pos c8] at H
  have c8b0 : (Op.bytesLess a0.toList a1.toList) = T := c8
  clear c8
  (try simp only [c8b0])
  obtain rfl := Option.some.inj H
  go_wp2
  go_ret
  exact ⟨Zs, Zd⟩
 rw [if_neg c8] at H
 have c8b0 : (Op.bytesLess a0.toList a1.toList) = F := by simpa using c8
 clear c8
 (try simp only [c8b0])
 by_cases c9 : a0.toList = a1.toList
 ·rw [if_pos c9] at H
  have c9b0 : (a0.toList == a1.toList) = T := beq_iff_eq.mpr c9
  have c9b1 : (a0.toList != a1.toList) = F := bne_eq_false_iff_eq.mpr c9
  clear c9
  obtain rfl := Option.some.inj H
  go_wp2
  go_ret
  exact ⟨Zs, Zd⟩
 rw [if_neg c9] at H
 have c9b0 : (a0.toList == a1.toList) = F := beq_eq_false_iff_ne.mpr c9
 have c9b1 : (a0.toList != a1.toList) = T := bne_iff_ne.mpr c9
 obtain rfl := Option.some.inj H
 go_wp2
 go_ret
 exact ⟨Zs, Zd⟩
def QbA.f (a0_0 : ByteArray) (a0_1 : ByteArray) (a0_2 : ByteArray) (a0_3 : Int) (a1_0 : ByteArray) (a1_1 : ByteArray) (a1_2 : ByteArray) (a1_3 : Int) : Option (Int) := (Qbq.f a0_0 a1_0).bind fun t183 => (if t183 = 0 then ((Qbq.f a0_1 a1_1).bind fun t184 => (if t184 = 0 then ((Qbq.f a0_2 a1_2).bind fun t185 => (some t185)) else (some t184))) else (some t183))
set_option maxHeartbeats 8000000 in
theorem QbA.calls (a0_0 : ByteArray) (a0_1 : ByteArray) (a0_2 : ByteArray) (a0_3 : Int) (a1_0 : ByteArray) (a1_1 : ByteArray) (a1_2 : ByteArray) (a1_3 : Int) (r : Int) (w : World) (h : QbA.f a0_0 a0_1 a0_2 a0_3 a1_0 a1_1 a1_2 a1_3 = some r) :
  Calls Try.prog 74 #[.agg #[.string a0_0, .string a0_1, .string a0_2, .int .i64 a0_3], .agg #[.string a1_0, .string a1_1, .string a1_2, .int .i64 a1_3]] w fun e w' => e = .returned (.int .i64 r) ∧ Below w.heap.size w w' := by
 have hu46 := Try.underlying46
 have HB := Aside0.mk (Below.refl w.heap.size w)
 have H : ((Qbq.f a0_0 a1_0).bind fun t183 => (if t183 = 0 then ((Qbq.f a0_1 a1_1).bind fun t184 => (if t184 = 0 then ((Qbq.f a0_2 a1_2).bind fun t185 => (some t185)) else (some t184))) else (some t183))) = some r := h
 clear h
 replace H := Option.bind_eq_some_iff.mp H
 obtain ⟨t183, A30, H⟩ := H
 replace H : (if t183 = 0 then ((Qbq.f a0_1 a1_1).bind fun t184 => (if t184 = 0 then ((Qbq.f a0_2 a1_2).bind fun t185 => (some t185)) else (some t184))) else (some t183)) = some r := H
 have A3 := Aside0.mk A30
 clear A30
 go_enter Try.func74, Try.ntmps74
 go_upto_if 15 with (first | ((with_reducible refine QaL (N := 2) rfl ?_); refine Zbx (N := 2) (cs := #[.string a0_0, .string a0_1, .string a0_2, .int .i64 a0_3]) (t := 46) ?_; intro gb181 hg w4 hbox hb; have BK181 := Aside0.mk (hbox); have GW181 := Aside0.mk (Zt w hg (Zb)); have GE181 := GW181; replace HB := Aside0.mk (Qan (Zb) hb); clear hb hbox hg) | ((with_reducible refine QaL (N := 3) rfl ?_); refine Zbx (N := 3) (cs := #[.string a1_0, .string a1_1, .string a1_2, .int .i64 a1_3]) (t := 46) ?_; intro gb182 hg w5 hbox hb; have BK182 := Aside0.mk (hbox); have GW182 := Aside0.mk (Zt w hg (Zc1 GE181.out)); have GE182 := GW182; have NB181_182 := Aside0.mk (Zn hg BK181.out); have NB182_181 := Aside0.mk NB181_182.out.symm; replace BK181 := Aside0.mk (Zi BK181.out hb); replace HB := Aside0.mk (Qan (Zc1 GE181.out) hb); clear hb hbox hg; have hnb6 := NB181_182.out; have hnc6 := NB182_181.out; obtain ⟨hcz7_0, hfz7_0⟩ := Zy (v := (.string a0_0)) BK181.out 0; obtain ⟨hcz7_1, hfz7_1⟩ := Zy (v := (.string a0_1)) BK181.out 1; obtain ⟨hcz7_2, hfz7_2⟩ := Zy (v := (.string a0_2)) BK181.out 2; obtain ⟨hcz7_3, hfz7_3⟩ := Zy (v := (.int .i64 a0_3)) BK181.out 3; obtain ⟨hcz8_0, hfz8_0⟩ := Zy (v := (.string a1_0)) BK182.out 0; obtain ⟨hcz8_1, hfz8_1⟩ := Zy (v := (.string a1_1)) BK182.out 1; obtain ⟨hcz8_2, hfz8_2⟩ := Zy (v := (.string a1_2)) BK182.out 2; obtain ⟨hcz8_3, hfz8_3⟩ := Zy (v := (.int .i64 a1_3)) BK182.out 3) | ((with_reducible refine Qaw (f := 107) rfl ?_); refine goesL_ (some 13) rfl rfl Try.func107 (by kernel_rfl) rfl #[.string a0_0, .string a1_0] rfl (Zl) ?_; (with_reducible refine (Qbq.calls a0_0 a1_0 t183 _ A3.out).mono ?_); rintro e w' ⟨rfl, ⟨nd, rfl⟩⟩; refine ⟨_, rfl, ?_⟩))
 (try simp only [Act.put, Zj, Zk, Zm])
 by_cases c9 : t183 = 0
 ·rw [if_pos c9] at H
  have c9b0 : (t183 == 0) = T := beq_iff_eq.mpr c9
  have c9b1 : (t183 != 0) = F := bne_eq_false_iff_eq.mpr c9
  clear c9
  (try simp only [c9b0, c9b1])
  replace H := Option.bind_eq_some_iff.mp H
  obtain ⟨t184, A100, H⟩ := H
  replace H : (if t184 = 0 then ((Qbq.f a0_2 a1_2).bind fun t185 => (some t185)) else (some t184)) = some r := H
  have A10 := Aside0.mk A100
  clear A100
  have hnb11 := NB181_182.out
  have hnc11 := NB182_181.out
  obtain ⟨hcz12_0, hfz12_0⟩ := Zy (v := (.string a0_0)) BK181.out 0
  obtain ⟨hcz12_1, hfz12_1⟩ := Zy (v := (.string a0_1)) BK181.out 1
  obtain ⟨hcz12_2, hfz12_2⟩ := Zy (v := (.string a0_2)) BK181.out 2
  obtain ⟨hcz12_3, hfz12_3⟩ := Zy (v := (.int .i64 a0_3)) BK181.out 3
  obtain ⟨hcz13_0, hfz13_0⟩ := Zy (v := (.string a1_0)) BK182.out 0
  obtain ⟨hcz13_1, hfz13_1⟩ := Zy (v := (.string a1_1)) BK182.out 1
  obtain ⟨hcz13_2, hfz13_2⟩ := Zy (v := (.string a1_2)) BK182.out 2
  obtain ⟨hcz13_3, hfz13_3⟩ := Zy (v := (.int .i64 a1_3)) BK182.out 3
  go_upto_if 25 with (first | ((with_reducible refine Qaw (f := 107) rfl ?_); refine goesL_ (some 23) rfl rfl Try.func107 (by kernel_rfl) rfl #[.string a0_1, .string a1_1] rfl (Zl) ?_; (with_reducible refine (Qbq.calls a0_1 a1_1 t184 _ A10.out).mono ?_); rintro e w' ⟨rfl, ⟨nd, rfl⟩⟩; refine ⟨_, rfl, ?_⟩))
  (try simp only [Act.put, Zj, Zk, Zm])
  by_cases c14 : t184 = 0
  ·rw [if_pos c14] at H
   have c14b0 : (t184 == 0) = T := beq_iff_eq.mpr c14
   have c14b1 : (t184 != 0) = F := bne_eq_false_iff_eq.mpr c14
   clear c14
   (try simp only [c14b0, c14b1])
   replace H := Option.bind_eq_some_iff.mp H
   obtain ⟨t185, A150, H⟩ := H
   replace H : (some t185) = some r := H
   have A15 := Aside0.mk A150
   clear A150
   obtain rfl := Option.some.inj H
   have hnb16 := NB181_182.out
   have hnc16 := NB182_181.out
   obtain ⟨hcz17_0, hfz17_0⟩ := Zy (v := (.string a0_0)) BK181.out 0
   obtain ⟨hcz17_1, hfz17_1⟩ := Zy (v := (.string a0_1)) BK181.out 1
   obtain ⟨hcz17_2, hfz17_2⟩ := Zy (v := (.string a0_2)) BK181.out 2
   obtain ⟨hcz17_3, hfz17_3⟩ := Zy (v := (.int .i64 a0_3)) BK181.out 3
   obtain ⟨hcz18_0, hfz18_0⟩ := Zy (v := (.string a1_0)) BK182.out 0
   obtain ⟨hcz18_1, hfz18_1⟩ := Zy (v := (.string a1_1)) BK182.out 1
   obtain ⟨hcz18_2, hfz18_2⟩ := Zy (v := (.string a1_2)) BK182.out 2
   obtain ⟨hcz18_3, hfz18_3⟩ := Zy (v := (.int .i64 a1_3)) BK182.out 3
   go_wp2_with (first | ((with_reducible refine Qaw (f := 107) rfl ?_); refine goesL_ (some 31) rfl rfl Try.func107 (by kernel_rfl) rfl #[.string a0_2, .string a1_2] rfl (Zl) ?_; (with_reducible refine (Qbq.calls a0_2 a1_2 t185 _ A15.out).mono ?_); rintro e w' ⟨rfl, ⟨nd, rfl⟩⟩; refine ⟨_, rfl, ?_⟩))
   go_ret
   exact ⟨Zq, Zc2 GE181.out GE182.out⟩
  rw [if_neg c14] at H
  have c14b0 : (t184 == 0) = F := beq_eq_false_iff_ne.mpr c14
  have c14b1 : (t184 != 0) = T := bne_iff_ne.mpr c14
  (try simp only [c14b0, c14b1])
  obtain rfl := Option.some.inj H
  go_wp2
  go_ret
  exact ⟨Zq, Zc2 GE181.out GE182.out⟩
 rw [if_neg c9] at H
 have c9b0 : (t183 == 0) = F := beq_eq_false_iff_ne.mpr c9
 have c9b1 : (t183 != 0) = T := bne_iff_ne.mpr c9
 (try simp only [c9b0, c9b1])
 obtain rfl := Option.some.inj H
 go_wp2
 go_ret
 exact ⟨Zq, Zc2 GE181.out GE182.out⟩
def Qbb.l0 : Nat → List ByteArray → Int → Int → Option (Bool)
 | 0, _, _, _ => none
 | k + 1, x5, x6, x7 => if x7 < x6 then (if 0 ≤ x7 then (if x7 < (x5.length : Int) then ((QaN.f k (rdOf ByteArray.empty x5 x7)).bind fun t187 => (if t187 = T then (Qbb.l0 k x5 x6 (wrap64 (x7 + 1))) else (some F))) else (none)) else (none)) else (some T)
def Qbb.f (k : Nat) (l0 : List ByteArray) : Option (Bool) := Qbb.l0 k l0 (l0.length : Int) 0
theorem Qbb.mono_l : ∀ k, (∀ y0 y1 y2, LeO (Qbb.l0 k y0 y1 y2) (Qbb.l0 (k + 1) y0 y1 y2))
 | 0 => fun _ _ _ r h => by simp [Qbb.l0] at h
 | k + 1 => by
  have ih0 := Qbb.mono_l k
  intro y0 y1 y2
  unfold Qbb.l0
  exact ZM2 ih0 QaN.mono
theorem Qbb.mono : ∀ a0 k, LeO (Qbb.f k a0) (Qbb.f (k + 1) a0) := by
 intro a0 k
 have ih0 := Qbb.mono_l k
 unfold Qbb.f
 exact ZM2 ih0 QaN.mono
set_option maxHeartbeats 8000000 in
theorem Qbb.calls (k : Nat) (A0 : Option Addr) (c0 : Nat) (l0 : List ByteArray) (r : Bool) (w : World) (hr0 : Kd.C Kd.string w A0 l0.length l0) (hc0 : l0.length ≤ c0) (h : Qbb.f k l0 = some r) :
  Calls Try.prog 83 #[.slice A0 l0.length c0] w fun e w' => e = .returned (.bool r) ∧ Drawn0 w w' := by
 have HR0 := Aside0.mk hr0
 have HC0 := Aside0.mk hc0
 clear hr0 hc0
 have H : (Qbb.l0 k l0 (l0.length : Int) 0) = some r := h
 clear h
 have H' := Aside0.mk H
 clear H
 go_enter Try.func83, Try.ntmps83
 go_wp2
 go_loopg [7] k (fun kq v7 w' => ∃ (x7_1 : Int), v7 = .int .i64 x7_1 ∧ Aside0 (Qbb.l0 kq l0 (l0.length : Int) x7_1 = some r) ∧ Aside0 (kq ≤ k) ∧ Drawn0 w w')
 case atStart => exact ⟨(0), (Zs), H', ⟨Nat.le_refl _⟩, Zd⟩
 case round =>
  clear H'
  obtain ⟨x7_1, rfl, HA, HK1, ⟨m1, rfl⟩⟩ := hrel
  cases gk with
  | zero => exact absurd HA.out (by simp [Qbb.l0])
  | succ k1 =>
   have H := HA.out
   clear HA
   simp only [Qbb.l0] at H
   by_cases c2 : x7_1 < (l0.length : Int)
   ·rw [if_pos c2] at H
    have c2b0 : decide (x7_1 < (l0.length : Int)) = T := decide_eq_true c2
    clear c2
    (try simp only [c2b0])
    by_cases c3 : 0 ≤ x7_1
    ·rw [if_pos c3] at H
     have c3b0 : decide (0 ≤ x7_1) = T := decide_eq_true c3
     clear c3
     by_cases c4 : x7_1 < (l0.length : Int)
     ·rw [if_pos c4] at H
      have c4b0 : decide (x7_1 < (l0.length : Int)) = T := decide_eq_true c4
      clear c4
      replace H := Option.bind_eq_some_iff.mp H
      obtain ⟨t187, A50, H⟩ := H
      replace H : (if t187 = T then (Qbb.l0 k1 l0 (l0.length : Int) (wrap64 (x7_1 + 1))) else (some F)) = some r := H
      have A5 := Aside0.mk A50
      clear A50
      have p186 : 0 ≤ (x7_1 : Int) := Ze
      have q186 : x7_1 < (l0.length : Int) := Ze
      obtain ⟨ad186, e186, hx186_0⟩ := Kd.at_string HR0.out x7_1 p186 q186
      cases e186
      replace p186 := eq_true p186
      replace q186 := eq_true q186
      go_upto_if 13 with (first | ((with_reducible refine Qaw (f := 108) rfl ?_); refine goesL_ (some 12) rfl rfl Try.func108 (by kernel_rfl) rfl #[.string (rdOf ByteArray.empty l0 x7_1)] rfl (Zl) ?_; (with_reducible refine (QaN.calls k1 (rdOf ByteArray.empty l0 x7_1) t187 _ A5.out).mono ?_); rintro e w' ⟨rfl, ⟨nd, rfl⟩⟩; refine ⟨_, rfl, ?_⟩))
      (try simp only [Act.put, Zj, Zk, Zm])
      by_cases c6 : t187 = T
      ·subst c6
       have H1 : (Qbb.l0 k1 l0 (l0.length : Int) (wrap64 (x7_1 + 1))) = some r := by rw [if_pos rfl] at H; exact H
       clear H
       have H := H1
       clear H1
       have H' := Aside0.mk H
       clear H
       go_wp2
       go_roundg k1
       case measure => have := HK1.out; omega
       case rel => exact ⟨(wrap64 (x7_1 + 1)), (Zs), H', ⟨by have := HK1.out; omega⟩, Zd⟩
      replace c6 := Bool.eq_false_iff.mpr c6
      subst c6
      have H1 : (some F) = some r := by rw [if_neg (show ¬ (F = T) by decide)] at H; exact H
      clear H
      have H := H1
      clear H1
      obtain rfl := Option.some.inj H
      go_wp2
      go_ret
      exact ⟨Zs, Zd⟩
     rw [if_neg c4] at H
     exact absurd H (by simp)
    rw [if_neg c3] at H
    exact absurd H (by simp)
   rw [if_neg c2] at H
   have c2b0 : decide (x7_1 < (l0.length : Int)) = F := decide_eq_false c2
   clear c2
   (try simp only [c2b0])
   obtain rfl := Option.some.inj H
   go_wp2
   go_ret
   exact ⟨Zs, Zd⟩
mutual
def QaF.l0 : Nat → List (S46) → List (S46) → Int → Int → Option (Int)
 | 0, _, _, _, _ => none
 | k + 1, x0, x8, x9, x10 => if x10 < x9 then (if 0 ≤ x10 then (if x10 < (x8.length : Int) then ((Qbb.f k (([(rd_T46 x8 x10).f0.f0, (rd_T46 x8 x10).f0.f1, (rd_T46 x8 x10).f1] : List ByteArray))).bind fun t193 => (if t193 = T then (if x10 > 0 then (if 0 ≤ (wrap64 (x10 - 1)) then (if (wrap64 (x10 - 1)) < (x0.length : Int) then ((QbA.f ((rd_T46 x0 (wrap64 (x10 - 1))).f0.f0) ((rd_T46 x0 (wrap64 (x10 - 1))).f0.f1) ((rd_T46 x0 (wrap64 (x10 - 1))).f1) ((rd_T46 x0 (wrap64 (x10 - 1))).f2) ((rd_T46 x8 x10).f0.f0) ((rd_T46 x8 x10).f0.f1) ((rd_T46 x8 x10).f1) ((rd_T46 x8 x10).f2)).bind fun t195 => (QaF.j1 k x0 x8 x9 x10 (decide (t195 ≥ 0)) ((rd_T46 x8 x10).f0.f0) ((rd_T46 x8 x10).f0.f1) ((rd_T46 x8 x10).f1) ((rd_T46 x8 x10).f2))) else (none)) else (none)) else (QaF.j1 k x0 x8 x9 x10 F ((rd_T46 x8 x10).f0.f0) ((rd_T46 x8 x10).f0.f1) ((rd_T46 x8 x10).f1) ((rd_T46 x8 x10).f2))) else (some 10))) else (none)) else (none)) else (some 0)
def QaF.j1 : Nat → List (S46) → List (S46) → Int → Int → Bool → ByteArray → ByteArray → ByteArray → Int → Option (Int)
 | 0, _, _, _, _, _, _, _, _, _ => none
 | k + 1, x0, x8, x9, x10, x27, x190000, x190001, x190002, x190003 => if x27 = T then (some 12) else ((QbT.f x190003).bind fun t196 => (if t196 = T then (QaF.l0 k x0 x8 x9 (wrap64 (x10 + 1))) else (some 18)))
end
def QaF.f (k : Nat) (l0 : List (S46)) : Option (Int) := if (l0.length : Int) > 1024 then (some 8) else (QaF.l0 k l0 l0 (l0.length : Int) 0)
theorem QaF.mono_l : ∀ k, (∀ y0 y1 y2 y3, LeO (QaF.l0 k y0 y1 y2 y3) (QaF.l0 (k + 1) y0 y1 y2 y3)) ∧ (∀ y0 y1 y2 y3 y4 y5 y6 y7 y8, LeO (QaF.j1 k y0 y1 y2 y3 y4 y5 y6 y7 y8) (QaF.j1 (k + 1) y0 y1 y2 y3 y4 y5 y6 y7 y8))
 | 0 => ⟨fun _ _ _ _ r h => by simp [QaF.l0] at h, fun _ _ _ _ _ _ _ _ _ r h => by simp [QaF.j1] at h⟩
 | k + 1 => by
  obtain ⟨ih0, ih1⟩ := QaF.mono_l k
  refine ⟨?_, ?_⟩
  ·intro y0 y1 y2 y3
   unfold QaF.l0
   exact ZM3 ih0 ih1 Qbb.mono
  intro y0 y1 y2 y3 y4 y5 y6 y7 y8
  unfold QaF.j1
  exact ZM3 ih0 ih1 Qbb.mono
theorem QaF.mono : ∀ a0 k, LeO (QaF.f k a0) (QaF.f (k + 1) a0) := by
 intro a0 k
 obtain ⟨ih0, ih1⟩ := QaF.mono_l k
 unfold QaF.f
 exact ZM3 ih0 ih1 Qbb.mono
def QaF.T8 : Bool × List (List Nat × List Nat) := (T, [([], []), ([0], [0]), ([1], [1]), ([2], [2]), ([2], [2]), ([4, 2], [2, 4]), ([3, 5, 2], [2, 3, 5]), ([6, 2], [2, 6]), ([2], [2]), ([7, 8, 2, 2], [2, 7, 8]), ([9, 2], [2, 9]), ([2, 10], [2, 10]), ([11, 9], [11])])
def QaF.B8 : List Nat := [0, 1, 3, 7, 7, 23, 63, 127, 7, 511, 1023, 2047, 4095]
theorem QaF.tab8 : rtab .any (opsOf Try.f71 8) = QaF.T8 := by kernel_rfl
theorem QaF.bits8 : Qb0 QaF.T8.2 QaF.B8 = T := by kernel_rfl
set_option maxHeartbeats 8000000 in
theorem QaF.calls (k : Nat) (A0 : Option Addr) (c0 : Nat) (l0 : List (S46)) (r : Int) (w : World) (hr0 : Kd.C k46 w A0 l0.length l0) (hc0 : l0.length ≤ c0) (h : QaF.f k l0 = some r) :
  Calls Try.prog 71 #[.slice A0 l0.length c0] w fun e w' => e = .returned (.int .i64 r) ∧ Below w.heap.size w w' := by
 have hu46 := Try.underlying46
 have HR0 := Aside0.mk hr0
 have HC0 := Aside0.mk hc0
 clear hr0 hc0
 have HB := Aside0.mk (Below.refl w.heap.size w)
 have H : (if (l0.length : Int) > 1024 then (some 8) else (QaF.l0 k l0 l0 (l0.length : Int) 0)) = some r := h
 clear h
 by_cases c2 : (l0.length : Int) > 1024
 ·rw [if_pos c2] at H
  have c2b0 : decide (1024 < (l0.length : Int)) = T := decide_eq_true c2
  have c2b1 : decide (1024 < l0.length) = T := decide_eq_true (by omega)
  clear c2
  obtain rfl := Option.some.inj H
  go_enter Try.func71, Try.ntmps71
  go_wp2
  go_ret
  exact ⟨Zq, Zb⟩
 rw [if_neg c2] at H
 have c2b0 : decide (1024 < (l0.length : Int)) = F := decide_eq_false c2
 have c2b1 : decide (1024 < l0.length) = F := decide_eq_false (by omega)
 clear c2
 have H' := Aside0.mk H
 clear H
 go_enter Try.func71, Try.ntmps71
 go_wp2
 go_loopg [10] k (fun kq v10 w' => ∃ (x10_1 : Int), v10 = .int .i64 x10_1 ∧ Aside0 (QaF.l0 kq l0 l0 (l0.length : Int) x10_1 = some r) ∧ Aside0 (kq ≤ k) ∧ Aside0 (Below w.heap.size w w'))
 case atStart => exact ⟨(0), (Zs), H', ⟨Nat.le_refl _⟩, ⟨Zb⟩⟩
 case round =>
  clear H'
  try clear c2
  try clear c2b0
  try clear c2b1
  try clear p2
  obtain ⟨x10_1, rfl, HA, HK1, HB⟩ := hrel
  cases gk with
  | zero => exact absurd HA.out (by simp [QaF.l0])
  | succ k1 =>
   have H := HA.out
   clear HA
   simp only [QaF.l0] at H
   by_cases c3 : x10_1 < (l0.length : Int)
   ·rw [if_pos c3] at H
    have c3b0 : decide (x10_1 < (l0.length : Int)) = T := decide_eq_true c3
    clear c3
    (try simp only [c3b0])
    by_cases c4 : 0 ≤ x10_1
    ·rw [if_pos c4] at H
     have c4b0 : decide (0 ≤ x10_1) = T := decide_eq_true c4
     clear c4
     by_cases c5 : x10_1 < (l0.length : Int)
     ·rw [if_pos c5] at H
      have c5b0 : decide (x10_1 < (l0.length : Int)) = T := decide_eq_true c5
      clear c5
      obtain ⟨y190, hy190⟩ : ∃ y_ : List ByteArray, y_ = (([(rd_T46 l0 x10_1).f0.f0, (rd_T46 l0 x10_1).f0.f1, (rd_T46 l0 x10_1).f1] : List ByteArray)) := ⟨_, rfl⟩
      replace H : ((Qbb.f k1 y190).bind fun t193 => (if t193 = T then (if x10_1 > 0 then (if 0 ≤ (wrap64 (x10_1 - 1)) then (if (wrap64 (x10_1 - 1)) < (l0.length : Int) then ((QbA.f ((rd_T46 l0 (wrap64 (x10_1 - 1))).f0.f0) ((rd_T46 l0 (wrap64 (x10_1 - 1))).f0.f1) ((rd_T46 l0 (wrap64 (x10_1 - 1))).f1) ((rd_T46 l0 (wrap64 (x10_1 - 1))).f2) ((rd_T46 l0 x10_1).f0.f0) ((rd_T46 l0 x10_1).f0.f1) ((rd_T46 l0 x10_1).f1) ((rd_T46 l0 x10_1).f2)).bind fun t195 => (QaF.j1 k1 l0 l0 (l0.length : Int) x10_1 (decide (t195 ≥ 0)) ((rd_T46 l0 x10_1).f0.f0) ((rd_T46 l0 x10_1).f0.f1) ((rd_T46 l0 x10_1).f1) ((rd_T46 l0 x10_1).f2))) else (none)) else (none)) else (QaF.j1 k1 l0 l0 (l0.length : Int) x10_1 F ((rd_T46 l0 x10_1).f0.f0) ((rd_T46 l0 x10_1).f0.f1) ((rd_T46 l0 x10_1).f1) ((rd_T46 l0 x10_1).f2))) else (some 10))) = some r := by first | (rw [hy190]; with_reducible exact H) | (have H2_ := (Option.bind_some _ _).symm.trans H; rw [hy190]; with_reducible exact H2_) | (have H2_ := (Option.bind_some _ _).symm.trans H; with_reducible exact H2_) | with_reducible exact H | (rw [hy190]; exact H) | exact H
      have Ny190 := Aside0.mk hy190
      clear hy190
      replace H := Option.bind_eq_some_iff.mp H
      obtain ⟨t193, A60, H⟩ := H
      replace H : (if t193 = T then (if x10_1 > 0 then (if 0 ≤ (wrap64 (x10_1 - 1)) then (if (wrap64 (x10_1 - 1)) < (l0.length : Int) then ((QbA.f ((rd_T46 l0 (wrap64 (x10_1 - 1))).f0.f0) ((rd_T46 l0 (wrap64 (x10_1 - 1))).f0.f1) ((rd_T46 l0 (wrap64 (x10_1 - 1))).f1) ((rd_T46 l0 (wrap64 (x10_1 - 1))).f2) ((rd_T46 l0 x10_1).f0.f0) ((rd_T46 l0 x10_1).f0.f1) ((rd_T46 l0 x10_1).f1) ((rd_T46 l0 x10_1).f2)).bind fun t195 => (QaF.j1 k1 l0 l0 (l0.length : Int) x10_1 (decide (t195 ≥ 0)) ((rd_T46 l0 x10_1).f0.f0) ((rd_T46 l0 x10_1).f0.f1) ((rd_T46 l0 x10_1).f1) ((rd_T46 l0 x10_1).f2))) else (none)) else (none)) else (QaF.j1 k1 l0 l0 (l0.length : Int) x10_1 F ((rd_T46 l0 x10_1).f0.f0) ((rd_T46 l0 x10_1).f0.f1) ((rd_T46 l0 x10_1).f1) ((rd_T46 l0 x10_1).f2))) else (some 10)) = some r := H
      have A6 := Aside0.mk A60
      clear A60
      have p188 : 0 ≤ (x10_1 : Int) := Ze
      have q188 : x10_1 < (l0.length : Int) := Ze
      obtain ⟨ad188, e188, hx188_0, hx188_1, hx188_2, hx188_3⟩ := at_T46 HR0.out x10_1 p188 q188
      cases e188
      replace hx188_0 := Zx HB.out hx188_0
      replace hx188_1 := Zx HB.out hx188_1
      replace hx188_2 := Zx HB.out hx188_2
      replace hx188_3 := Zx HB.out hx188_3
      replace p188 := eq_true p188
      replace q188 := eq_true q188
      go_upto_if 15 with (first | ((with_reducible refine QaL (N := 4) rfl ?_); refine Zbx (N := 4) (cs := #[.string (⟨#[]⟩ : ByteArray), .string (⟨#[]⟩ : ByteArray), .string (⟨#[]⟩ : ByteArray), .int .i64 0]) (t := 46) ?_; intro gb189 hg w7 hbox hb; have BK189 := Aside0.mk (hbox); have GW189 := Aside0.mk (Zt w hg (Zb)); have GE189 := GW189; replace HB := Aside0.mk (Qan (Zb) hb); clear hb hbox hg; obtain ⟨hcz8_0, hfz8_0⟩ := Zy (v := (.string (⟨#[]⟩ : ByteArray))) BK189.out 0; obtain ⟨hcz8_1, hfz8_1⟩ := Zy (v := (.string (⟨#[]⟩ : ByteArray))) BK189.out 1; obtain ⟨hcz8_2, hfz8_2⟩ := Zy (v := (.string (⟨#[]⟩ : ByteArray))) BK189.out 2; obtain ⟨hcz8_3, hfz8_3⟩ := Zy (v := (.int .i64 0)) BK189.out 3) | ((with_reducible refine QaL (N := 24) rfl ?_); refine Kd.R_lit Kd.string _ 9 ?hg (N := 24) ?hd (xs := ([(rd_T46 l0 x10_1).f0.f0, (rd_T46 l0 x10_1).f0.f1, (rd_T46 l0 x10_1).f1] : List ByteArray)) (inner := [.string ((rd_T46 l0 x10_1).f0.f0), .string ((rd_T46 l0 x10_1).f0.f1), .string ((rd_T46 l0 x10_1).f1)]) (ok := fun _ => True) (okp := fun _ => True) ?hr ?hp (fun _ hk => hk) trivial (Below.refl _ _) (Nat.le_refl _) (by simp) ?_; (case hd => rfl); (case hg => rfl); (case hr => first | (go_simp; done) | (go_simp; rfl)); (case hp => exact (Reps.one (show Kd.M Kd.string _ _ _ ((rd_T46 l0 x10_1).f0.f0) [.string ((rd_T46 l0 x10_1).f0.f0)] from rfl) (Reps.one (show Kd.M Kd.string _ _ _ ((rd_T46 l0 x10_1).f0.f1) [.string ((rd_T46 l0 x10_1).f0.f1)] from rfl) (Reps.one (show Kd.M Kd.string _ _ _ ((rd_T46 l0 x10_1).f1) [.string ((rd_T46 l0 x10_1).f1)] from rfl) (Reps.none _ _))))); intro v191 w9 ho10 hb hg_ hnew_; clear hg_ hnew_; (first | rw [← Ny190.out] at ho10 | (simp only [Int.reduceToNat] at ho10; rw [← Ny190.out] at ho10)); have HO192 := Aside0.mk (Kd.R_lower ho10 (Qam (Zc1 GE189.out))); replace BK189 := Aside0.mk (Zpi #[.string ((rd_T46 l0 x10_1).f0.f0), .string ((rd_T46 l0 x10_1).f0.f1), .string ((rd_T46 l0 x10_1).f1), .int .i64 ((rd_T46 l0 x10_1).f2)] BK189.out hb); replace HB := Aside0.mk (Qan (Zc1 GE189.out) hb); clear hb ho10; obtain ⟨Ao11, co11, eo11⟩ := Kd.R_slice HO192.out; subst eo11) | ((with_reducible refine Qaw (f := 83) rfl ?_); refine goesL_ (some 25) rfl rfl Try.func83 (by kernel_rfl) rfl #[.slice Ao11 y190.length co11] rfl (Zl) ?_; (with_reducible refine (Qbb.calls k1 _ _ y190 t193 _ ?side1 ?side2 A6.out).mono ?_); (case side1 => exact Zv (Kd.R_reads' HO192.out).2.2); (case side2 => exact (Kd.R_reads' HO192.out).2.1); rintro e w' ⟨rfl, ⟨nd, rfl⟩⟩; refine ⟨_, rfl, ?_⟩))
      (try simp only [Act.put, Zj, Zk, Zm])
      by_cases c12 : t193 = T
      ·subst c12
       have H1 : (if x10_1 > 0 then (if 0 ≤ (wrap64 (x10_1 - 1)) then (if (wrap64 (x10_1 - 1)) < (l0.length : Int) then ((QbA.f ((rd_T46 l0 (wrap64 (x10_1 - 1))).f0.f0) ((rd_T46 l0 (wrap64 (x10_1 - 1))).f0.f1) ((rd_T46 l0 (wrap64 (x10_1 - 1))).f1) ((rd_T46 l0 (wrap64 (x10_1 - 1))).f2) ((rd_T46 l0 x10_1).f0.f0) ((rd_T46 l0 x10_1).f0.f1) ((rd_T46 l0 x10_1).f1) ((rd_T46 l0 x10_1).f2)).bind fun t195 => (QaF.j1 k1 l0 l0 (l0.length : Int) x10_1 (decide (t195 ≥ 0)) ((rd_T46 l0 x10_1).f0.f0) ((rd_T46 l0 x10_1).f0.f1) ((rd_T46 l0 x10_1).f1) ((rd_T46 l0 x10_1).f2))) else (none)) else (none)) else (QaF.j1 k1 l0 l0 (l0.length : Int) x10_1 F ((rd_T46 l0 x10_1).f0.f0) ((rd_T46 l0 x10_1).f0.f1) ((rd_T46 l0 x10_1).f1) ((rd_T46 l0 x10_1).f2))) = some r := by rw [if_pos rfl] at H; exact H
       clear H
       have H := H1
       clear H1
       have HC13 := Aside0.mk H
       clear H
       go_upto_region 8 with (fail)
       go_cut [27] (fun v27 wc => ∃ (kq : Nat) (x27_12 : Bool), v27 = .bool x27_12 ∧ Aside0 (QaF.j1 kq l0 l0 (l0.length : Int) x10_1 x27_12 ((rd_T46 l0 x10_1).f0.f0) ((rd_T46 l0 x10_1).f0.f1) ((rd_T46 l0 x10_1).f1) ((rd_T46 l0 x10_1).f2) = some r) ∧ Aside0 (kq ≤ k1) ∧ Aside0 (wc.heap[gb189]? = some (.cells #[.string ((rd_T46 l0 x10_1).f0.f0), .string ((rd_T46 l0 x10_1).f0.f1), .string ((rd_T46 l0 x10_1).f1), .int .i64 ((rd_T46 l0 x10_1).f2)] 46 (0, 0))) ∧ Aside0 (Below w.heap.size w wc))
       case first =>
        have H := HC13.out
        clear HC13
        by_cases c14 : x10_1 > 0
        ·rw [if_pos c14] at H
         have c14b0 : decide (0 < x10_1) = T := decide_eq_true c14
         clear c14
         (first | rw [c14b0] | (simp only [i64_w, i32_w]; rw [c14b0]) | skip)
         obtain ⟨ji15, hji15⟩ : ∃ j_ : Int, (wrap64 (x10_1 - 1)) = j_ := ⟨_, rfl⟩
         replace H : (if 0 ≤ (ji15) then (if (ji15) < (l0.length : Int) then ((QbA.f ((rd_T46 l0 (ji15)).f0.f0) ((rd_T46 l0 (ji15)).f0.f1) ((rd_T46 l0 (ji15)).f1) ((rd_T46 l0 (ji15)).f2) ((rd_T46 l0 x10_1).f0.f0) ((rd_T46 l0 x10_1).f0.f1) ((rd_T46 l0 x10_1).f1) ((rd_T46 l0 x10_1).f2)).bind fun t195 => (QaF.j1 k1 l0 l0 (l0.length : Int) x10_1 (decide (t195 ≥ 0)) ((rd_T46 l0 x10_1).f0.f0) ((rd_T46 l0 x10_1).f0.f1) ((rd_T46 l0 x10_1).f1) ((rd_T46 l0 x10_1).f2))) else (none)) else (none)) = some r := by first | (rw [hji15] at H; exact H) | (simp only [hji15] at H ⊢; exact H)
         have hji15w : (IntKind.i64.wrap (x10_1 - 1)) = ji15 := (i64_w _).trans hji15
         by_cases c16 : 0 ≤ (ji15)
         ·rw [if_pos c16] at H
          have c16b0 : decide (0 ≤ (ji15)) = T := decide_eq_true c16
          clear c16
          by_cases c17 : (ji15) < (l0.length : Int)
          ·rw [if_pos c17] at H
           have c17b0 : decide ((ji15) < (l0.length : Int)) = T := decide_eq_true c17
           clear c17
           replace H := Option.bind_eq_some_iff.mp H
           obtain ⟨t195, A180, H⟩ := H
           replace H : (QaF.j1 k1 l0 l0 (l0.length : Int) x10_1 (decide (t195 ≥ 0)) ((rd_T46 l0 x10_1).f0.f0) ((rd_T46 l0 x10_1).f0.f1) ((rd_T46 l0 x10_1).f1) ((rd_T46 l0 x10_1).f2)) = some r := H
           have A18 := Aside0.mk A180
           clear A180
           have H' := Aside0.mk H
           clear H
           try go_wp2
           (try (rw [QcM w9]; generalize hq_ : World.drewN w9 _ = w9; have n0_ : Aside0 (Kd.R Kd.string 9 w9 w.heap.size (fun _ => True) (.slice Ao11 y190.length co11) y190) := ⟨by rw [← hq_]; exact (Zr HO192.out)⟩; have n1_ : Aside0 (w9.heap[gb189]? = some (.cells #[.string ((rd_T46 l0 x10_1).f0.f0), .string ((rd_T46 l0 x10_1).f0.f1), .string ((rd_T46 l0 x10_1).f1), .int .i64 ((rd_T46 l0 x10_1).f2)] 46 (0, 0))) := ⟨by rw [← hq_]; exact (Zu BK189.out)⟩; have n2_ : Aside0 (Below w.heap.size w w9) := ⟨by rw [← hq_]; exact (Zc1 GE189.out)⟩; clear HO192 BK189 HB hq_; have HO192 := n0_; have BK189 := n1_; have HB := n2_; clear n0_ n1_ n2_))
           replace HO192 := Aside0.mk (Kd.R_drew HO192.out)
           replace BK189 := Aside0.mk (Qad BK189.out)
           replace HB := Aside0.mk (Qag HB.out)
           have p194 : 0 ≤ ((ji15) : Int) := Ze
           have q194 : (ji15) < (l0.length : Int) := Ze
           obtain ⟨ad194, e194, hx194_0, hx194_1, hx194_2, hx194_3⟩ := at_T46 HR0.out (ji15) p194 q194
           have hw194_3 := hx194_3
           have hw194_2 := hx194_2
           have hw194_1 := hx194_1
           have hw194_0 := hx194_0
           obtain rfl : ad188 = ad194 := (by injection e194)
           replace hx194_0 := Zx HB.out hx194_0
           replace hx194_1 := Zx HB.out hx194_1
           replace hx194_2 := Zx HB.out hx194_2
           replace hx194_3 := Zx HB.out hx194_3
           replace p194 := eq_true p194
           replace q194 := eq_true q194
           refine start_ (n := 13) (S := fun w' => w'.cell? ⟨gb189, 0, none⟩ = some (.string ((rd_T46 l0 x10_1).f0.f0)) ∧ w'.cell? ⟨gb189, 1, none⟩ = some (.string ((rd_T46 l0 x10_1).f0.f1)) ∧ w'.cell? ⟨gb189, 2, none⟩ = some (.string ((rd_T46 l0 x10_1).f1)) ∧ w'.cell? ⟨gb189, 3, none⟩ = some (.int .i64 ((rd_T46 l0 x10_1).f2)) ∧ w'.cell? (ad188.add (((ji15)).toNat * 4)) = some (.string ((rd_T46 l0 (ji15)).f0.f0)) ∧ w'.cell? ⟨(ad188.add (((ji15)).toNat * 4)).block, (ad188.add (((ji15)).toNat * 4)).off + 1, none⟩ = some (.string ((rd_T46 l0 (ji15)).f0.f1)) ∧ w'.cell? ⟨(ad188.add (((ji15)).toNat * 4)).block, (ad188.add (((ji15)).toNat * 4)).off + 2, none⟩ = some (.string ((rd_T46 l0 (ji15)).f1)) ∧ w'.cell? ⟨(ad188.add (((ji15)).toNat * 4)).block, (ad188.add (((ji15)).toNat * 4)).off + 3, none⟩ = some (.int .i64 ((rd_T46 l0 (ji15)).f2))) (ds := []) #[F, F, F, F, F, F, F, F, F, F, F, F, F] (by kernel_rfl) rfl rfl ⟨(Qai BK189.out 0).trans rfl, (Qai BK189.out 1).trans rfl, (Qai BK189.out 2).trans rfl, (Qai BK189.out 3).trans rfl, ((HB.out.cell (World.block_lt_of_cell? w _ hw194_0)).trans hw194_0), ((HB.out.cell (World.block_lt_of_cell? w _ hw194_1)).trans hw194_1), ((HB.out.cell (World.block_lt_of_cell? w _ hw194_2)).trans hw194_2), ((HB.out.cell (World.block_lt_of_cell? w _ hw194_3)).trans hw194_3)⟩ (fun hHeld => ?_); refine QbW QaF.tab8 QaF.bits8 (fun HT_ HW_ => ?_)
           generalize w9.drew = w19 at HO192 BK189 HB hx194_0 hx194_1 hx194_2 hx194_3 hHeld ⊢
           refine pure_ (i := 0) (N := some 28) (v := ?_) (a' := ?_) #[T, F, F, F, F, F, F, F, F, F, F, F, F] rfl rfl (any_of HT_.out (by kernel_rfl)) (fun _ _ _ h => h) (Or.inl ⟨by rfl, ?_⟩) ?_ ?_
           rotate_left
           ·intro w'
            go_simp
            with_reducible rfl
           rotate_left
           ·simp only [Act.put, Zj, Zk, Zm, i64_w, i32_w]
            rfl
           refine pure_ (i := 1) (N := some 29) (v := ?_) (a' := ?_) #[T, T, F, F, F, F, F, F, F, F, F, F, F] rfl rfl (any_of HT_.out (by kernel_rfl)) (fun _ _ _ h => h) (Or.inl ⟨by rfl, ?_⟩) ?_ ?_
           rotate_left
           ·intro w'
            go_simp
            with_reducible rfl
           rotate_left
           ·simp only [Act.put, Zj, Zk, Zm, i64_w, i32_w]
            rfl
           refine pure_ (i := 2) (N := some 30) (v := ?_) (a' := ?_) #[T, T, T, F, F, F, F, F, F, F, F, F, F] rfl rfl (any_of HT_.out (by kernel_rfl)) (fun _ _ _ h => h) (Or.inl ⟨by rfl, ?_⟩) ?_ ?_
           rotate_left
           ·intro w'
            go_simp
            with_reducible rfl
           rotate_left
           ·simp only [Act.put, Zj, Zk, Zm, i64_w, i32_w]
            rfl
           refine pure_ (i := 3) (N := some 31) (v := ?_) (a' := ?_) #[T, T, T, T, F, F, F, F, F, F, F, F, F] rfl rfl (any_of HT_.out (by kernel_rfl)) (fun _ _ _ h => h) (Or.inl ⟨by rfl, ?_⟩) ?_ ?_
           rotate_left
           ·intro w'
            go_simp
            with_reducible rfl
           rotate_left
           ·simp only [Act.put, Zj, Zk, Zm, i64_w, i32_w]
            rfl
           refine pure_ (i := 4) (N := some 32) (v := ?_) (a' := ?_) #[T, T, T, T, T, F, F, F, F, F, F, F, F] rfl rfl (any_of HT_.out (by kernel_rfl)) (fun _ _ _ h => h) (Or.inl ⟨by rfl, ?_⟩) ?_ ?_
           rotate_left
           ·intro w'
            go_simp
            with_reducible rfl
           rotate_left
           ·simp only [Act.put, Zj, Zk, Zm, i64_w, i32_w]
            rfl
           refine pure_ (i := 5) (N := some 33) (v := ?_) (a' := ?_) #[T, T, T, T, T, T, F, F, F, F, F, F, F] rfl rfl (any_of HT_.out (by kernel_rfl)) (fun _ _ _ h => h) (Or.inl ⟨by rfl, ?_⟩) ?_ ?_
           rotate_left
           ·intro w'
            go_simp
            with_reducible rfl
           rotate_left
           ·simp only [Act.put, Zj, Zk, Zm, i64_w, i32_w]
            rfl
           refine pure_ (i := 6) (N := some 34) (v := ?_) (a' := ?_) #[T, T, T, T, T, T, T, F, F, F, F, F, F] rfl rfl (any_of HT_.out (by kernel_rfl)) (fun _ _ _ h => h) (Or.inl ⟨by rfl, ?_⟩) ?_ ?_
           rotate_left
           ·intro w'
            go_simp
            with_reducible rfl
           rotate_left
           ·simp only [Act.put, Zj, Zk, Zm, i64_w, i32_w]
            rfl
           refine take_ (i := 7) (N := some 35) (v := ?_) (a' := ?_) #[T, T, T, T, T, T, T, T, F, F, F, F, F] rfl rfl (QbJ HT_.out HW_.out (by kernel_rfl)) (fun _ _ _ h => h) (Or.inl ⟨by rfl, ?_⟩) hHeld ?_ ?_
           rotate_left
           ·rintro w' ⟨s0, s1, s2, s3, s4, s5, s6, s7⟩
            go_simp
            with_reducible rfl
           rotate_left
           ·simp only [Act.put, Zj, Zk, Zm, i64_w, i32_w]
            rfl
           refine take_ (i := 8) (N := some 36) (v := ?_) (a' := ?_) #[T, T, T, T, T, T, T, T, T, F, F, F, F] rfl rfl (QbJ HT_.out HW_.out (by kernel_rfl)) (fun _ _ _ h => h) (Or.inl ⟨by rfl, ?_⟩) hHeld ?_ ?_
           rotate_left
           ·rintro w' ⟨s0, s1, s2, s3, s4, s5, s6, s7⟩
            go_simp
            with_reducible rfl
           rotate_left
           ·simp only [Act.put, Zj, Zk, Zm, i64_w, i32_w]
            rfl
           refine one_ (i := 9) (N := some 37) #[T, T, T, T, T, T, T, T, T, T, F, F, F] rfl rfl (one_of HT_.out (by kernel_rfl)) (by decide) (fun K hK => ?_)
           refine goes_ Try.func74 (by kernel_rfl) rfl #[.agg #[.string ((rd_T46 l0 (ji15)).f0.f0), .string ((rd_T46 l0 (ji15)).f0.f1), .string ((rd_T46 l0 (ji15)).f1), .int .i64 ((rd_T46 l0 (ji15)).f2)], .agg #[.string ((rd_T46 l0 x10_1).f0.f0), .string ((rd_T46 l0 x10_1).f0.f1), .string ((rd_T46 l0 x10_1).f1), .int .i64 ((rd_T46 l0 x10_1).f2)]] (by rfl) rfl rfl (by (try simp only [List.map_toArray, List.map_cons, List.map_nil]); first | done | (simp only [hji15]; rfl) | rfl | (simp only [List.length_drop, List.length_take]; rfl)) ?_
           with_reducible refine (QbA.calls ((rd_T46 l0 (ji15)).f0.f0) ((rd_T46 l0 (ji15)).f0.f1) ((rd_T46 l0 (ji15)).f1) ((rd_T46 l0 (ji15)).f2) ((rd_T46 l0 x10_1).f0.f0) ((rd_T46 l0 x10_1).f0.f1) ((rd_T46 l0 x10_1).f1) ((rd_T46 l0 x10_1).f2) t195 _ A18.out).mono ?_
           rintro e w20 ⟨rfl, hb⟩
           refine ⟨_, rfl, ?_⟩
           replace HO192 := Aside0.mk (Kd.R_below (Zr HO192.out) hb)
           replace BK189 := Aside0.mk (Zi BK189.out hb)
           replace HB := Aside0.mk (Qan (Zc1 GE189.out) hb)
           (try clear hb)
           (try clear hb2)
           (try clear hk)
           (try clear hi)
           refine hK.out _ _ ⟨(Qai BK189.out 0).trans rfl, (Qai BK189.out 1).trans rfl, (Qai BK189.out 2).trans rfl, (Qai BK189.out 3).trans rfl, ((HB.out.cell (World.block_lt_of_cell? w _ hw194_0)).trans hw194_0), ((HB.out.cell (World.block_lt_of_cell? w _ hw194_1)).trans hw194_1), ((HB.out.cell (World.block_lt_of_cell? w _ hw194_2)).trans hw194_2), ((HB.out.cell (World.block_lt_of_cell? w _ hw194_3)).trans hw194_3)⟩ (fun hHeld => ?_)
           clear hK K
           refine norm_ (a' := ?_) ?_ ?_
           rotate_left
           ·show Act.put _ (some 37) _ = _
            simp only [Act.put, Zj, Zk, Zm, i64_w, i32_w]
            rfl
           refine pure_ (i := 10) (N := some 38) (v := ?_) (a' := ?_) #[T, T, T, T, T, T, T, T, T, T, T, F, F] rfl rfl (any_of HT_.out (by kernel_rfl)) (fun _ _ _ h => h) (Or.inl ⟨by rfl, ?_⟩) ?_ ?_
           rotate_left
           ·intro w'
            go_simp
            with_reducible rfl
           rotate_left
           ·simp only [Act.put, Zj, Zk, Zm, i64_w, i32_w]
            rfl
           refine pure_ (i := 11) (N := some 39) (v := ?_) (a' := ?_) #[T, T, T, T, T, T, T, T, T, T, T, T, F] rfl rfl (any_of HT_.out (by kernel_rfl)) (fun _ _ _ h => h) (Or.inl ⟨by rfl, ?_⟩) ?_ ?_
           rotate_left
           ·intro w'
            go_simp
            with_reducible rfl
           rotate_left
           ·simp only [Act.put, Zj, Zk, Zm, i64_w, i32_w]
            rfl
           refine pure_ (i := 12) (N := some 27) (v := ?_) (a' := ?_) #[T, T, T, T, T, T, T, T, T, T, T, T, T] rfl rfl (any_of HT_.out (by kernel_rfl)) (fun _ _ _ h => h) (Or.inl ⟨by rfl, ?_⟩) ?_ ?_
           rotate_left
           ·intro w'
            go_simp
            with_reducible rfl
           rotate_left
           ·simp only [Act.put, Zj, Zk, Zm, i64_w, i32_w]
            rfl
           refine done_ (Qb4 HT_.out (by kernel_rfl)) ?_
           try go_wp2
           go_meet
           case rel => exact ⟨_, (decide (t195 ≥ 0)), (Zs), H', ⟨by have := HK1.out; first | omega | exact Nat.le_refl _⟩, ⟨Zu BK189.out⟩, ⟨Zc1 GE189.out⟩⟩
          rw [if_neg c17] at H
          exact absurd H (by simp)
         rw [if_neg c16] at H
         exact absurd H (by simp)
        rw [if_neg c14] at H
        have c14b0 : decide (0 < x10_1) = F := decide_eq_false c14
        clear c14
        (first | rw [c14b0] | (simp only [i64_w, i32_w]; rw [c14b0]) | skip)
        have H' := Aside0.mk H
        clear H
        try go_wp2
        (try (rw [QcM w9]; generalize hq_ : World.drewN w9 _ = w9; have n0_ : Aside0 (Kd.R Kd.string 9 w9 w.heap.size (fun _ => True) (.slice Ao11 y190.length co11) y190) := ⟨by rw [← hq_]; exact (Zr HO192.out)⟩; have n1_ : Aside0 (w9.heap[gb189]? = some (.cells #[.string ((rd_T46 l0 x10_1).f0.f0), .string ((rd_T46 l0 x10_1).f0.f1), .string ((rd_T46 l0 x10_1).f1), .int .i64 ((rd_T46 l0 x10_1).f2)] 46 (0, 0))) := ⟨by rw [← hq_]; exact (Zu BK189.out)⟩; have n2_ : Aside0 (Below w.heap.size w w9) := ⟨by rw [← hq_]; exact (Zc1 GE189.out)⟩; clear HO192 BK189 HB hq_; have HO192 := n0_; have BK189 := n1_; have HB := n2_; clear n0_ n1_ n2_))
        replace HO192 := Aside0.mk (Kd.R_drew HO192.out)
        replace BK189 := Aside0.mk (Qad BK189.out)
        replace HB := Aside0.mk (Qag HB.out)
        refine start_ (n := 13) (S := fun w' => True) (ds := []) #[F, F, F, F, F, F, F, F, F, F, F, F, F] (by kernel_rfl) rfl rfl trivial (fun hHeld => ?_); refine QbW QaF.tab8 QaF.bits8 (fun HT_ HW_ => ?_)
        generalize w9.drew = w21 at HO192 BK189 HB hHeld ⊢
        refine pure_ (i := 0) (N := some 28) (v := ?_) (a' := ?_) #[T, F, F, F, F, F, F, F, F, F, F, F, F] rfl rfl (any_of HT_.out (by kernel_rfl)) (fun _ _ _ h => h) (Or.inl ⟨by rfl, ?_⟩) ?_ ?_
        rotate_left
        ·intro w'
         go_simp
         with_reducible rfl
        rotate_left
        ·simp only [Act.put, Zj, Zk, Zm, i64_w, i32_w]
         rfl
        refine pure_ (i := 1) (N := some 29) (v := ?_) (a' := ?_) #[T, T, F, F, F, F, F, F, F, F, F, F, F] rfl rfl (any_of HT_.out (by kernel_rfl)) (fun _ _ _ h => h) (Or.inl ⟨by rfl, ?_⟩) ?_ ?_
        rotate_left
        ·intro w'
         go_simp
         with_reducible rfl
        rotate_left
        ·simp only [Act.put, Zj, Zk, Zm, i64_w, i32_w]
         rfl
        refine pure_ (i := 2) (N := some 30) (v := ?_) (a' := ?_) #[T, T, T, F, F, F, F, F, F, F, F, F, F] rfl rfl (any_of HT_.out (by kernel_rfl)) (fun _ _ _ h => h) (Or.inl ⟨by rfl, ?_⟩) ?_ ?_
        rotate_left
        ·intro w'
         go_simp
         with_reducible rfl
        rotate_left
        ·simp only [Act.put, Zj, Zk, Zm, i64_w, i32_w]
         rfl
        refine pure_ (i := 3) (N := some 31) (v := undef) (a' := ?_) #[T, T, T, T, F, F, F, F, F, F, F, F, F] rfl rfl (any_of HT_.out (by kernel_rfl)) (fun _ _ _ h => h) (Or.inr ⟨by rfl, rfl⟩) ?_ ?_
        rotate_left
        ·simp only [Act.put, Zj, Zk, Zm, i64_w, i32_w]
         rfl
        refine pure_ (i := 4) (N := some 32) (v := undef) (a' := ?_) #[T, T, T, T, T, F, F, F, F, F, F, F, F] rfl rfl (any_of HT_.out (by kernel_rfl)) (fun _ _ _ h => h) (Or.inr ⟨by rfl, rfl⟩) ?_ ?_
        rotate_left
        ·simp only [Act.put, Zj, Zk, Zm, i64_w, i32_w]
         rfl
        refine pure_ (i := 5) (N := some 33) (v := undef) (a' := ?_) #[T, T, T, T, T, T, F, F, F, F, F, F, F] rfl rfl (any_of HT_.out (by kernel_rfl)) (fun _ _ _ h => h) (Or.inr ⟨by rfl, rfl⟩) ?_ ?_
        rotate_left
        ·simp only [Act.put, Zj, Zk, Zm, i64_w, i32_w]
         rfl
        refine pure_ (i := 6) (N := some 34) (v := undef) (a' := ?_) #[T, T, T, T, T, T, T, F, F, F, F, F, F] rfl rfl (any_of HT_.out (by kernel_rfl)) (fun _ _ _ h => h) (Or.inr ⟨by rfl, rfl⟩) ?_ ?_
        rotate_left
        ·simp only [Act.put, Zj, Zk, Zm, i64_w, i32_w]
         rfl
        refine pure_ (i := 7) (N := some 35) (v := undef) (a' := ?_) #[T, T, T, T, T, T, T, T, F, F, F, F, F] rfl rfl (any_of HT_.out (by kernel_rfl)) (fun _ _ _ h => h) (Or.inr ⟨by rfl, rfl⟩) ?_ ?_
        rotate_left
        ·simp only [Act.put, Zj, Zk, Zm, i64_w, i32_w]
         rfl
        refine pure_ (i := 8) (N := some 36) (v := undef) (a' := ?_) #[T, T, T, T, T, T, T, T, T, F, F, F, F] rfl rfl (any_of HT_.out (by kernel_rfl)) (fun _ _ _ h => h) (Or.inr ⟨by rfl, rfl⟩) ?_ ?_
        rotate_left
        ·simp only [Act.put, Zj, Zk, Zm, i64_w, i32_w]
         rfl
        refine pure_ (i := 9) (N := some 37) (v := undef) (a' := ?_) #[T, T, T, T, T, T, T, T, T, T, F, F, F] rfl rfl (any_of HT_.out (by kernel_rfl)) (fun _ _ _ h => h) (Or.inr ⟨by rfl, rfl⟩) ?_ ?_
        rotate_left
        ·simp only [Act.put, Zj, Zk, Zm, i64_w, i32_w]
         rfl
        refine pure_ (i := 10) (N := some 38) (v := undef) (a' := ?_) #[T, T, T, T, T, T, T, T, T, T, T, F, F] rfl rfl (any_of HT_.out (by kernel_rfl)) (fun _ _ _ h => h) (Or.inr ⟨by rfl, rfl⟩) ?_ ?_
        rotate_left
        ·simp only [Act.put, Zj, Zk, Zm, i64_w, i32_w]
         rfl
        refine pure_ (i := 11) (N := some 39) (v := ?_) (a' := ?_) #[T, T, T, T, T, T, T, T, T, T, T, T, F] rfl rfl (any_of HT_.out (by kernel_rfl)) (fun _ _ _ h => h) (Or.inl ⟨by rfl, ?_⟩) ?_ ?_
        rotate_left
        ·intro w'
         go_simp
         with_reducible rfl
        rotate_left
        ·simp only [Act.put, Zj, Zk, Zm, i64_w, i32_w]
         rfl
        refine pure_ (i := 12) (N := some 27) (v := ?_) (a' := ?_) #[T, T, T, T, T, T, T, T, T, T, T, T, T] rfl rfl (any_of HT_.out (by kernel_rfl)) (fun _ _ _ h => h) (Or.inl ⟨by rfl, ?_⟩) ?_ ?_
        rotate_left
        ·intro w'
         go_simp
         with_reducible rfl
        rotate_left
        ·simp only [Act.put, Zj, Zk, Zm, i64_w, i32_w]
         rfl
        refine done_ (Qb4 HT_.out (by kernel_rfl)) ?_
        try go_wp2
        go_meet
        case rel => exact ⟨_, (F), (Zs), H', ⟨by have := HK1.out; first | omega | exact Nat.le_refl _⟩, ⟨Zu BK189.out⟩, ⟨Zc1 GE189.out⟩⟩
       case rest =>
        clear HC13
        try clear c1
        try clear p1
        try clear q1
        try clear hx1
        try clear c2
        try clear c2b0
        try clear c2b1
        try clear p2
        try clear c3
        try clear c3b0
        try clear c4
        try clear c4b0
        try clear c5
        try clear c5b0
        try clear p6
        try clear c7
        try clear c8
        try clear c12
        try clear c14
        try clear c14b0
        try clear c16
        try clear c16b0
        try clear c17
        try clear c17b0
        try clear p18
        try clear q18
        try clear hx18
        try clear p19
        try clear q19
        try clear hx19
        try clear hcz8_0
        try clear hcz8_1
        try clear hcz8_2
        try clear hcz8_3
        try clear hfz8_0
        try clear hfz8_1
        try clear hfz8_2
        try clear hfz8_3
        try clear hx188_0
        try clear hx188_1
        try clear hx188_2
        try clear hx188_3
        try clear hx194_0
        try clear hx194_1
        try clear hx194_2
        try clear hx194_3
        try clear p188
        try clear p194
        try clear p2
        try clear q188
        try clear q194
        obtain ⟨kq, x27_12, rfl, HA, HJ12, BK189, HB⟩ := hcut
        cases kq with
        | zero => exact absurd HA.out (by simp [QaF.j1])
        | succ kj12 =>
         have H := HA.out
         clear HA
         simp only [QaF.j1] at H
         by_cases c22 : x27_12 = T
         ·subst c22
          have H1 : (some 12) = some r := by rw [if_pos rfl] at H; exact H
          clear H
          have H := H1
          clear H1
          obtain rfl := Option.some.inj H
          go_wp2
          go_ret
          exact ⟨Zq, Zc1 GE189.out⟩
         replace c22 := Bool.eq_false_iff.mpr c22
         subst c22
         have H1 : ((QbT.f ((rd_T46 l0 x10_1).f2)).bind fun t196 => (if t196 = T then (QaF.l0 kj12 l0 l0 (l0.length : Int) (wrap64 (x10_1 + 1))) else (some 18))) = some r := by rw [if_neg (show ¬ (F = T) by decide)] at H; exact H
         clear H
         have H := H1
         clear H1
         replace H := Option.bind_eq_some_iff.mp H
         obtain ⟨t196, A230, H⟩ := H
         replace H : (if t196 = T then (QaF.l0 kj12 l0 l0 (l0.length : Int) (wrap64 (x10_1 + 1))) else (some 18)) = some r := H
         have A23 := Aside0.mk A230
         clear A230
         obtain ⟨hcz24_0, hfz24_0⟩ := Zy (v := (.string ((rd_T46 l0 x10_1).f0.f0))) BK189.out 0
         obtain ⟨hcz24_1, hfz24_1⟩ := Zy (v := (.string ((rd_T46 l0 x10_1).f0.f1))) BK189.out 1
         obtain ⟨hcz24_2, hfz24_2⟩ := Zy (v := (.string ((rd_T46 l0 x10_1).f1))) BK189.out 2
         obtain ⟨hcz24_3, hfz24_3⟩ := Zy (v := (.int .i64 ((rd_T46 l0 x10_1).f2))) BK189.out 3
         go_upto_if 40 with (first | ((with_reducible refine Qaw (f := 72) rfl ?_); refine goesL_ (some 43) rfl rfl Try.func72 (by kernel_rfl) rfl #[.int .i64 ((rd_T46 l0 x10_1).f2)] rfl (Zl) ?_; (with_reducible refine (QbT.calls ((rd_T46 l0 x10_1).f2) t196 _ A23.out).mono ?_); rintro e w' ⟨rfl, ⟨nd, rfl⟩⟩; refine ⟨_, rfl, ?_⟩))
         (try simp only [Act.put, Zj, Zk, Zm])
         by_cases c25 : t196 = T
         ·subst c25
          have H1 : (QaF.l0 kj12 l0 l0 (l0.length : Int) (wrap64 (x10_1 + 1))) = some r := by rw [if_pos rfl] at H; exact H
          clear H
          have H := H1
          clear H1
          have H' := Aside0.mk H
          clear H
          go_wp2
          go_roundg kj12
          case measure => have := HK1.out; have := HJ12.out; omega
          case rel => exact ⟨(wrap64 (x10_1 + 1)), (Zs), H', ⟨by have := HK1.out; have := HJ12.out; omega⟩, ⟨Zc1 GE189.out⟩⟩
         replace c25 := Bool.eq_false_iff.mpr c25
         subst c25
         have H1 : (some 18) = some r := by rw [if_neg (show ¬ (F = T) by decide)] at H; exact H
         clear H
         have H := H1
         clear H1
         obtain rfl := Option.some.inj H
         go_wp2
         go_ret
         exact ⟨Zq, Zc1 GE189.out⟩
      replace c12 := Bool.eq_false_iff.mpr c12
      subst c12
      have H1 : (some 10) = some r := by rw [if_neg (show ¬ (F = T) by decide)] at H; exact H
      clear H
      have H := H1
      clear H1
      obtain rfl := Option.some.inj H
      go_wp2
      go_ret
      exact ⟨Zq, Zc1 GE189.out⟩
     rw [if_neg c5] at H
     exact absurd H (by simp)
    rw [if_neg c4] at H
    exact absurd H (by simp)
   rw [if_neg c3] at H
   have c3b0 : decide (x10_1 < (l0.length : Int)) = F := decide_eq_false c3
   clear c3
   (try simp only [c3b0])
   obtain rfl := Option.some.inj H
   go_wp2
   go_ret
   exact ⟨Zq, Zb⟩
def Qbr.f (a0 : Int) : Option (Int) := if a0 < 0 then (some (wrap64 (-a0))) else (some a0)
set_option maxHeartbeats 8000000 in
theorem Qbr.calls (a0 : Int) (r : Int) (w : World) (h : Qbr.f a0 = some r) :
  Calls Try.prog 95 #[.int .i64 a0] w fun e w' => e = .returned (.int .i64 r) ∧ Drawn0 w w' := by
 have H : (if a0 < 0 then (some (wrap64 (-a0))) else (some a0)) = some r := h
 clear h
 by_cases c2 : a0 < 0
 ·rw [if_pos c2] at H
  have c2b0 : decide (a0 < 0) = T := decide_eq_true c2
  clear c2
  obtain rfl := Option.some.inj H
  go_enter Try.func95, Try.ntmps95
  go_wp2
  go_ret
  exact ⟨Zs, Zd⟩
 rw [if_neg c2] at H
 have c2b0 : decide (a0 < 0) = F := decide_eq_false c2
 clear c2
 obtain rfl := Option.some.inj H
 go_enter Try.func95, Try.ntmps95
 go_wp2
 go_ret
 exact ⟨Zs, Zd⟩
def QbI.f (a0 : Int) (a1 : Int) (a2 : Int) (a3 : Int) (a4 : Bool) : Option (Bool) := if a3 = 2 then (some T) else (if a3 = 3 then (some a4) else (if a3 = 4 then (some (!a4)) else (if a3 = 5 then (if a1 > (wrap64 (a2 - a1)) then (some T) else (if a1 = (wrap64 (a2 - a1)) then (some ((Int.tmod a0 2) == 1)) else (some F))) else (some F))))
set_option maxHeartbeats 8000000 in
theorem QbI.calls (a0 : Int) (a1 : Int) (a2 : Int) (a3 : Int) (a4 : Bool) (r : Bool) (w : World) (h : QbI.f a0 a1 a2 a3 a4 = some r) :
  Calls Try.prog 96 #[.int .i64 a0, .int .i64 a1, .int .i64 a2, .int .i64 a3, .bool a4] w fun e w' => e = .returned (.bool r) ∧ Drawn0 w w' := by
 have H : (if a3 = 2 then (some T) else (if a3 = 3 then (some a4) else (if a3 = 4 then (some (!a4)) else (if a3 = 5 then (if a1 > (wrap64 (a2 - a1)) then (some T) else (if a1 = (wrap64 (a2 - a1)) then (some ((Int.tmod a0 2) == 1)) else (some F))) else (some F))))) = some r := h
 clear h
 by_cases c6 : a3 = 2
 ·rw [if_pos c6] at H
  have c6b0 : (a3 == 2) = T := beq_iff_eq.mpr c6
  have c6b1 : (a3 != 2) = F := bne_eq_false_iff_eq.mpr c6
  clear c6
  obtain rfl := Option.some.inj H
  go_enter Try.func96, Try.ntmps96
  go_wp2
  go_ret
  exact ⟨Zs, Zd⟩
 rw [if_neg c6] at H
 have c6b0 : (a3 == 2) = F := beq_eq_false_iff_ne.mpr c6
 have c6b1 : (a3 != 2) = T := bne_iff_ne.mpr c6
 by_cases c7 : a3 = 3
 ·rw [if_pos c7] at H
  have c7b0 : (a3 == 3) = T := beq_iff_eq.mpr c7
  have c7b1 : (a3 != 3) = F := bne_eq_false_iff_eq.mpr c7
  clear c7
  obtain rfl := Option.some.inj H
  go_enter Try.func96, Try.ntmps96
  go_wp2
  go_ret
  exact ⟨Zs, Zd⟩
 rw [if_neg c7] at H
 have c7b0 : (a3 == 3) = F := beq_eq_false_iff_ne.mpr c7
 have c7b1 : (a3 != 3) = T := bne_iff_ne.mpr c7
 by_cases c8 : a3 = 4
 ·rw [if_pos c8] at H
  have c8b0 : (a3 == 4) = T := beq_iff_eq.mpr c8
  have c8b1 : (a3 != 4) = F := bne_eq_false_iff_eq.mpr c8
  clear c8
  obtain rfl := Option.some.inj H
  go_enter Try.func96, Try.ntmps96
  go_wp2
  go_ret
  exact ⟨Zs, Zd⟩
 rw [if_neg c8] at H
 have c8b0 : (a3 == 4) = F := beq_eq_false_iff_ne.mpr c8
 have c8b1 : (a3 != 4) = T := bne_iff_ne.mpr c8
 by_cases c9 : a3 = 5
 ·rw [if_pos c9] at H
  have c9b0 : (a3 == 5) = T := beq_iff_eq.mpr c9
  have c9b1 : (a3 != 5) = F := bne_eq_false_iff_eq.mpr c9
  clear c9
  by_cases c10 : a1 > (wrap64 (a2 - a1))
  ·rw [if_pos c10] at H
   have c10b0 : decide ((wrap64 (a2 - a1)) < a1) = T := decide_eq_true c10
   clear c10
   obtain rfl := Option.some.inj H
   go_enter Try.func96, Try.ntmps96
   go_wp2
   go_ret
   exact ⟨Zs, Zd⟩
  rw [if_neg c10] at H
  have c10b0 : decide ((wrap64 (a2 - a1)) < a1) = F := decide_eq_false c10
  clear c10
  by_cases c11 : a1 = (wrap64 (a2 - a1))
  ·rw [if_pos c11] at H
   have c11b0 : (a1 == (wrap64 (a2 - a1))) = T := beq_iff_eq.mpr c11
   have c11b1 : (a1 != (wrap64 (a2 - a1))) = F := bne_eq_false_iff_eq.mpr c11
   clear c11
   obtain rfl := Option.some.inj H
   go_enter Try.func96, Try.ntmps96
   go_wp2
   go_ret
   exact ⟨Zs, Zd⟩
  rw [if_neg c11] at H
  have c11b0 : (a1 == (wrap64 (a2 - a1))) = F := beq_eq_false_iff_ne.mpr c11
  have c11b1 : (a1 != (wrap64 (a2 - a1))) = T := bne_iff_ne.mpr c11
  obtain rfl := Option.some.inj H
  go_enter Try.func96, Try.ntmps96
  go_wp2
  go_ret
  exact ⟨Zs, Zd⟩
 rw [if_neg c9] at H
 have c9b0 : (a3 == 5) = F := beq_eq_false_iff_ne.mpr c9
 have c9b1 : (a3 != 5) = T := bne_iff_ne.mpr c9
 obtain rfl := Option.some.inj H
 go_enter Try.func96, Try.ntmps96
 go_wp2
 go_ret
 exact ⟨Zs, Zd⟩
def Qao.f (a0 : Int) (a1 : Int) (a2 : Int) : Option (Bool) := if a0 ≥ a1 then (some (decide (a0 ≤ a2))) else (some F)
set_option maxHeartbeats 8000000 in
theorem Qao.calls (a0 : Int) (a1 : Int) (a2 : Int) (r : Bool) (w : World) (h : Qao.f a0 a1 a2 = some r) :
  Calls Try.prog 104 #[.int .i64 a0, .int .i64 a1, .int .i64 a2] w fun e w' => e = .returned (.bool r) ∧ Drawn0 w w' := by
 have H : (if a0 ≥ a1 then (some (decide (a0 ≤ a2))) else (some F)) = some r := h
 clear h
 by_cases c4 : a0 ≥ a1
 ·rw [if_pos c4] at H
  have c4b0 : decide (a1 ≤ a0) = T := decide_eq_true c4
  clear c4
  obtain rfl := Option.some.inj H
  go_enter Try.func104, Try.ntmps104
  go_wp2
  go_ret
  exact ⟨Zs, Zd⟩
 rw [if_neg c4] at H
 have c4b0 : decide (a1 ≤ a0) = F := decide_eq_false c4
 clear c4
 obtain rfl := Option.some.inj H
 go_enter Try.func104, Try.ntmps104
 go_wp2
 go_ret
 exact ⟨Zs, Zd⟩
end Go.Proofs.Ytfcaaefdmabkhaa.Pr
