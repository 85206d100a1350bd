/- Functions' values and contracts, as the print wrote them. -/
import Derived.Test.YtfcaaefdmabkhaaQ283P0
namespace Go.Proofs.Ytfcaaefdmabkhaa.Pr
open Bool renaming true → T
open Bool renaming false → F
open Go.RowKit Go.Proofs.YtfcaaefdmabkhaaW.PrintWords Go.Proofs.YtfcaaefdmabkhaaW.PrintLast Go.Proofs.YtfcaaefdmabkhaaW.PrintMore
attribute [local go_sem] QaS QaU Qa2 Qa3 QaK QaL QaT QaV   -- for this text's walks alone
set_option linter.unusedVariables false
set_option linter.unusedSimpArgs false
set_option maxRecDepth 100000
set_option maxHeartbeats 8000000
def QaX.j0 : Nat → Int → Int → Bool → Option (Int × Int)
 | 0, _, _, _ => none
 | k + 1, x0, x1, x13 => if x13 = T then (some (0, 2)) else (if x0 = 0 then (some (wrap64 (x0 * x1), 0)) else ((Qbq.f x1).bind fun t352 => ((Qbq.f x0).bind fun t353 => (if t353 = 0 then (none) else (if t352 > (wrap64 (Int.tdiv (1152921504606846976 : Int) t353)) then (some (0, 3)) else (some (wrap64 (x0 * x1), 0)))))))
def QaX.f (k : Nat) (a0 : Int) (a1 : Int) : Option (Int × Int) := (Qbm.f a0).bind fun t350 => (if t350 = T then ((Qbm.f a1).bind fun t351 => (QaX.j0 k a0 a1 (!t351))) else (QaX.j0 k a0 a1 T))
theorem QaX.mono_l : ∀ k, (∀ y0 y1 y2, LeO (QaX.j0 k y0 y1 y2) (QaX.j0 (k + 1) y0 y1 y2))
 | 0 => fun _ _ _ r h => by simp [QaX.j0] at h
 | k + 1 => by
  have ih0 := QaX.mono_l k
  intro y0 y1 y2
  unfold QaX.j0
  exact ZM1 ih0
theorem QaX.mono : ∀ a0 a1 k, LeO (QaX.f k a0 a1) (QaX.f (k + 1) a0 a1) := by
 intro a0 a1 k
 have ih0 := QaX.mono_l k
 unfold QaX.f
 exact ZM1 ih0
theorem QaX.calls (k : Nat) (a0 : Int) (a1 : Int) (r1 : Int) (r2 : Int) (w : World) (h : QaX.f k a0 a1 = some (r1, r2)) :
  Calls Try.prog 105 #[.int .i64 a0, .int .i64 a1] w fun e w' => e = .returned (.tuple #[.int .i64 r1, .int .i64 r2]) ∧ Drawn0 w w' := by
 have H : ((Qbm.f a0).bind fun t350 => (if t350 = T then ((Qbm.f a1).bind fun t351 => (QaX.j0 k a0 a1 (!t351))) else (QaX.j0 k a0 a1 T))) = some (r1, r2) := h
 clear h
 have HC3 := Aside0.mk H
 clear H
 go_enter Try.func105, Try.ntmps105
 go_upto_region 1 with (fail)
 go_cut [13] (fun v13 wc => ∃ (kq : Nat) (x13_2 : Bool), v13 = .bool x13_2 ∧ Aside0 (QaX.j0 kq a0 a1 x13_2 = some (r1, r2)) ∧ Aside0 (kq ≤ k) ∧ Drawn0 w wc)
 case first =>
  have H := HC3.out
  clear HC3
  replace H := Option.bind_eq_some_iff.mp H
  obtain ⟨t350, A40, H⟩ := H
  replace H : (if t350 = T then ((Qbm.f a1).bind fun t351 => (QaX.j0 k a0 a1 (!t351))) else (QaX.j0 k a0 a1 T)) = some (r1, r2) := H
  have A4 := Aside0.mk A40
  clear A40
  by_cases c5 : t350 = T
  ·subst c5
   have H1 : ((Qbm.f a1).bind fun t351 => (QaX.j0 k a0 a1 (!t351))) = some (r1, r2) := by rw [if_pos rfl] at H; exact H
   clear H
   have H := H1
   clear H1
   replace H := Option.bind_eq_some_iff.mp H
   obtain ⟨t351, A60, H⟩ := H
   replace H : (QaX.j0 k a0 a1 (!t351)) = some (r1, r2) := H
   have A6 := Aside0.mk A60
   clear A60
   have H' := Aside0.mk H
   clear H
   go_wp2_with (first | ((with_reducible refine Qax (f := 93) rfl ?_); refine goesL_ (some 7) rfl rfl Try.func93 (by kernel_rfl) rfl #[.int .i64 a0] rfl (Zl) ?_; (with_reducible refine (Qbm.calls a0 T _ A4.out).mono ?_); rintro e w' ⟨rfl, ⟨nd, rfl⟩⟩; refine ⟨_, rfl, ?_⟩) | (go_at_call 93; (with_reducible refine (Qbm.calls a1 t351 _ A6.out).mono ?_); rintro e w' ⟨rfl, ⟨nd, rfl⟩⟩))
   go_meet
   case rel => exact ⟨_, (!t351), (Zs), H', ⟨by first | omega | exact Nat.le_refl _⟩, Zd⟩
  replace c5 := Bool.eq_false_iff.mpr c5
  subst c5
  have H1 : (QaX.j0 k a0 a1 T) = some (r1, r2) := by rw [if_neg (show ¬ (F = T) by decide)] at H; exact H
  clear H
  have H := H1
  clear H1
  have H' := Aside0.mk H
  clear H
  go_wp2_with (first | ((with_reducible refine Qax (f := 93) rfl ?_); refine goesL_ (some 7) rfl rfl Try.func93 (by kernel_rfl) rfl #[.int .i64 a0] rfl (Zl) ?_; (with_reducible refine (Qbm.calls a0 F _ A4.out).mono ?_); rintro e w' ⟨rfl, ⟨nd, rfl⟩⟩; refine ⟨_, rfl, ?_⟩))
  go_meet
  case rel => exact ⟨_, (T), (Zs), H', ⟨by first | omega | exact Nat.le_refl _⟩, Zd⟩
 case rest =>
  clear HC3
  try clear c1
  try clear p2
  try clear c5
  obtain ⟨kq, x13_2, rfl, HA, HJ2, ⟨mc2, rfl⟩⟩ := hcut
  cases kq with
  | zero => exact absurd HA.out (by simp [QaX.j0])
  | succ kj2 =>
   have H := HA.out
   clear HA
   simp only [QaX.j0] at H
   by_cases c7 : x13_2 = T
   ·subst c7
    have H1 : (some (0, 2)) = some (r1, r2) := by rw [if_pos rfl] at H; exact H
    clear H
    have H := H1
    clear H1
    simp only [Option.some.injEq, Prod.mk.injEq] at H
    obtain ⟨rfl, rfl⟩ := H
    go_wp2
    go_ret2
    exact ⟨Zs, Zd⟩
   replace c7 := Bool.eq_false_iff.mpr c7
   subst c7
   have H1 : (if a0 = 0 then (some (wrap64 (a0 * a1), 0)) else ((Qbq.f a1).bind fun t352 => ((Qbq.f a0).bind fun t353 => (if t353 = 0 then (none) else (if t352 > (wrap64 (Int.tdiv (1152921504606846976 : Int) t353)) then (some (0, 3)) else (some (wrap64 (a0 * a1), 0))))))) = some (r1, r2) := by rw [if_neg (show ¬ (F = T) by decide)] at H; exact H
   clear H
   have H := H1
   clear H1
   by_cases c8 : a0 = 0
   ·rw [if_pos c8] at H
    have c8b0 : (a0 == 0) = T := beq_iff_eq.mpr c8
    have c8b1 : (a0 != 0) = F := bne_eq_false_iff_eq.mpr c8
    clear c8
    simp only [Option.some.injEq, Prod.mk.injEq] at H
    obtain ⟨rfl, rfl⟩ := H
    go_wp2
    go_ret2
    exact ⟨Zs, Zd⟩
   rw [if_neg c8] at H
   have c8b0 : (a0 == 0) = F := beq_eq_false_iff_ne.mpr c8
   have c8b1 : (a0 != 0) = T := bne_iff_ne.mpr c8
   replace H := Option.bind_eq_some_iff.mp H
   obtain ⟨t352, A90, H⟩ := H
   replace H : ((Qbq.f a0).bind fun t353 => (if t353 = 0 then (none) else (if t352 > (wrap64 (Int.tdiv (1152921504606846976 : Int) t353)) then (some (0, 3)) else (some (wrap64 (a0 * a1), 0))))) = some (r1, r2) := H
   have A9 := Aside0.mk A90
   clear A90
   replace H := Option.bind_eq_some_iff.mp H
   obtain ⟨t353, A100, H⟩ := H
   replace H : (if t353 = 0 then (none) else (if t352 > (wrap64 (Int.tdiv (1152921504606846976 : Int) t353)) then (some (0, 3)) else (some (wrap64 (a0 * a1), 0)))) = some (r1, r2) := H
   have A10 := Aside0.mk A100
   clear A100
   by_cases c11 : t353 = 0
   ·rw [if_pos c11] at H
    exact absurd H (by simp)
   rw [if_neg c11] at H
   have c11b0 : (t353 == 0) = F := beq_eq_false_iff_ne.mpr c11
   have c11b1 : (t353 != 0) = T := bne_iff_ne.mpr c11
   go_upto_if 23 with (first | (go_at_call 95; (with_reducible refine (Qbq.calls a1 t352 _ A9.out).mono ?_); rintro e w' ⟨rfl, ⟨nd, rfl⟩⟩) | (go_at_call 95; (with_reducible refine (Qbq.calls a0 t353 _ A10.out).mono ?_); rintro e w' ⟨rfl, ⟨nd, rfl⟩⟩))
   (try simp only [Act.put, Zj, Zk, Zm])
   by_cases c12 : t352 > (wrap64 (Int.tdiv (1152921504606846976 : Int) t353))
   ·rw [if_pos c12] at H
    have c12b0 : decide ((wrap64 (Int.tdiv (1152921504606846976 : Int) t353)) < t352) = T := decide_eq_true c12
    clear c12
    (try simp only [c12b0])
    simp only [Option.some.injEq, Prod.mk.injEq] at H
    obtain ⟨rfl, rfl⟩ := H
    go_wp2
    go_ret2
    exact ⟨Zs, Zd⟩
   rw [if_neg c12] at H
   have c12b0 : decide ((wrap64 (Int.tdiv (1152921504606846976 : Int) t353)) < t352) = F := decide_eq_false c12
   clear c12
   (try simp only [c12b0])
   simp only [Option.some.injEq, Prod.mk.injEq] at H
   obtain ⟨rfl, rfl⟩ := H
   go_wp2
   go_ret2
   exact ⟨Zs, Zd⟩
def Qbu.f (k : Nat) (a0_0 : ByteArray) (a0_1 : Int) (a0_2 : Int) (a0_3 : Int) (a0_4 : Int) (a0_5 : Int) (a1 : Int) : Option (Int × Int) := (Qbb.f k a0_0 a0_1 a0_2 a0_3 a0_4 a0_5).bind fun t355 => (if t355 = 0 then ((Qap.f a1 0 1152921504606846976).bind fun t356 => (if t356 = T then ((QaX.f k a1 a0_3).bind fun bt357 => (some (bt357.1, bt357.2))) else (some (0, 18)))) else (some (0, t355)))
theorem Qbu.mono : ∀ a0 a1 a2 a3 a4 a5 a6 k, LeO (Qbu.f k a0 a1 a2 a3 a4 a5 a6) (Qbu.f (k + 1) a0 a1 a2 a3 a4 a5 a6) := by
 intro a0 a1 a2 a3 a4 a5 a6 k
 unfold Qbu.f
 exact ZM2 QaX.mono Qbb.mono
theorem Qbu.calls (k : Nat) (a0_0 : ByteArray) (a0_1 : Int) (a0_2 : Int) (a0_3 : Int) (a0_4 : Int) (a0_5 : Int) (a1 : Int) (r1 : Int) (r2 : Int) (w : World) (h : Qbu.f k a0_0 a0_1 a0_2 a0_3 a0_4 a0_5 a1 = some (r1, r2)) :
  Calls Try.prog 69 #[.agg #[.string a0_0, .int .i64 a0_1, .int .i64 a0_2, .int .i64 a0_3, .int .i64 a0_4, .int .i64 a0_5], .int .i64 a1] w fun e w' => e = .returned (.tuple #[.int .i64 r1, .int .i64 r2]) ∧ Below w.heap.size w w' := by
 have hu84 := Try.underlying84
 have HB := Aside0.mk (Below.refl w.heap.size w)
 have H : ((Qbb.f k a0_0 a0_1 a0_2 a0_3 a0_4 a0_5).bind fun t355 => (if t355 = 0 then ((Qap.f a1 0 1152921504606846976).bind fun t356 => (if t356 = T then ((QaX.f k a1 a0_3).bind fun bt357 => (some (bt357.1, bt357.2))) else (some (0, 18)))) else (some (0, t355)))) = some (r1, r2) := h
 clear h
 replace H := Option.bind_eq_some_iff.mp H
 obtain ⟨t355, A30, H⟩ := H
 replace H : (if t355 = 0 then ((Qap.f a1 0 1152921504606846976).bind fun t356 => (if t356 = T then ((QaX.f k a1 a0_3).bind fun bt357 => (some (bt357.1, bt357.2))) else (some (0, 18)))) else (some (0, t355))) = some (r1, r2) := H
 have A3 := Aside0.mk A30
 clear A30
 go_enter Try.func69, Try.ntmps69
 go_upto_if 10 with (first | ((with_reducible refine QaJ (N := 2) rfl ?_); refine Zbx (N := 2) (cs := #[.string a0_0, .int .i64 a0_1, .int .i64 a0_2, .int .i64 a0_3, .int .i64 a0_4, .int .i64 a0_5]) (t := 84) ?_; intro gb354 hg w4 hbox hb; have BK354 := Aside0.mk (hbox); have GW354 := Aside0.mk (Zt w hg (Zb)); have GE354 := GW354; replace HB := Aside0.mk (Qao (Zb) hb); clear hb hbox hg; obtain ⟨hcz5_0, hfz5_0⟩ := Zy (v := (.string a0_0)) BK354.out 0; obtain ⟨hcz5_1, hfz5_1⟩ := Zy (v := (.int .i64 a0_1)) BK354.out 1; obtain ⟨hcz5_2, hfz5_2⟩ := Zy (v := (.int .i64 a0_2)) BK354.out 2; obtain ⟨hcz5_3, hfz5_3⟩ := Zy (v := (.int .i64 a0_3)) BK354.out 3; obtain ⟨hcz5_4, hfz5_4⟩ := Zy (v := (.int .i64 a0_4)) BK354.out 4; obtain ⟨hcz5_5, hfz5_5⟩ := Zy (v := (.int .i64 a0_5)) BK354.out 5) | ((with_reducible refine Qax (f := 102) rfl ?_); refine goesL_ (some 8) rfl rfl Try.func102 (by kernel_rfl) rfl #[.agg #[.string a0_0, .int .i64 a0_1, .int .i64 a0_2, .int .i64 a0_3, .int .i64 a0_4, .int .i64 a0_5]] rfl (Zl) ?_; (with_reducible refine (Qbb.calls k a0_0 a0_1 a0_2 a0_3 a0_4 a0_5 t355 _ A3.out).mono ?_); rintro e w6 ⟨rfl, hb⟩; refine ⟨_, rfl, ?_⟩; replace BK354 := Aside0.mk (Zi BK354.out hb); replace HB := Aside0.mk (Qao (Zc1 GE354.out) hb); (try clear hb); (try clear hb2); (try clear hk); (try clear hi)))
 (try simp only [Act.put, Zj, Zk, Zm])
 by_cases c7 : t355 = 0
 ·rw [if_pos c7] at H
  have c7b0 : (t355 == 0) = T := beq_iff_eq.mpr c7
  have c7b1 : (t355 != 0) = F := bne_eq_false_iff_eq.mpr c7
  clear c7
  (try simp only [c7b0, c7b1])
  replace H := Option.bind_eq_some_iff.mp H
  obtain ⟨t356, A80, H⟩ := H
  replace H : (if t356 = T then ((QaX.f k a1 a0_3).bind fun bt357 => (some (bt357.1, bt357.2))) else (some (0, 18))) = some (r1, r2) := H
  have A8 := Aside0.mk A80
  clear A80
  go_upto_if 14 with (first | ((with_reducible refine Qax (f := 104) rfl ?_); refine goesL_ (some 13) rfl rfl Try.func104 (by kernel_rfl) rfl #[.int .i64 a1, .int .i64 0, .int .i64 1152921504606846976] rfl (Zl) ?_; (with_reducible refine (Qap.calls a1 0 1152921504606846976 t356 _ A8.out).mono ?_); rintro e w' ⟨rfl, ⟨nd, rfl⟩⟩; refine ⟨_, rfl, ?_⟩))
  (try simp only [Act.put, Zj, Zk, Zm])
  by_cases c9 : t356 = T
  ·subst c9
   have H1 : ((QaX.f k a1 a0_3).bind fun bt357 => (some (bt357.1, bt357.2))) = some (r1, r2) := by rw [if_pos rfl] at H; exact H
   clear H
   have H := H1
   clear H1
   replace H := Option.bind_eq_some_iff.mp H
   obtain ⟨⟨t357, t358⟩, A100, H⟩ := H
   replace H : (some (t357, t358)) = some (r1, r2) := H
   have A10 := Aside0.mk A100
   clear A100
   simp only [Option.some.injEq, Prod.mk.injEq] at H
   obtain ⟨rfl, rfl⟩ := H
   obtain ⟨hcz11_0, hfz11_0⟩ := Zy (v := (.string a0_0)) BK354.out 0
   obtain ⟨hcz11_1, hfz11_1⟩ := Zy (v := (.int .i64 a0_1)) BK354.out 1
   obtain ⟨hcz11_2, hfz11_2⟩ := Zy (v := (.int .i64 a0_2)) BK354.out 2
   obtain ⟨hcz11_3, hfz11_3⟩ := Zy (v := (.int .i64 a0_3)) BK354.out 3
   obtain ⟨hcz11_4, hfz11_4⟩ := Zy (v := (.int .i64 a0_4)) BK354.out 4
   obtain ⟨hcz11_5, hfz11_5⟩ := Zy (v := (.int .i64 a0_5)) BK354.out 5
   go_wp2_with (first | ((with_reducible refine Qax (f := 105) rfl ?_); refine goesL_ (some 18) rfl rfl Try.func105 (by kernel_rfl) rfl #[.int .i64 a1, .int .i64 a0_3] rfl (Zl) ?_; (with_reducible refine (QaX.calls k a1 a0_3 t357 t358 _ A10.out).mono ?_); rintro e w' ⟨rfl, ⟨nd, rfl⟩⟩; refine ⟨_, rfl, ?_⟩))
   go_ret2
   exact ⟨Zq, Zc1 GE354.out⟩
  replace c9 := Bool.eq_false_iff.mpr c9
  subst c9
  have H1 : (some (0, 18)) = some (r1, r2) := by rw [if_neg (show ¬ (F = T) by decide)] at H; exact H
  clear H
  have H := H1
  clear H1
  simp only [Option.some.injEq, Prod.mk.injEq] at H
  obtain ⟨rfl, rfl⟩ := H
  go_wp2
  go_ret2
  exact ⟨Zq, Zc1 GE354.out⟩
 rw [if_neg c7] at H
 have c7b0 : (t355 == 0) = F := beq_eq_false_iff_ne.mpr c7
 have c7b1 : (t355 != 0) = T := bne_iff_ne.mpr c7
 (try simp only [c7b0, c7b1])
 simp only [Option.some.injEq, Prod.mk.injEq] at H
 obtain ⟨rfl, rfl⟩ := H
 go_wp2
 go_ret2
 exact ⟨Zq, Zc1 GE354.out⟩
def QaO.l0 : Nat → List (S98) → ByteArray → Int → Option (Int × Bool)
 | 0, _, _, _ => none
 | k + 1, x0, x1, x6 => if x6 < (x0.length : Int) then (if 0 ≤ x6 then (if ((rd_T98 x0 x6).f0).toList = x1.toList then (some (x6, T)) else (QaO.l0 k x0 x1 (wrap64 (x6 + 1)))) else (none)) else (some (0, F))
def QaO.f (k : Nat) (l0 : List (S98)) (a1 : ByteArray) : Option (Int × Bool) := QaO.l0 k l0 a1 0
theorem QaO.mono_l : ∀ k, (∀ y0 y1 y2, LeO (QaO.l0 k y0 y1 y2) (QaO.l0 (k + 1) y0 y1 y2))
 | 0 => fun _ _ _ r h => by simp [QaO.l0] at h
 | k + 1 => by
  have ih0 := QaO.mono_l k
  intro y0 y1 y2
  unfold QaO.l0
  exact ZM1 ih0
theorem QaO.mono : ∀ a0 a1 k, LeO (QaO.f k a0 a1) (QaO.f (k + 1) a0 a1) := by
 intro a0 a1 k
 have ih0 := QaO.mono_l k
 unfold QaO.f
 exact ZM1 ih0
theorem QaO.calls (k : Nat) (A0 : Option Addr) (c0 : Nat) (l0 : List (S98)) (a1 : ByteArray) (r1 : Int) (r2 : Bool) (w : World) (hr0 : Kd.C k98 w A0 l0.length l0) (hc0 : l0.length ≤ c0) (h : QaO.f k l0 a1 = some (r1, r2)) :
  Calls Try.prog 128 #[.slice A0 l0.length c0, .string a1] w fun e w' => e = .returned (.tuple #[.int .i64 r1, .bool r2]) ∧ Drawn0 w w' := by
 have HR0 := Aside0.mk hr0
 have HC0 := Aside0.mk hc0
 clear hr0 hc0
 have H : (QaO.l0 k l0 a1 0) = some (r1, r2) := h
 clear h
 have H' := Aside0.mk H
 clear H
 go_enter Try.func128, Try.ntmps128
 go_wp2
 go_loopg [6] k (fun kq v6 w' => ∃ (x6_1 : Int), v6 = .int .i64 x6_1 ∧ Aside0 (QaO.l0 kq l0 a1 x6_1 = some (r1, r2)) ∧ Aside0 (kq ≤ k) ∧ Drawn0 w w')
 case atStart => exact ⟨(0), (Zs), H', ⟨Nat.le_refl _⟩, Zd⟩
 case round =>
  clear H'
  try clear c1
  try clear p2
  obtain ⟨x6_1, rfl, HA, HK1, ⟨m1, rfl⟩⟩ := hrel
  cases gk with
  | zero => exact absurd HA.out (by simp [QaO.l0])
  | succ k1 =>
   have H := HA.out
   clear HA
   simp only [QaO.l0] at H
   by_cases c3 : x6_1 < (l0.length : Int)
   ·rw [if_pos c3] at H
    have c3b0 : decide (x6_1 < (l0.length : Int)) = T := decide_eq_true c3
    clear c3
    (try simp only [c3b0])
    by_cases c4 : 0 ≤ x6_1
    ·rw [if_pos c4] at H
     have c4b0 : decide (0 ≤ x6_1) = T := decide_eq_true c4
     clear c4
     have p359 : 0 ≤ (x6_1 : Int) := Ze
     have q359 : x6_1 < (l0.length : Int) := Ze
     obtain ⟨ad359, e359, hx359_0, hx359_1⟩ := at_T98 HR0.out x6_1 p359 q359
     cases e359
     replace p359 := eq_true p359
     replace q359 := eq_true q359
     go_upto_if 19 with (fail)
     by_cases c5 : ((rd_T98 l0 x6_1).f0).toList = a1.toList
     ·rw [if_pos c5] at H
      have c5b0 : (((rd_T98 l0 x6_1).f0).toList == a1.toList) = T := beq_iff_eq.mpr c5
      have c5b1 : (((rd_T98 l0 x6_1).f0).toList != a1.toList) = F := bne_eq_false_iff_eq.mpr c5
      clear c5
      (try simp only [c5b0, c5b1])
      simp only [Option.some.injEq, Prod.mk.injEq] at H
      obtain ⟨rfl, rfl⟩ := H
      go_wp2
      go_ret2
      exact ⟨Zs, Zd⟩
     rw [if_neg c5] at H
     have c5b0 : (((rd_T98 l0 x6_1).f0).toList == a1.toList) = F := beq_eq_false_iff_ne.mpr c5
     have c5b1 : (((rd_T98 l0 x6_1).f0).toList != a1.toList) = T := bne_iff_ne.mpr c5
     (try simp only [c5b0, c5b1])
     have H' := Aside0.mk H
     clear H
     go_wp2
     go_roundg k1
     case measure => have := HK1.out; omega
     case rel => exact ⟨(wrap64 (x6_1 + 1)), (Zs), H', ⟨by have := HK1.out; omega⟩, Zd⟩
    rw [if_neg c4] at H
    exact absurd H (by simp)
   rw [if_neg c3] at H
   have c3b0 : decide (x6_1 < (l0.length : Int)) = F := decide_eq_false c3
   clear c3
   (try simp only [c3b0])
   simp only [Option.some.injEq, Prod.mk.injEq] at H
   obtain ⟨rfl, rfl⟩ := H
   go_wp2
   go_ret2
   exact ⟨Zs, Zd⟩
mutual
def Qat.j0 : Nat → List (S98) → Bool → Option (Int)
 | 0, _, _ => none
 | k + 1, x0, x15 => if x15 = T then (some 8) else (Qat.l0 k x0 0)
def Qat.l0 : Nat → List (S98) → Int → Option (Int)
 | 0, _, _ => none
 | k + 1, x0, x3 => if x3 < (x0.length : Int) then (if 0 ≤ x3 then ((Qaw.f k ((rd_T98 x0 x3).f0)).bind fun t361 => (if t361 = T then (Qat.l0 k x0 (wrap64 (x3 + 1))) else (some 10))) else (none)) else (Qat.l1 k x0 0)
def Qat.l1 : Nat → List (S98) → Int → Option (Int)
 | 0, _, _ => none
 | k + 1, x0, x4 => if x4 < (x0.length : Int) then (if 0 ≤ x4 then ((QaO.f k x0 ((rd_T98 x0 x4).f0)).bind fun bt363 => (if bt363.1 = x4 then (Qat.l1 k x0 (wrap64 (x4 + 1))) else (some 12))) else (none)) else (Qat.l2 k x0 0)
def Qat.l2 : Nat → List (S98) → Int → Option (Int)
 | 0, _, _ => none
 | k + 1, x0, x7 => if x7 < (x0.length : Int) then (if 0 ≤ x7 then (if ((rd_T98 x0 x7).f1) < 1 then (some 25) else (if ((rd_T98 x0 x7).f1) > 1000000000000 then (some 25) else (if x7 = 0 then (if ((rd_T98 x0 x7).f1) = 1000000 then (Qat.l2 k x0 (wrap64 (x7 + 1))) else (some 25)) else (Qat.l2 k x0 (wrap64 (x7 + 1)))))) else (none)) else (some 0)
end
def Qat.f (k : Nat) (l0 : List (S98)) : Option (Int) := if (l0.length : Int) = 0 then (Qat.j0 k l0 T) else (Qat.j0 k l0 (decide ((l0.length : Int) > 8)))
theorem Qat.mono_l : ∀ k, (∀ y0 y1, LeO (Qat.j0 k y0 y1) (Qat.j0 (k + 1) y0 y1)) ∧ (∀ y0 y1, LeO (Qat.l0 k y0 y1) (Qat.l0 (k + 1) y0 y1)) ∧ (∀ y0 y1, LeO (Qat.l1 k y0 y1) (Qat.l1 (k + 1) y0 y1)) ∧ (∀ y0 y1, LeO (Qat.l2 k y0 y1) (Qat.l2 (k + 1) y0 y1))
 | 0 => ⟨fun _ _ r h => by simp [Qat.j0] at h, fun _ _ r h => by simp [Qat.l0] at h, fun _ _ r h => by simp [Qat.l1] at h, fun _ _ r h => by simp [Qat.l2] at h⟩
 | k + 1 => by
  obtain ⟨ih0, ih1, ih2, ih3⟩ := Qat.mono_l k
  refine ⟨?_, ?_, ?_, ?_⟩
  ·intro y0 y1
   unfold Qat.j0
   exact ZM6 ih0 ih1 ih2 ih3 Qaw.mono QaO.mono
  ·intro y0 y1
   unfold Qat.l0
   exact ZM6 ih0 ih1 ih2 ih3 Qaw.mono QaO.mono
  ·intro y0 y1
   unfold Qat.l1
   exact ZM6 ih0 ih1 ih2 ih3 Qaw.mono QaO.mono
  intro y0 y1
  unfold Qat.l2
  exact ZM6 ih0 ih1 ih2 ih3 Qaw.mono QaO.mono
theorem Qat.mono : ∀ a0 k, LeO (Qat.f k a0) (Qat.f (k + 1) a0) := by
 intro a0 k
 obtain ⟨ih0, ih1, ih2, ih3⟩ := Qat.mono_l k
 unfold Qat.f
 exact ZM6 ih0 ih1 ih2 ih3 Qaw.mono QaO.mono
theorem Qat.calls (k : Nat) (A0 : Option Addr) (c0 : Nat) (l0 : List (S98)) (r : Int) (w : World) (hr0 : Kd.C k98 w A0 l0.length l0) (hc0 : l0.length ≤ c0) (h : Qat.f k l0 = some r) :
  Calls Try.prog 119 #[.slice A0 l0.length c0] w fun e w' => e = .returned (.int .i64 r) ∧ Drawn0 w w' := by
 have HR0 := Aside0.mk hr0
 have HC0 := Aside0.mk hc0
 clear hr0 hc0
 have H : (if (l0.length : Int) = 0 then (Qat.j0 k l0 T) else (Qat.j0 k l0 (decide ((l0.length : Int) > 8)))) = some r := h
 clear h
 have HC2 := Aside0.mk H
 clear H
 go_enter Try.func119, Try.ntmps119
 go_upto_region 1 with (fail)
 go_cut [15] (fun v15 wc => ∃ (kq : Nat) (x15_1 : Bool), v15 = .bool x15_1 ∧ Aside0 (Qat.j0 kq l0 x15_1 = some r) ∧ Aside0 (kq ≤ k) ∧ Drawn0 w wc)
 case first =>
  have H := HC2.out
  clear HC2
  by_cases c3 : (l0.length : Int) = 0
  ·rw [if_pos c3] at H
   have c3b0 : ((l0.length : Int) == 0) = T := beq_iff_eq.mpr c3
   have c3b1 : ((l0.length : Int) != 0) = F := bne_eq_false_iff_eq.mpr c3
   clear c3
   have H' := Aside0.mk H
   clear H
   go_wp2
   go_meet
   case rel => exact ⟨_, (T), (Zs), H', ⟨by first | omega | exact Nat.le_refl _⟩, Zd⟩
  rw [if_neg c3] at H
  have c3b0 : ((l0.length : Int) == 0) = F := beq_eq_false_iff_ne.mpr c3
  have c3b1 : ((l0.length : Int) != 0) = T := bne_iff_ne.mpr c3
  have c3b2 : ¬ (l0 = []) := fun h_ => c3 (by rw [h_]; rfl)
  have H' := Aside0.mk H
  clear H
  go_wp2
  go_meet
  case rel => exact ⟨_, (decide ((l0.length : Int) > 8)), (Zs), H', ⟨by first | omega | exact Nat.le_refl _⟩, Zd⟩
 case rest =>
  clear HC2
  try clear c1
  try clear p2
  try clear c3
  try clear c3b0
  try clear c3b1
  try clear c3b2
  obtain ⟨kq, x15_1, rfl, HA, HJ1, ⟨mc1, rfl⟩⟩ := hcut
  cases kq with
  | zero => exact absurd HA.out (by simp [Qat.j0])
  | succ kj1 =>
   have H := HA.out
   clear HA
   simp only [Qat.j0] at H
   by_cases c4 : x15_1 = T
   ·subst c4
    have H1 : (some 8) = some r := by rw [if_pos rfl] at H; exact H
    clear H
    have H := H1
    clear H1
    obtain rfl := Option.some.inj H
    go_wp2
    go_ret
    exact ⟨Zs, Zd⟩
   replace c4 := Bool.eq_false_iff.mpr c4
   subst c4
   have H1 : (Qat.l0 kj1 l0 0) = some r := by rw [if_neg (show ¬ (F = T) by decide)] at H; exact H
   clear H
   have H := H1
   clear H1
   have H' := Aside0.mk H
   clear H
   go_wp2
   go_loopg [3] kj1 (fun kq v3 w' => ∃ (x3_2 : Int), v3 = .int .i64 x3_2 ∧ Aside0 (Qat.l0 kq l0 x3_2 = some r) ∧ Aside0 (kq ≤ kj1) ∧ Drawn0 w w')
   case atStart => exact ⟨(0), (Zs), H', ⟨Nat.le_refl _⟩, Zd⟩
   case round =>
    clear H'
    try clear c1
    try clear p2
    try clear c3
    try clear c3b0
    try clear c3b1
    try clear c3b2
    try clear c4
    try clear p2
    obtain ⟨x3_2, rfl, HA, HK2, ⟨m2, rfl⟩⟩ := hrel
    cases gk with
    | zero => exact absurd HA.out (by simp [Qat.l0])
    | succ k2 =>
     have H := HA.out
     clear HA
     simp only [Qat.l0] at H
     by_cases c5 : x3_2 < (l0.length : Int)
     ·rw [if_pos c5] at H
      have c5b0 : decide (x3_2 < (l0.length : Int)) = T := decide_eq_true c5
      clear c5
      (try simp only [c5b0])
      by_cases c6 : 0 ≤ x3_2
      ·rw [if_pos c6] at H
       have c6b0 : decide (0 ≤ x3_2) = T := decide_eq_true c6
       clear c6
       replace H := Option.bind_eq_some_iff.mp H
       obtain ⟨t361, A70, H⟩ := H
       replace H : (if t361 = T then (Qat.l0 k2 l0 (wrap64 (x3_2 + 1))) else (some 10)) = some r := H
       have A7 := Aside0.mk A70
       clear A70
       have p360 : 0 ≤ (x3_2 : Int) := Ze
       have q360 : x3_2 < (l0.length : Int) := Ze
       obtain ⟨ad360, e360, hx360_0, hx360_1⟩ := at_T98 HR0.out x3_2 p360 q360
       cases e360
       replace p360 := eq_true p360
       replace q360 := eq_true q360
       go_upto_if 28 with (first | ((with_reducible refine Qax (f := 99) rfl ?_); refine goesL_ (some 27) rfl rfl Try.func99 (by kernel_rfl) rfl #[.string ((rd_T98 l0 x3_2).f0)] rfl (Zl) ?_; (with_reducible refine (Qaw.calls k2 ((rd_T98 l0 x3_2).f0) t361 _ A7.out).mono ?_); rintro e w' ⟨rfl, ⟨nd, rfl⟩⟩; refine ⟨_, rfl, ?_⟩))
       (try simp only [Act.put, Zj, Zk, Zm])
       by_cases c8 : t361 = T
       ·subst c8
        have H1 : (Qat.l0 k2 l0 (wrap64 (x3_2 + 1))) = some r := by rw [if_pos rfl] at H; exact H
        clear H
        have H := H1
        clear H1
        have H' := Aside0.mk H
        clear H
        go_wp2
        go_roundg k2
        case measure => have := HJ1.out; have := HK2.out; omega
        case rel => exact ⟨(wrap64 (x3_2 + 1)), (Zs), H', ⟨by have := HJ1.out; have := HK2.out; omega⟩, Zd⟩
       replace c8 := Bool.eq_false_iff.mpr c8
       subst c8
       have H1 : (some 10) = some r := by rw [if_neg (show ¬ (F = T) by decide)] at H; exact H
       clear H
       have H := H1
       clear H1
       obtain rfl := Option.some.inj H
       go_wp2
       go_ret
       exact ⟨Zs, Zd⟩
      rw [if_neg c6] at H
      exact absurd H (by simp)
     rw [if_neg c5] at H
     have c5b0 : decide (x3_2 < (l0.length : Int)) = F := decide_eq_false c5
     clear c5
     (try simp only [c5b0])
     have H' := Aside0.mk H
     clear H
     go_wp2
     go_loopg [4] k2 (fun kq v4 w' => ∃ (x4_3 : Int), v4 = .int .i64 x4_3 ∧ Aside0 (Qat.l1 kq l0 x4_3 = some r) ∧ Aside0 (kq ≤ k2) ∧ Drawn0 w w')
     case atStart => exact ⟨(0), (Zs), H', ⟨Nat.le_refl _⟩, Zd⟩
     case round =>
      clear H'
      try clear c1
      try clear p2
      try clear c3
      try clear c3b0
      try clear c3b1
      try clear c3b2
      try clear p3
      try clear q3
      try clear hx3
      try clear c4
      try clear c5
      try clear c5b0
      try clear c6
      try clear c6b0
      try clear p6
      try clear c8
      try clear hx360_0
      try clear hx360_1
      try clear p2
      try clear p360
      try clear q360
      obtain ⟨x4_3, rfl, HA, HK3, ⟨m3, rfl⟩⟩ := hrel
      cases gk with
      | zero => exact absurd HA.out (by simp [Qat.l1])
      | succ k3 =>
       have H := HA.out
       clear HA
       simp only [Qat.l1] at H
       by_cases c9 : x4_3 < (l0.length : Int)
       ·rw [if_pos c9] at H
        have c9b0 : decide (x4_3 < (l0.length : Int)) = T := decide_eq_true c9
        clear c9
        (try simp only [c9b0])
        by_cases c10 : 0 ≤ x4_3
        ·rw [if_pos c10] at H
         have c10b0 : decide (0 ≤ x4_3) = T := decide_eq_true c10
         clear c10
         replace H := Option.bind_eq_some_iff.mp H
         obtain ⟨⟨t363, t364⟩, A110, H⟩ := H
         replace H : (if t363 = x4_3 then (Qat.l1 k3 l0 (wrap64 (x4_3 + 1))) else (some 12)) = some r := H
         have A11 := Aside0.mk A110
         clear A110
         have p362 : 0 ≤ (x4_3 : Int) := Ze
         have q362 : x4_3 < (l0.length : Int) := Ze
         obtain ⟨ad362, e362, hx362_0, hx362_1⟩ := at_T98 HR0.out x4_3 p362 q362
         cases e362
         replace p362 := eq_true p362
         replace q362 := eq_true q362
         go_upto_if 47 with (first | ((with_reducible refine Qax (f := 128) rfl ?_); refine goesL_ (some 42) rfl rfl Try.func128 (by kernel_rfl) rfl #[.slice (some ad362) l0.length c0, .string ((rd_T98 l0 x4_3).f0)] rfl (Zl) ?_; (with_reducible refine (QaO.calls k3 _ _ l0 ((rd_T98 l0 x4_3).f0) t363 t364 _ ?side1 ?side2 A11.out).mono ?_); (case side1 => exact Zv HR0.out); (case side2 => exact HC0.out); rintro e w' ⟨rfl, ⟨nd, rfl⟩⟩; refine ⟨_, rfl, ?_⟩))
         (try simp only [Act.put, Zj, Zk, Zm])
         by_cases c12 : t363 = x4_3
         ·rw [if_pos c12] at H
          have c12b0 : (t363 == x4_3) = T := beq_iff_eq.mpr c12
          have c12b1 : (t363 != x4_3) = F := bne_eq_false_iff_eq.mpr c12
          clear c12
          (try simp only [c12b0, c12b1])
          have H' := Aside0.mk H
          clear H
          go_wp2
          go_roundg k3
          case measure => have := HJ1.out; have := HK2.out; have := HK3.out; omega
          case rel => exact ⟨(wrap64 (x4_3 + 1)), (Zs), H', ⟨by have := HJ1.out; have := HK2.out; have := HK3.out; omega⟩, Zd⟩
         rw [if_neg c12] at H
         have c12b0 : (t363 == x4_3) = F := beq_eq_false_iff_ne.mpr c12
         have c12b1 : (t363 != x4_3) = T := bne_iff_ne.mpr c12
         (try simp only [c12b0, c12b1])
         obtain rfl := Option.some.inj H
         go_wp2
         go_ret
         exact ⟨Zs, Zd⟩
        rw [if_neg c10] at H
        exact absurd H (by simp)
       rw [if_neg c9] at H
       have c9b0 : decide (x4_3 < (l0.length : Int)) = F := decide_eq_false c9
       clear c9
       (try simp only [c9b0])
       have H' := Aside0.mk H
       clear H
       go_wp2
       go_loopg [7] k3 (fun kq v7 w' => ∃ (x7_4 : Int), v7 = .int .i64 x7_4 ∧ Aside0 (Qat.l2 kq l0 x7_4 = some r) ∧ Aside0 (kq ≤ k3) ∧ Drawn0 w w')
       case atStart => exact ⟨(0), (Zs), H', ⟨Nat.le_refl _⟩, Zd⟩
       case round =>
        clear H'
        try clear c1
        try clear p2
        try clear c3
        try clear c3b0
        try clear c3b1
        try clear c3b2
        try clear p3
        try clear q3
        try clear hx3
        try clear c4
        try clear c5
        try clear c5b0
        try clear c6
        try clear c6b0
        try clear p6
        try clear c8
        try clear c9
        try clear c9b0
        try clear c10
        try clear c10b0
        try clear c11
        try clear c12
        try clear c12b0
        try clear c12b1
        try clear hx360_0
        try clear hx360_1
        try clear hx362_0
        try clear hx362_1
        try clear p2
        try clear p3
        try clear p360
        try clear p362
        try clear p6
        try clear q3
        try clear q360
        try clear q362
        obtain ⟨x7_4, rfl, HA, HK4, ⟨m4, rfl⟩⟩ := hrel
        cases gk with
        | zero => exact absurd HA.out (by simp [Qat.l2])
        | succ k4 =>
         have H := HA.out
         clear HA
         simp only [Qat.l2] at H
         by_cases c13 : x7_4 < (l0.length : Int)
         ·rw [if_pos c13] at H
          have c13b0 : decide (x7_4 < (l0.length : Int)) = T := decide_eq_true c13
          clear c13
          (try simp only [c13b0])
          by_cases c14 : 0 ≤ x7_4
          ·rw [if_pos c14] at H
           have c14b0 : decide (0 ≤ x7_4) = T := decide_eq_true c14
           clear c14
           by_cases c15 : ((rd_T98 l0 x7_4).f1) < 1
           ·rw [if_pos c15] at H
            have c15b0 : decide (((rd_T98 l0 x7_4).f1) < 1) = T := decide_eq_true c15
            clear c15
            obtain rfl := Option.some.inj H
            have p365 : 0 ≤ (x7_4 : Int) := Ze
            have q365 : x7_4 < (l0.length : Int) := Ze
            obtain ⟨ad365, e365, hx365_0, hx365_1⟩ := at_T98 HR0.out x7_4 p365 q365
            cases e365
            replace p365 := eq_true p365
            replace q365 := eq_true q365
            go_wp2
            go_ret
            exact ⟨Zs, Zd⟩
           rw [if_neg c15] at H
           have c15b0 : decide (((rd_T98 l0 x7_4).f1) < 1) = F := decide_eq_false c15
           clear c15
           by_cases c16 : ((rd_T98 l0 x7_4).f1) > 1000000000000
           ·rw [if_pos c16] at H
            have c16b0 : decide (1000000000000 < ((rd_T98 l0 x7_4).f1)) = T := decide_eq_true c16
            clear c16
            obtain rfl := Option.some.inj H
            have p365 : 0 ≤ (x7_4 : Int) := Ze
            have q365 : x7_4 < (l0.length : Int) := Ze
            obtain ⟨ad365, e365, hx365_0, hx365_1⟩ := at_T98 HR0.out x7_4 p365 q365
            cases e365
            replace p365 := eq_true p365
            replace q365 := eq_true q365
            have p366 : 0 ≤ (x7_4 : Int) := Ze
            have q366 : x7_4 < (l0.length : Int) := Ze
            obtain ⟨ad366, e366, hx366_0, hx366_1⟩ := at_T98 HR0.out x7_4 p366 q366
            obtain rfl : ad365 = ad366 := (by injection e366)
            replace p366 := eq_true p366
            replace q366 := eq_true q366
            go_wp2
            go_ret
            exact ⟨Zs, Zd⟩
           rw [if_neg c16] at H
           have c16b0 : decide (1000000000000 < ((rd_T98 l0 x7_4).f1)) = F := decide_eq_false c16
           clear c16
           by_cases c17 : x7_4 = 0
           ·rw [if_pos c17] at H
            have c17b0 : (x7_4 == 0) = T := beq_iff_eq.mpr c17
            have c17b1 : (x7_4 != 0) = F := bne_eq_false_iff_eq.mpr c17
            clear c17
            have p365 : 0 ≤ (x7_4 : Int) := Ze
            have q365 : x7_4 < (l0.length : Int) := Ze
            obtain ⟨ad365, e365, hx365_0, hx365_1⟩ := at_T98 HR0.out x7_4 p365 q365
            cases e365
            replace p365 := eq_true p365
            replace q365 := eq_true q365
            have p366 : 0 ≤ (x7_4 : Int) := Ze
            have q366 : x7_4 < (l0.length : Int) := Ze
            obtain ⟨ad366, e366, hx366_0, hx366_1⟩ := at_T98 HR0.out x7_4 p366 q366
            obtain rfl : ad365 = ad366 := (by injection e366)
            replace p366 := eq_true p366
            replace q366 := eq_true q366
            have p367 : 0 ≤ (x7_4 : Int) := Ze
            have q367 : x7_4 < (l0.length : Int) := Ze
            obtain ⟨ad367, e367, hx367_0, hx367_1⟩ := at_T98 HR0.out x7_4 p367 q367
            obtain rfl : ad365 = ad367 := (by injection e367)
            replace p367 := eq_true p367
            replace q367 := eq_true q367
            go_upto_if 79 with (fail)
            by_cases c18 : ((rd_T98 l0 x7_4).f1) = 1000000
            ·rw [if_pos c18] at H
             have c18b0 : (((rd_T98 l0 x7_4).f1) == 1000000) = T := beq_iff_eq.mpr c18
             have c18b1 : (((rd_T98 l0 x7_4).f1) != 1000000) = F := bne_eq_false_iff_eq.mpr c18
             clear c18
             (try simp only [c18b0, c18b1])
             have H' := Aside0.mk H
             clear H
             go_wp2
             go_roundg k4
             case measure => have := HJ1.out; have := HK2.out; have := HK3.out; have := HK4.out; omega
             case rel => exact ⟨(wrap64 (x7_4 + 1)), (Zs), H', ⟨by have := HJ1.out; have := HK2.out; have := HK3.out; have := HK4.out; omega⟩, Zd⟩
            rw [if_neg c18] at H
            have c18b0 : (((rd_T98 l0 x7_4).f1) == 1000000) = F := beq_eq_false_iff_ne.mpr c18
            have c18b1 : (((rd_T98 l0 x7_4).f1) != 1000000) = T := bne_iff_ne.mpr c18
            (try simp only [c18b0, c18b1])
            obtain rfl := Option.some.inj H
            go_wp2
            go_ret
            exact ⟨Zs, Zd⟩
           rw [if_neg c17] at H
           have c17b0 : (x7_4 == 0) = F := beq_eq_false_iff_ne.mpr c17
           have c17b1 : (x7_4 != 0) = T := bne_iff_ne.mpr c17
           have H' := Aside0.mk H
           clear H
           have p365 : 0 ≤ (x7_4 : Int) := Ze
           have q365 : x7_4 < (l0.length : Int) := Ze
           obtain ⟨ad365, e365, hx365_0, hx365_1⟩ := at_T98 HR0.out x7_4 p365 q365
           cases e365
           replace p365 := eq_true p365
           replace q365 := eq_true q365
           have p366 : 0 ≤ (x7_4 : Int) := Ze
           have q366 : x7_4 < (l0.length : Int) := Ze
           obtain ⟨ad366, e366, hx366_0, hx366_1⟩ := at_T98 HR0.out x7_4 p366 q366
           obtain rfl : ad365 = ad366 := (by injection e366)
           replace p366 := eq_true p366
           replace q366 := eq_true q366
           go_wp2
           go_roundg k4
           case measure => have := HJ1.out; have := HK2.out; have := HK3.out; have := HK4.out; omega
           case rel => exact ⟨(wrap64 (x7_4 + 1)), (Zs), H', ⟨by have := HJ1.out; have := HK2.out; have := HK3.out; have := HK4.out; omega⟩, Zd⟩
          rw [if_neg c14] at H
          exact absurd H (by simp)
         rw [if_neg c13] at H
         have c13b0 : decide (x7_4 < (l0.length : Int)) = F := decide_eq_false c13
         clear c13
         (try simp only [c13b0])
         obtain rfl := Option.some.inj H
         go_wp2
         go_ret
         exact ⟨Zs, Zd⟩
def Qa7.f (k : Nat) (l0 : List (S98)) (a1 : Int) (a2 : Int) (a3 : Int) (a4 : Int) : Option (Int × Int) := (Qat.f k l0).bind fun t368 => (if t368 = 0 then (if a2 < 0 then (some (0, 25)) else (if a3 < 0 then (some (0, 25)) else (if a2 ≥ (l0.length : Int) then (some (0, 25)) else (if a3 ≥ (l0.length : Int) then (some (0, 25)) else (if 0 ≤ a2 then (if a2 < (l0.length : Int) then (if 0 ≤ a3 then (if a3 < (l0.length : Int) then ((Qbd.f a1 ((rd_T98 l0 a2).f1) ((rd_T98 l0 a3).f1) a4).bind fun bt371 => (some (bt371.1, bt371.2))) else (none)) else (none)) else (none)) else (none)))))) else (some (0, t368)))
theorem Qa7.mono : ∀ a0 a1 a2 a3 a4 k, LeO (Qa7.f k a0 a1 a2 a3 a4) (Qa7.f (k + 1) a0 a1 a2 a3 a4) := by
 intro a0 a1 a2 a3 a4 k
 unfold Qa7.f
 exact ZM1 Qat.mono
def Qa7.T6 : Bool × List (List Nat × List Nat) := (T, [([], []), ([], []), ([], []), ([1, 2], [1, 2]), ([3], [3]), ([4], [4]), ([], []), ([], []), ([6, 7], [6, 7]), ([8], [8]), ([9], [9]), ([], []), ([0, 5, 10, 11], [0, 5, 10, 11]), ([12], [12]), ([12], [12]), ([13, 12, 0, 1, 2, 3, 4, 5, 6, 7, 8, 9, 10, 11, 12, 13, 14], [13]), ([14, 15, 0, 1, 2, 3, 4, 5, 6, 7, 8, 9, 10, 11, 12, 13, 14, 15], [14])])
def Qa7.B6 : List Nat := [0, 0, 0, 6, 14, 30, 0, 0, 192, 448, 960, 0, 4095, 8191, 8191, 32767, 65535]
theorem Qa7.tab6 : rtab .any (opsOf Try.f106 6) = Qa7.T6 := by kernel_rfl
theorem Qa7.bits6 : Qb0 Qa7.T6.2 Qa7.B6 = T := by kernel_rfl
theorem Qa7.calls (k : Nat) (A0 : Option Addr) (c0 : Nat) (l0 : List (S98)) (a1 : Int) (a2 : Int) (a3 : Int) (a4 : Int) (r1 : Int) (r2 : Int) (w : World) (hr0 : Kd.C k98 w A0 l0.length l0) (hc0 : l0.length ≤ c0) (h : Qa7.f k l0 a1 a2 a3 a4 = some (r1, r2)) :
  Calls Try.prog 106 #[.slice A0 l0.length c0, .int .i64 a1, .int .i64 a2, .int .i64 a3, .int .i64 a4] w fun e w' => e = .returned (.tuple #[.int .i64 r1, .int .i64 r2]) ∧ Below w.heap.size w w' := by
 have HR0 := Aside0.mk hr0
 have HC0 := Aside0.mk hc0
 clear hr0 hc0
 have HB := Aside0.mk (Below.refl w.heap.size w)
 have H : ((Qat.f k l0).bind fun t368 => (if t368 = 0 then (if a2 < 0 then (some (0, 25)) else (if a3 < 0 then (some (0, 25)) else (if a2 ≥ (l0.length : Int) then (some (0, 25)) else (if a3 ≥ (l0.length : Int) then (some (0, 25)) else (if 0 ≤ a2 then (if a2 < (l0.length : Int) then (if 0 ≤ a3 then (if a3 < (l0.length : Int) then ((Qbd.f a1 ((rd_T98 l0 a2).f1) ((rd_T98 l0 a3).f1) a4).bind fun bt371 => (some (bt371.1, bt371.2))) else (none)) else (none)) else (none)) else (none)))))) else (some (0, t368)))) = some (r1, r2) := h
 clear h
 replace H := Option.bind_eq_some_iff.mp H
 obtain ⟨t368, A60, H⟩ := H
 replace H : (if t368 = 0 then (if a2 < 0 then (some (0, 25)) else (if a3 < 0 then (some (0, 25)) else (if a2 ≥ (l0.length : Int) then (some (0, 25)) else (if a3 ≥ (l0.length : Int) then (some (0, 25)) else (if 0 ≤ a2 then (if a2 < (l0.length : Int) then (if 0 ≤ a3 then (if a3 < (l0.length : Int) then ((Qbd.f a1 ((rd_T98 l0 a2).f1) ((rd_T98 l0 a3).f1) a4).bind fun bt371 => (some (bt371.1, bt371.2))) else (none)) else (none)) else (none)) else (none)))))) else (some (0, t368))) = some (r1, r2) := H
 have A6 := Aside0.mk A60
 clear A60
 go_enter Try.func106, Try.ntmps106
 go_upto_if 16 with (first | ((with_reducible refine Qax (f := 119) rfl ?_); refine goesL_ (some 14) rfl rfl Try.func119 (by kernel_rfl) rfl #[.slice A0 l0.length c0] rfl (Zl) ?_; (with_reducible refine (Qat.calls k _ _ l0 t368 _ ?side1 ?side2 A6.out).mono ?_); (case side1 => exact Zv HR0.out); (case side2 => exact HC0.out); rintro e w' ⟨rfl, ⟨nd, rfl⟩⟩; refine ⟨_, rfl, ?_⟩))
 (try simp only [Act.put, Zj, Zk, Zm])
 by_cases c7 : t368 = 0
 ·rw [if_pos c7] at H
  have c7b0 : (t368 == 0) = T := beq_iff_eq.mpr c7
  have c7b1 : (t368 != 0) = F := bne_eq_false_iff_eq.mpr c7
  clear c7
  (try simp only [c7b0, c7b1])
  by_cases c8 : a2 < 0
  ·rw [if_pos c8] at H
   have c8b0 : decide (a2 < 0) = T := decide_eq_true c8
   clear c8
   simp only [Option.some.injEq, Prod.mk.injEq] at H
   obtain ⟨rfl, rfl⟩ := H
   go_wp2
   go_ret2
   exact ⟨Zq, by repeat (first | (with_reducible first | exact HB.out | apply Qag | apply Qae | apply Qah | exact Below.refl _ _) | exact HB.out)⟩
  rw [if_neg c8] at H
  have c8b0 : decide (a2 < 0) = F := decide_eq_false c8
  clear c8
  by_cases c9 : a3 < 0
  ·rw [if_pos c9] at H
   have c9b0 : decide (a3 < 0) = T := decide_eq_true c9
   clear c9
   simp only [Option.some.injEq, Prod.mk.injEq] at H
   obtain ⟨rfl, rfl⟩ := H
   go_wp2
   go_ret2
   exact ⟨Zq, by repeat (first | (with_reducible first | exact HB.out | apply Qag | apply Qae | apply Qah | exact Below.refl _ _) | exact HB.out)⟩
  rw [if_neg c9] at H
  have c9b0 : decide (a3 < 0) = F := decide_eq_false c9
  clear c9
  by_cases c10 : a2 ≥ (l0.length : Int)
  ·rw [if_pos c10] at H
   have c10b0 : decide ((l0.length : Int) ≤ a2) = T := decide_eq_true c10
   clear c10
   simp only [Option.some.injEq, Prod.mk.injEq] at H
   obtain ⟨rfl, rfl⟩ := H
   go_wp2
   go_ret2
   exact ⟨Zq, by repeat (first | (with_reducible first | exact HB.out | apply Qag | apply Qae | apply Qah | exact Below.refl _ _) | exact HB.out)⟩
  rw [if_neg c10] at H
  have c10b0 : decide ((l0.length : Int) ≤ a2) = F := decide_eq_false c10
  clear c10
  by_cases c11 : a3 ≥ (l0.length : Int)
  ·rw [if_pos c11] at H
   have c11b0 : decide ((l0.length : Int) ≤ a3) = T := decide_eq_true c11
   clear c11
   (try simp only [c11b0])
   simp only [Option.some.injEq, Prod.mk.injEq] at H
   obtain ⟨rfl, rfl⟩ := H
   go_wp2
   go_ret2
   exact ⟨Zq, by repeat (first | (with_reducible first | exact HB.out | apply Qag | apply Qae | apply Qah | exact Below.refl _ _) | exact HB.out)⟩
  rw [if_neg c11] at H
  have c11b0 : decide ((l0.length : Int) ≤ a3) = F := decide_eq_false c11
  clear c11
  (try simp only [c11b0])
  by_cases c12 : 0 ≤ a2
  ·rw [if_pos c12] at H
   have c12b0 : decide (0 ≤ a2) = T := decide_eq_true c12
   clear c12
   by_cases c13 : a2 < (l0.length : Int)
   ·rw [if_pos c13] at H
    have c13b0 : decide (a2 < (l0.length : Int)) = T := decide_eq_true c13
    clear c13
    by_cases c14 : 0 ≤ a3
    ·rw [if_pos c14] at H
     have c14b0 : decide (0 ≤ a3) = T := decide_eq_true c14
     clear c14
     by_cases c15 : a3 < (l0.length : Int)
     ·rw [if_pos c15] at H
      have c15b0 : decide (a3 < (l0.length : Int)) = T := decide_eq_true c15
      clear c15
      replace H := Option.bind_eq_some_iff.mp H
      obtain ⟨⟨t371, t372⟩, A160, H⟩ := H
      replace H : (some (t371, t372)) = some (r1, r2) := H
      have A16 := Aside0.mk A160
      clear A160
      simp only [Option.some.injEq, Prod.mk.injEq] at H
      obtain ⟨rfl, rfl⟩ := H
      try go_wp2
      replace HB := Aside0.mk (Qah HB.out)
      have p369 : 0 ≤ (a2 : Int) := Ze
      have q369 : a2 < (l0.length : Int) := Ze
      obtain ⟨ad369, e369, hx369_0, hx369_1⟩ := at_T98 HR0.out a2 p369 q369
      have hw369_1 := hx369_1
      have hw369_0 := hx369_0
      cases e369
      replace hx369_0 := Zx HB.out hx369_0
      replace hx369_1 := Zx HB.out hx369_1
      replace p369 := eq_true p369
      replace q369 := eq_true q369
      have p370 : 0 ≤ (a3 : Int) := Ze
      have q370 : a3 < (l0.length : Int) := Ze
      obtain ⟨ad370, e370, hx370_0, hx370_1⟩ := at_T98 HR0.out a3 p370 q370
      have hw370_1 := hx370_1
      have hw370_0 := hx370_0
      obtain rfl : ad369 = ad370 := (by injection e370)
      replace hx370_0 := Zx HB.out hx370_0
      replace hx370_1 := Zx HB.out hx370_1
      replace p370 := eq_true p370
      replace q370 := eq_true q370
      refine start_ (n := 17) (S := fun w' => w'.cell? (ad369.add ((a2).toNat * 2)) = some (.string ((rd_T98 l0 a2).f0)) ∧ w'.cell? ⟨(ad369.add ((a2).toNat * 2)).block, (ad369.add ((a2).toNat * 2)).off + 1, none⟩ = some (.int .i64 ((rd_T98 l0 a2).f1)) ∧ w'.cell? (ad369.add ((a3).toNat * 2)) = some (.string ((rd_T98 l0 a3).f0)) ∧ w'.cell? ⟨(ad369.add ((a3).toNat * 2)).block, (ad369.add ((a3).toNat * 2)).off + 1, none⟩ = some (.int .i64 ((rd_T98 l0 a3).f1))) (ds := []) #[F, F, F, F, F, F, F, F, F, F, F, F, F, F, F, F, F] (by kernel_rfl) rfl rfl ⟨((HB.out.cell (World.block_lt_of_cell? w _ hw369_0)).trans hw369_0), ((HB.out.cell (World.block_lt_of_cell? w _ hw369_1)).trans hw369_1), ((HB.out.cell (World.block_lt_of_cell? w _ hw370_0)).trans hw370_0), ((HB.out.cell (World.block_lt_of_cell? w _ hw370_1)).trans hw370_1)⟩ (fun hHeld => ?_); refine QbV Qa7.tab6 Qa7.bits6 (fun HT_ HW_ => ?_)
      generalize w.drew = w17 at HB hx369_0 hx369_1 hx370_0 hx370_1 hHeld ⊢
      refine pure_ (i := 0) (N := some 36) (v := ?_) (a' := ?_) #[T, F, F, F, F, F, F, F, F, F, F, F, F, F, F, F, F] rfl rfl (any_of HT_.out (by kernel_rfl)) (fun _ _ _ h => h) (Or.inl ⟨by rfl, ?_⟩) ?_ ?_
      rotate_left
      ·intro w'
       go_simp
       with_reducible rfl
      rotate_left
      ·simp only [Act.put, Zj, Zk, Zm, i64_w, i32_w]
       rfl
      refine pure_ (i := 1) (N := some 37) (v := ?_) (a' := ?_) #[T, T, F, F, F, F, F, F, F, F, F, F, F, F, F, F, F] rfl rfl (any_of HT_.out (by kernel_rfl)) (fun _ _ _ h => h) (Or.inl ⟨by rfl, ?_⟩) ?_ ?_
      rotate_left
      ·intro w'
       go_simp
       with_reducible rfl
      rotate_left
      ·simp only [Act.put, Zj, Zk, Zm, i64_w, i32_w]
       rfl
      refine pure_ (i := 2) (N := some 38) (v := ?_) (a' := ?_) #[T, T, T, F, F, F, F, F, F, F, F, F, F, F, F, F, F] rfl rfl (any_of HT_.out (by kernel_rfl)) (fun _ _ _ h => h) (Or.inl ⟨by rfl, ?_⟩) ?_ ?_
      rotate_left
      ·intro w'
       go_simp
       with_reducible rfl
      rotate_left
      ·simp only [Act.put, Zj, Zk, Zm, i64_w, i32_w]
       rfl
      refine pure_ (i := 3) (N := some 39) (v := ?_) (a' := ?_) #[T, T, T, T, F, F, F, F, F, F, F, F, F, F, F, F, F] rfl rfl (any_of HT_.out (by kernel_rfl)) (fun _ _ _ h => h) (Or.inl ⟨by rfl, ?_⟩) ?_ ?_
      rotate_left
      ·intro w'
       go_simp
       with_reducible rfl
      rotate_left
      ·simp only [Act.put, Zj, Zk, Zm, i64_w, i32_w]
       rfl
      refine pure_ (i := 4) (N := some 40) (v := ?_) (a' := ?_) #[T, T, T, T, T, F, F, F, F, F, F, F, F, F, F, F, F] rfl rfl (any_of HT_.out (by kernel_rfl)) (fun _ _ _ h => h) (Or.inl ⟨by rfl, ?_⟩) ?_ ?_
      rotate_left
      ·intro w'
       go_simp
       with_reducible rfl
      rotate_left
      ·simp only [Act.put, Zj, Zk, Zm, i64_w, i32_w]
       rfl
      refine pure_ (i := 6) (N := some 42) (v := ?_) (a' := ?_) #[T, T, T, T, T, F, T, F, F, F, F, F, F, F, F, F, F] rfl rfl (any_of HT_.out (by kernel_rfl)) (fun _ _ _ h => h) (Or.inl ⟨by rfl, ?_⟩) ?_ ?_
      rotate_left
      ·intro w'
       go_simp
       with_reducible rfl
      rotate_left
      ·simp only [Act.put, Zj, Zk, Zm, i64_w, i32_w]
       rfl
      refine pure_ (i := 7) (N := some 43) (v := ?_) (a' := ?_) #[T, T, T, T, T, F, T, T, F, F, F, F, F, F, F, F, F] rfl rfl (any_of HT_.out (by kernel_rfl)) (fun _ _ _ h => h) (Or.inl ⟨by rfl, ?_⟩) ?_ ?_
      rotate_left
      ·intro w'
       go_simp
       with_reducible rfl
      rotate_left
      ·simp only [Act.put, Zj, Zk, Zm, i64_w, i32_w]
       rfl
      refine pure_ (i := 8) (N := some 44) (v := ?_) (a' := ?_) #[T, T, T, T, T, F, T, T, T, F, F, F, F, F, F, F, F] rfl rfl (any_of HT_.out (by kernel_rfl)) (fun _ _ _ h => h) (Or.inl ⟨by rfl, ?_⟩) ?_ ?_
      rotate_left
      ·intro w'
       go_simp
       with_reducible rfl
      rotate_left
      ·simp only [Act.put, Zj, Zk, Zm, i64_w, i32_w]
       rfl
      refine pure_ (i := 9) (N := some 45) (v := ?_) (a' := ?_) #[T, T, T, T, T, F, T, T, T, T, F, F, F, F, F, F, F] rfl rfl (any_of HT_.out (by kernel_rfl)) (fun _ _ _ h => h) (Or.inl ⟨by rfl, ?_⟩) ?_ ?_
      rotate_left
      ·intro w'
       go_simp
       with_reducible rfl
      rotate_left
      ·simp only [Act.put, Zj, Zk, Zm, i64_w, i32_w]
       rfl
      refine pure_ (i := 11) (N := some 47) (v := ?_) (a' := ?_) #[T, T, T, T, T, F, T, T, T, T, F, T, F, F, F, F, F] rfl rfl (any_of HT_.out (by kernel_rfl)) (fun _ _ _ h => h) (Or.inl ⟨by rfl, ?_⟩) ?_ ?_
      rotate_left
      ·intro w'
       go_simp
       with_reducible rfl
      rotate_left
      ·simp only [Act.put, Zj, Zk, Zm, i64_w, i32_w]
       rfl
      refine take_ (i := 5) (N := some 41) (v := ?_) (a' := ?_) #[T, T, T, T, T, T, T, T, T, T, F, T, F, F, F, F, F] rfl rfl (QbI HT_.out HW_.out (by kernel_rfl)) (fun _ _ _ h => h) (Or.inl ⟨by rfl, ?_⟩) hHeld ?_ ?_
      rotate_left
      ·rintro w' ⟨s0, s1, s2, s3⟩
       go_simp
       with_reducible rfl
      rotate_left
      ·simp only [Act.put, Zj, Zk, Zm, i64_w, i32_w]
       rfl
      refine take_ (i := 10) (N := some 46) (v := ?_) (a' := ?_) #[T, T, T, T, T, T, T, T, T, T, T, T, F, F, F, F, F] rfl rfl (QbI HT_.out HW_.out (by kernel_rfl)) (fun _ _ _ h => h) (Or.inl ⟨by rfl, ?_⟩) hHeld ?_ ?_
      rotate_left
      ·rintro w' ⟨s0, s1, s2, s3⟩
       go_simp
       with_reducible rfl
      rotate_left
      ·simp only [Act.put, Zj, Zk, Zm, i64_w, i32_w]
       rfl
      refine one_ (i := 12) (N := some 48) #[T, T, T, T, T, T, T, T, T, T, T, T, T, F, F, F, F] rfl rfl (one_of HT_.out (by kernel_rfl)) (by decide) (fun K hK => ?_)
      refine goes_ Try.func58 (by kernel_rfl) rfl #[.int .i64 a1, .int .i64 ((rd_T98 l0 a2).f1), .int .i64 ((rd_T98 l0 a3).f1), .int .i64 a4] (by rfl) rfl rfl (Zl) ?_
      with_reducible refine (Qbd.calls a1 ((rd_T98 l0 a2).f1) ((rd_T98 l0 a3).f1) a4 t371 t372 _ A16.out).mono ?_
      rintro e w18 ⟨rfl, hb⟩
      refine ⟨_, rfl, ?_⟩
      replace HB := Aside0.mk (Qao (by repeat (first | (with_reducible first | exact HB.out | apply Qag | apply Qae | apply Qah | exact Below.refl _ _) | exact HB.out)) hb)
      (try clear hb)
      (try clear hb2)
      (try clear hk)
      (try clear hi)
      refine hK.out _ _ ⟨((HB.out.cell (World.block_lt_of_cell? w _ hw369_0)).trans hw369_0), ((HB.out.cell (World.block_lt_of_cell? w _ hw369_1)).trans hw369_1), ((HB.out.cell (World.block_lt_of_cell? w _ hw370_0)).trans hw370_0), ((HB.out.cell (World.block_lt_of_cell? w _ hw370_1)).trans hw370_1)⟩ (fun hHeld => ?_)
      clear hK K
      refine norm_ (a' := ?_) ?_ ?_
      rotate_left
      ·show Act.put _ (some 48) _ = _
       simp only [Act.put, Zj, Zk, Zm, i64_w, i32_w]
       rfl
      refine pure_ (i := 13) (N := some 49) (v := ?_) (a' := ?_) #[T, T, T, T, T, T, T, T, T, T, T, T, T, T, F, F, F] rfl rfl (any_of HT_.out (by kernel_rfl)) (fun _ _ _ h => h) (Or.inl ⟨by rfl, ?_⟩) ?_ ?_
      rotate_left
      ·intro w'
       go_simp
       with_reducible rfl
      rotate_left
      ·simp only [Act.put, Zj, Zk, Zm, i64_w, i32_w]
       rfl
      refine pure_ (i := 14) (N := some 50) (v := ?_) (a' := ?_) #[T, T, T, T, T, T, T, T, T, T, T, T, T, T, T, F, F] rfl rfl (any_of HT_.out (by kernel_rfl)) (fun _ _ _ h => h) (Or.inl ⟨by rfl, ?_⟩) ?_ ?_
      rotate_left
      ·intro w'
       go_simp
       with_reducible rfl
      rotate_left
      ·simp only [Act.put, Zj, Zk, Zm, i64_w, i32_w]
       rfl
      refine pure_ (i := 15) (N := some 10) (v := ?_) (a' := ?_) #[T, T, T, T, T, T, T, T, T, T, T, T, T, T, T, T, F] rfl rfl (any_of HT_.out (by kernel_rfl)) (fun _ _ _ h => h) (Or.inl ⟨by rfl, ?_⟩) ?_ ?_
      rotate_left
      ·intro w'
       go_simp
       with_reducible rfl
      rotate_left
      ·simp only [Act.put, Zj, Zk, Zm, i64_w, i32_w]
       rfl
      refine pure_ (i := 16) (N := some 11) (v := ?_) (a' := ?_) #[T, T, T, T, T, T, T, T, T, T, T, T, T, T, T, T, T] rfl rfl (any_of HT_.out (by kernel_rfl)) (fun _ _ _ h => h) (Or.inl ⟨by rfl, ?_⟩) ?_ ?_
      rotate_left
      ·intro w'
       go_simp
       with_reducible rfl
      rotate_left
      ·simp only [Act.put, Zj, Zk, Zm, i64_w, i32_w]
       rfl
      refine done_ (Qb4 HT_.out (by kernel_rfl)) ?_
      try go_wp2
      go_ret2
      exact ⟨Zq, by repeat (first | (with_reducible first | exact HB.out | apply Qag | apply Qae | apply Qah | exact Below.refl _ _) | exact HB.out)⟩
     rw [if_neg c15] at H
     exact absurd H (by simp)
    rw [if_neg c14] at H
    exact absurd H (by simp)
   rw [if_neg c13] at H
   exact absurd H (by simp)
  rw [if_neg c12] at H
  exact absurd H (by simp)
 rw [if_neg c7] at H
 have c7b0 : (t368 == 0) = F := beq_eq_false_iff_ne.mpr c7
 have c7b1 : (t368 != 0) = T := bne_iff_ne.mpr c7
 (try simp only [c7b0, c7b1])
 simp only [Option.some.injEq, Prod.mk.injEq] at H
 obtain ⟨rfl, rfl⟩ := H
 go_wp2
 go_ret2
 exact ⟨Zq, by repeat (first | (with_reducible first | exact HB.out | apply Qag | apply Qae | apply Qah | exact Below.refl _ _) | exact HB.out)⟩
def Qbt.f (k : Nat) (l0 : List (S98)) (a1 : Int) (a2 : Int) (a3 : Int) : Option (Int × Int) := (Qa7.f k l0 a1 a2 0 a3).bind fun bt373 => (some (bt373.1, bt373.2))
theorem Qbt.mono : ∀ a0 a1 a2 a3 k, LeO (Qbt.f k a0 a1 a2 a3) (Qbt.f (k + 1) a0 a1 a2 a3) := by
 intro a0 a1 a2 a3 k
 unfold Qbt.f
 exact ZM1 Qa7.mono
theorem Qbt.calls (k : Nat) (A0 : Option Addr) (c0 : Nat) (l0 : List (S98)) (a1 : Int) (a2 : Int) (a3 : Int) (r1 : Int) (r2 : Int) (w : World) (hr0 : Kd.C k98 w A0 l0.length l0) (hc0 : l0.length ≤ c0) (h : Qbt.f k l0 a1 a2 a3 = some (r1, r2)) :
  Calls Try.prog 70 #[.slice A0 l0.length c0, .int .i64 a1, .int .i64 a2, .int .i64 a3] w fun e w' => e = .returned (.tuple #[.int .i64 r1, .int .i64 r2]) ∧ Below w.heap.size w w' := by
 have HR0 := Aside0.mk hr0
 have HC0 := Aside0.mk hc0
 clear hr0 hc0
 have HB := Aside0.mk (Below.refl w.heap.size w)
 have H : ((Qa7.f k l0 a1 a2 0 a3).bind fun bt373 => (some (bt373.1, bt373.2))) = some (r1, r2) := h
 clear h
 replace H := Option.bind_eq_some_iff.mp H
 obtain ⟨⟨t373, t374⟩, A50, H⟩ := H
 replace H : (some (t373, t374)) = some (r1, r2) := H
 have A5 := Aside0.mk A50
 clear A50
 simp only [Option.some.injEq, Prod.mk.injEq] at H
 obtain ⟨rfl, rfl⟩ := H
 go_enter Try.func70, Try.ntmps70
 go_wp2_with (first | ((with_reducible refine Qax (f := 106) rfl ?_); refine goesL_ (some 14) rfl rfl Try.func106 (by kernel_rfl) rfl #[.slice A0 l0.length c0, .int .i64 a1, .int .i64 a2, .int .i64 0, .int .i64 a3] rfl (Zl) ?_; (with_reducible refine (Qa7.calls k _ _ l0 a1 a2 0 a3 t373 t374 _ ?side1 ?side2 A5.out).mono ?_); (case side1 => exact Zv HR0.out); (case side2 => exact HC0.out); rintro e w6 ⟨rfl, hb⟩; refine ⟨_, rfl, ?_⟩; replace HB := Aside0.mk (Qao (Zb) hb); (try clear hb); (try clear hb2); (try clear hk); (try clear hi)))
 go_ret2
 exact ⟨Zq, Zb⟩
def Qa9.f (k : Nat) (a0_0 : ByteArray) (a0_1 : Int) (a0_2 : Int) (a0_3 : Int) (a0_4 : Int) (a0_5 : Int) (a1 : Int) (l2 : List (S98)) : Option (Int × Int) := (Qbu.f k a0_0 a0_1 a0_2 a0_3 a0_4 a0_5 a1).bind fun bt376 => (if bt376.2 = 0 then ((Qbt.f k l2 bt376.1 a0_2 3).bind fun bt378 => (if bt378.2 = 0 then ((Qbd.f bt378.1 (wrap64 (1000 - a0_4)) 1000 3).bind fun bt380 => (some (bt380.1, bt380.2))) else (some (0, bt378.2)))) else (some (0, bt376.2)))
theorem Qa9.mono : ∀ a0 a1 a2 a3 a4 a5 a6 a7 k, LeO (Qa9.f k a0 a1 a2 a3 a4 a5 a6 a7) (Qa9.f (k + 1) a0 a1 a2 a3 a4 a5 a6 a7) := by
 intro a0 a1 a2 a3 a4 a5 a6 a7 k
 unfold Qa9.f
 exact ZM2 Qbt.mono Qbu.mono
theorem Qa9.calls (k : Nat) (a0_0 : ByteArray) (a0_1 : Int) (a0_2 : Int) (a0_3 : Int) (a0_4 : Int) (a0_5 : Int) (a1 : Int) (A2 : Option Addr) (c2 : Nat) (l2 : List (S98)) (r1 : Int) (r2 : Int) (w : World) (hr2 : Kd.C k98 w A2 l2.length l2) (hc2 : l2.length ≤ c2) (h : Qa9.f k a0_0 a0_1 a0_2 a0_3 a0_4 a0_5 a1 l2 = some (r1, r2)) :
  Calls Try.prog 42 #[.agg #[.string a0_0, .int .i64 a0_1, .int .i64 a0_2, .int .i64 a0_3, .int .i64 a0_4, .int .i64 a0_5], .int .i64 a1, .slice A2 l2.length c2] w fun e w' => e = .returned (.tuple #[.int .i64 r1, .int .i64 r2]) ∧ Below w.heap.size w w' := by
 have hu84 := Try.underlying84
 have HR2 := Aside0.mk hr2
 have HC2 := Aside0.mk hc2
 clear hr2 hc2
 have HB := Aside0.mk (Below.refl w.heap.size w)
 have H : ((Qbu.f k a0_0 a0_1 a0_2 a0_3 a0_4 a0_5 a1).bind fun bt376 => (if bt376.2 = 0 then ((Qbt.f k l2 bt376.1 a0_2 3).bind fun bt378 => (if bt378.2 = 0 then ((Qbd.f bt378.1 (wrap64 (1000 - a0_4)) 1000 3).bind fun bt380 => (some (bt380.1, bt380.2))) else (some (0, bt378.2)))) else (some (0, bt376.2)))) = some (r1, r2) := h
 clear h
 replace H := Option.bind_eq_some_iff.mp H
 obtain ⟨⟨t376, t377⟩, A40, H⟩ := H
 replace H : (if t377 = 0 then ((Qbt.f k l2 t376 a0_2 3).bind fun bt378 => (if bt378.2 = 0 then ((Qbd.f bt378.1 (wrap64 (1000 - a0_4)) 1000 3).bind fun bt380 => (some (bt380.1, bt380.2))) else (some (0, bt378.2)))) else (some (0, t377))) = some (r1, r2) := H
 have A4 := Aside0.mk A40
 clear A40
 go_enter Try.func42, Try.ntmps42
 go_upto_if 19 with (first | ((with_reducible refine QaJ (N := 3) rfl ?_); refine Zbx (N := 3) (cs := #[.string a0_0, .int .i64 a0_1, .int .i64 a0_2, .int .i64 a0_3, .int .i64 a0_4, .int .i64 a0_5]) (t := 84) ?_; intro gb375 hg w5 hbox hb; have BK375 := Aside0.mk (hbox); have GW375 := Aside0.mk (Zt w hg (Zb)); have GE375 := GW375; replace HB := Aside0.mk (Qao (Zb) hb); clear hb hbox hg; obtain ⟨hcz6_0, hfz6_0⟩ := Zy (v := (.string a0_0)) BK375.out 0; obtain ⟨hcz6_1, hfz6_1⟩ := Zy (v := (.int .i64 a0_1)) BK375.out 1; obtain ⟨hcz6_2, hfz6_2⟩ := Zy (v := (.int .i64 a0_2)) BK375.out 2; obtain ⟨hcz6_3, hfz6_3⟩ := Zy (v := (.int .i64 a0_3)) BK375.out 3; obtain ⟨hcz6_4, hfz6_4⟩ := Zy (v := (.int .i64 a0_4)) BK375.out 4; obtain ⟨hcz6_5, hfz6_5⟩ := Zy (v := (.int .i64 a0_5)) BK375.out 5) | ((with_reducible refine Qax (f := 69) rfl ?_); refine goesL_ (some 15) rfl rfl Try.func69 (by kernel_rfl) rfl #[.agg #[.string a0_0, .int .i64 a0_1, .int .i64 a0_2, .int .i64 a0_3, .int .i64 a0_4, .int .i64 a0_5], .int .i64 a1] rfl (Zl) ?_; (with_reducible refine (Qbu.calls k a0_0 a0_1 a0_2 a0_3 a0_4 a0_5 a1 t376 t377 _ A4.out).mono ?_); rintro e w7 ⟨rfl, hb⟩; refine ⟨_, rfl, ?_⟩; replace BK375 := Aside0.mk (Zi BK375.out hb); replace HB := Aside0.mk (Qao (Zc1 GE375.out) hb); (try clear hb); (try clear hb2); (try clear hk); (try clear hi)))
 (try simp only [Act.put, Zj, Zk, Zm])
 by_cases c8 : t377 = 0
 ·rw [if_pos c8] at H
  have c8b0 : (t377 == 0) = T := beq_iff_eq.mpr c8
  have c8b1 : (t377 != 0) = F := bne_eq_false_iff_eq.mpr c8
  clear c8
  (try simp only [c8b0, c8b1])
  replace H := Option.bind_eq_some_iff.mp H
  obtain ⟨⟨t378, t379⟩, A90, H⟩ := H
  replace H : (if t379 = 0 then ((Qbd.f t378 (wrap64 (1000 - a0_4)) 1000 3).bind fun bt380 => (some (bt380.1, bt380.2))) else (some (0, t379))) = some (r1, r2) := H
  have A9 := Aside0.mk A90
  clear A90
  obtain ⟨hcz10_0, hfz10_0⟩ := Zy (v := (.string a0_0)) BK375.out 0
  obtain ⟨hcz10_1, hfz10_1⟩ := Zy (v := (.int .i64 a0_1)) BK375.out 1
  obtain ⟨hcz10_2, hfz10_2⟩ := Zy (v := (.int .i64 a0_2)) BK375.out 2
  obtain ⟨hcz10_3, hfz10_3⟩ := Zy (v := (.int .i64 a0_3)) BK375.out 3
  obtain ⟨hcz10_4, hfz10_4⟩ := Zy (v := (.int .i64 a0_4)) BK375.out 4
  obtain ⟨hcz10_5, hfz10_5⟩ := Zy (v := (.int .i64 a0_5)) BK375.out 5
  go_upto_if 30 with (first | ((with_reducible refine Qax (f := 70) rfl ?_); refine goesL_ (some 26) rfl rfl Try.func70 (by kernel_rfl) rfl #[.slice A2 l2.length c2, .int .i64 t376, .int .i64 a0_2, .int .i64 3] rfl (Zl) ?_; (with_reducible refine (Qbt.calls k _ _ l2 t376 a0_2 3 t378 t379 _ ?side1 ?side2 A9.out).mono ?_); (case side1 => exact Zv (Kd.C_below HR2.out HB.out)); (case side2 => exact HC2.out); rintro e w11 ⟨rfl, hb⟩; refine ⟨_, rfl, ?_⟩; replace BK375 := Aside0.mk (Zi BK375.out hb); replace HB := Aside0.mk (Qao (Zc1 GE375.out) hb); (try clear hb); (try clear hb2); (try clear hk); (try clear hi)))
  (try simp only [Act.put, Zj, Zk, Zm])
  by_cases c12 : t379 = 0
  ·rw [if_pos c12] at H
   have c12b0 : (t379 == 0) = T := beq_iff_eq.mpr c12
   have c12b1 : (t379 != 0) = F := bne_eq_false_iff_eq.mpr c12
   clear c12
   (try simp only [c12b0, c12b1])
   replace H := Option.bind_eq_some_iff.mp H
   obtain ⟨⟨t380, t381⟩, A130, H⟩ := H
   replace H : (some (t380, t381)) = some (r1, r2) := H
   have A13 := Aside0.mk A130
   clear A130
   simp only [Option.some.injEq, Prod.mk.injEq] at H
   obtain ⟨rfl, rfl⟩ := H
   obtain ⟨hcz14_0, hfz14_0⟩ := Zy (v := (.string a0_0)) BK375.out 0
   obtain ⟨hcz14_1, hfz14_1⟩ := Zy (v := (.int .i64 a0_1)) BK375.out 1
   obtain ⟨hcz14_2, hfz14_2⟩ := Zy (v := (.int .i64 a0_2)) BK375.out 2
   obtain ⟨hcz14_3, hfz14_3⟩ := Zy (v := (.int .i64 a0_3)) BK375.out 3
   obtain ⟨hcz14_4, hfz14_4⟩ := Zy (v := (.int .i64 a0_4)) BK375.out 4
   obtain ⟨hcz14_5, hfz14_5⟩ := Zy (v := (.int .i64 a0_5)) BK375.out 5
   go_wp2_with (first | ((with_reducible refine Qax (f := 58) rfl ?_); refine goesL_ (some 36) rfl rfl Try.func58 (by kernel_rfl) rfl #[.int .i64 t378, .int .i64 (wrap64 (1000 - a0_4)), .int .i64 1000, .int .i64 3] rfl (Zl) ?_; (with_reducible refine (Qbd.calls t378 (wrap64 (1000 - a0_4)) 1000 3 t380 t381 _ A13.out).mono ?_); rintro e w15 ⟨rfl, hb⟩; refine ⟨_, rfl, ?_⟩; replace BK375 := Aside0.mk (Zi BK375.out hb); replace HB := Aside0.mk (Qao (Zc1 GE375.out) hb); (try clear hb); (try clear hb2); (try clear hk); (try clear hi)))
   go_ret2
   exact ⟨Zq, Zc1 GE375.out⟩
  rw [if_neg c12] at H
  have c12b0 : (t379 == 0) = F := beq_eq_false_iff_ne.mpr c12
  have c12b1 : (t379 != 0) = T := bne_iff_ne.mpr c12
  (try simp only [c12b0, c12b1])
  simp only [Option.some.injEq, Prod.mk.injEq] at H
  obtain ⟨rfl, rfl⟩ := H
  go_wp2
  go_ret2
  exact ⟨Zq, Zc1 GE375.out⟩
 rw [if_neg c8] at H
 have c8b0 : (t377 == 0) = F := beq_eq_false_iff_ne.mpr c8
 have c8b1 : (t377 != 0) = T := bne_iff_ne.mpr c8
 (try simp only [c8b0, c8b1])
 simp only [Option.some.injEq, Prod.mk.injEq] at H
 obtain ⟨rfl, rfl⟩ := H
 go_wp2
 go_ret2
 exact ⟨Zq, Zc1 GE375.out⟩
def Qa1.l0 : Nat → List Int → Int → Int → Int → Option (Int × Int)
 | 0, _, _, _, _ => none
 | k + 1, x0, x4, x5, x6 => if x6 < (x0.length : Int) then (if 0 ≤ x6 then ((Qbm.f (rd x0 x6)).bind fun t383 => (if t383 = T then (Qa1.l0 k x0 (wrap64 (x4 + (wrap64 (Int.tdiv (rd x0 x6) 1073741824)))) (wrap64 (x5 + (Int.tmod (rd x0 x6) 1073741824))) (wrap64 (x6 + 1))) else (some (0, 2)))) else (none)) else (if (wrap64 (x4 + (wrap64 (Int.tdiv x5 1073741824)))) < (-1073741825) then (some (0, 3)) else (if (wrap64 (x4 + (wrap64 (Int.tdiv x5 1073741824)))) > 1073741825 then (some (0, 3)) else ((Qbm.f (wrap64 ((wrap64 ((wrap64 (x4 + (wrap64 (Int.tdiv x5 1073741824)))) * 1073741824)) + (Int.tmod x5 1073741824)))).bind fun t386 => (if t386 = T then (some (wrap64 ((wrap64 ((wrap64 (x4 + (wrap64 (Int.tdiv x5 1073741824)))) * 1073741824)) + (Int.tmod x5 1073741824)), 0)) else (some (0, 3))))))
def Qa1.f (k : Nat) (l0 : List Int) : Option (Int × Int) := Qa1.l0 k l0 0 0 0
theorem Qa1.mono_l : ∀ k, (∀ y0 y1 y2 y3, LeO (Qa1.l0 k y0 y1 y2 y3) (Qa1.l0 (k + 1) y0 y1 y2 y3))
 | 0 => fun _ _ _ _ r h => by simp [Qa1.l0] at h
 | k + 1 => by
  have ih0 := Qa1.mono_l k
  intro y0 y1 y2 y3
  unfold Qa1.l0
  exact ZM1 ih0
theorem Qa1.mono : ∀ a0 k, LeO (Qa1.f k a0) (Qa1.f (k + 1) a0) := by
 intro a0 k
 have ih0 := Qa1.mono_l k
 unfold Qa1.f
 exact ZM1 ih0
theorem Qa1.calls (k : Nat) (A0 : Option Addr) (c0 : Nat) (l0 : List Int) (r1 : Int) (r2 : Int) (w : World) (hr0 : Kd.C (Kd.int .i64) w A0 l0.length l0) (hc0 : l0.length ≤ c0) (h : Qa1.f k l0 = some (r1, r2)) :
  Calls Try.prog 60 #[.slice A0 l0.length c0] w fun e w' => e = .returned (.tuple #[.int .i64 r1, .int .i64 r2]) ∧ Drawn0 w w' := by
 have HR0 := Aside0.mk hr0
 have HC0 := Aside0.mk hc0
 clear hr0 hc0
 have H : (Qa1.l0 k l0 0 0 0) = some (r1, r2) := h
 clear h
 have H' := Aside0.mk H
 clear H
 go_enter Try.func60, Try.ntmps60
 go_wp2
 go_loopg [4, 5, 6] k (fun kq v4 v5 v6 w' => ∃ (x4_1 : Int) (x5_1 : Int) (x6_1 : Int), v4 = .int .i64 x4_1 ∧ v5 = .int .i64 x5_1 ∧ v6 = .int .i64 x6_1 ∧ Aside0 (Qa1.l0 kq l0 x4_1 x5_1 x6_1 = some (r1, r2)) ∧ Aside0 (kq ≤ k) ∧ Drawn0 w w')
 case atStart => exact ⟨(0), (0), (0), (Zs), (Zs), (Zs), H', ⟨Nat.le_refl _⟩, Zd⟩
 case round =>
  clear H'
  obtain ⟨x4_1, x5_1, x6_1, rfl, rfl, rfl, HA, HK1, ⟨m1, rfl⟩⟩ := hrel
  cases gk with
  | zero => exact absurd HA.out (by simp [Qa1.l0])
  | succ k1 =>
   have H := HA.out
   clear HA
   simp only [Qa1.l0] at H
   by_cases c2 : x6_1 < (l0.length : Int)
   ·rw [if_pos c2] at H
    have c2b0 : decide (x6_1 < (l0.length : Int)) = T := decide_eq_true c2
    clear c2
    (try simp only [c2b0])
    by_cases c3 : 0 ≤ x6_1
    ·rw [if_pos c3] at H
     have c3b0 : decide (0 ≤ x6_1) = T := decide_eq_true c3
     clear c3
     replace H := Option.bind_eq_some_iff.mp H
     obtain ⟨t383, A40, H⟩ := H
     replace H : (if t383 = T then (Qa1.l0 k1 l0 (wrap64 (x4_1 + (wrap64 (Int.tdiv (rd l0 x6_1) 1073741824)))) (wrap64 (x5_1 + (Int.tmod (rd l0 x6_1) 1073741824))) (wrap64 (x6_1 + 1))) else (some (0, 2))) = some (r1, r2) := H
     have A4 := Aside0.mk A40
     clear A40
     have p382 : 0 ≤ (x6_1 : Int) := Ze
     have q382 : x6_1 < (l0.length : Int) := Ze
     obtain ⟨ad382, e382, hx382_0⟩ := Kd.at_int HR0.out x6_1 p382 q382
     cases e382
     replace p382 := eq_true p382
     replace q382 := eq_true q382
     go_upto_if 18 with (first | ((with_reducible refine Qax (f := 93) rfl ?_); refine goesL_ (some 17) rfl rfl Try.func93 (by kernel_rfl) rfl #[.int .i64 (rd l0 x6_1)] rfl (Zl) ?_; (with_reducible refine (Qbm.calls (rd l0 x6_1) t383 _ A4.out).mono ?_); rintro e w' ⟨rfl, ⟨nd, rfl⟩⟩; refine ⟨_, rfl, ?_⟩))
     (try simp only [Act.put, Zj, Zk, Zm])
     by_cases c5 : t383 = T
     ·subst c5
      have H1 : (Qa1.l0 k1 l0 (wrap64 (x4_1 + (wrap64 (Int.tdiv (rd l0 x6_1) 1073741824)))) (wrap64 (x5_1 + (Int.tmod (rd l0 x6_1) 1073741824))) (wrap64 (x6_1 + 1))) = some (r1, r2) := by rw [if_pos rfl] at H; exact H
      clear H
      have H := H1
      clear H1
      have H' := Aside0.mk H
      clear H
      have p384 : 0 ≤ (x6_1 : Int) := Ze
      have q384 : x6_1 < (l0.length : Int) := Ze
      obtain ⟨ad384, e384, hx384_0⟩ := Kd.at_int HR0.out x6_1 p384 q384
      obtain rfl : ad382 = ad384 := (by injection e384)
      replace p384 := eq_true p384
      replace q384 := eq_true q384
      have p385 : 0 ≤ (x6_1 : Int) := Ze
      have q385 : x6_1 < (l0.length : Int) := Ze
      obtain ⟨ad385, e385, hx385_0⟩ := Kd.at_int HR0.out x6_1 p385 q385
      obtain rfl : ad382 = ad385 := (by injection e385)
      replace p385 := eq_true p385
      replace q385 := eq_true q385
      go_wp2
      go_roundg k1
      case measure => have := HK1.out; omega
      case rel => exact ⟨(wrap64 (x4_1 + (wrap64 (Int.tdiv (rd l0 x6_1) 1073741824)))), (wrap64 (x5_1 + (Int.tmod (rd l0 x6_1) 1073741824))), (wrap64 (x6_1 + 1)), (Zs), (Zs), (Zs), H', ⟨by have := HK1.out; omega⟩, Zd⟩
     replace c5 := Bool.eq_false_iff.mpr c5
     subst c5
     have H1 : (some (0, 2)) = some (r1, r2) := by rw [if_neg (show ¬ (F = T) by decide)] at H; exact H
     clear H
     have H := H1
     clear H1
     simp only [Option.some.injEq, Prod.mk.injEq] at H
     obtain ⟨rfl, rfl⟩ := H
     go_wp2
     go_ret2
     exact ⟨Zs, Zd⟩
    rw [if_neg c3] at H
    exact absurd H (by simp)
   rw [if_neg c2] at H
   have c2b0 : decide (x6_1 < (l0.length : Int)) = F := decide_eq_false c2
   clear c2
   (try simp only [c2b0])
   by_cases c6 : (wrap64 (x4_1 + (wrap64 (Int.tdiv x5_1 1073741824)))) < (-1073741825)
   ·rw [if_pos c6] at H
    have c6b0 : decide ((wrap64 (x4_1 + (wrap64 (Int.tdiv x5_1 1073741824)))) < (-1073741825)) = T := decide_eq_true c6
    clear c6
    simp only [Option.some.injEq, Prod.mk.injEq] at H
    obtain ⟨rfl, rfl⟩ := H
    go_wp2
    go_ret2
    exact ⟨Zs, Zd⟩
   rw [if_neg c6] at H
   have c6b0 : decide ((wrap64 (x4_1 + (wrap64 (Int.tdiv x5_1 1073741824)))) < (-1073741825)) = F := decide_eq_false c6
   clear c6
   by_cases c7 : (wrap64 (x4_1 + (wrap64 (Int.tdiv x5_1 1073741824)))) > 1073741825
   ·rw [if_pos c7] at H
    have c7b0 : decide (1073741825 < (wrap64 (x4_1 + (wrap64 (Int.tdiv x5_1 1073741824))))) = T := decide_eq_true c7
    clear c7
    simp only [Option.some.injEq, Prod.mk.injEq] at H
    obtain ⟨rfl, rfl⟩ := H
    go_wp2
    go_ret2
    exact ⟨Zs, Zd⟩
   rw [if_neg c7] at H
   have c7b0 : decide (1073741825 < (wrap64 (x4_1 + (wrap64 (Int.tdiv x5_1 1073741824))))) = F := decide_eq_false c7
   clear c7
   replace H := Option.bind_eq_some_iff.mp H
   obtain ⟨t386, A80, H⟩ := H
   replace H : (if t386 = T then (some (wrap64 ((wrap64 ((wrap64 (x4_1 + (wrap64 (Int.tdiv x5_1 1073741824)))) * 1073741824)) + (Int.tmod x5_1 1073741824)), 0)) else (some (0, 3))) = some (r1, r2) := H
   have A8 := Aside0.mk A80
   clear A80
   go_upto_if 52 with (first | (go_at_call 93; (with_reducible refine (Qbm.calls (wrap64 ((wrap64 ((wrap64 (x4_1 + (wrap64 (Int.tdiv x5_1 1073741824)))) * 1073741824)) + (Int.tmod x5_1 1073741824))) t386 _ A8.out).mono ?_); rintro e w' ⟨rfl, ⟨nd, rfl⟩⟩))
   (try simp only [Act.put, Zj, Zk, Zm])
   by_cases c9 : t386 = T
   ·subst c9
    have H1 : (some (wrap64 ((wrap64 ((wrap64 (x4_1 + (wrap64 (Int.tdiv x5_1 1073741824)))) * 1073741824)) + (Int.tmod x5_1 1073741824)), 0)) = some (r1, r2) := by rw [if_pos rfl] at H; exact H
    clear H
    have H := H1
    clear H1
    simp only [Option.some.injEq, Prod.mk.injEq] at H
    obtain ⟨rfl, rfl⟩ := H
    go_wp2
    go_ret2
    exact ⟨Zs, Zd⟩
   replace c9 := Bool.eq_false_iff.mpr c9
   subst c9
   have H1 : (some (0, 3)) = some (r1, r2) := by rw [if_neg (show ¬ (F = T) by decide)] at H; exact H
   clear H
   have H := H1
   clear H1
   simp only [Option.some.injEq, Prod.mk.injEq] at H
   obtain ⟨rfl, rfl⟩ := H
   go_wp2
   go_ret2
   exact ⟨Zs, Zd⟩
def Qbg.f (k : Nat) (a0_0 : ByteArray) (a0_1 : ByteArray) : Option (Bool) := (Qaw.f k a0_0).bind fun t388 => (if t388 = T then ((Qaw.f k a0_1).bind fun t389 => (some t389)) else (some F))
theorem Qbg.mono : ∀ a0 a1 k, LeO (Qbg.f k a0 a1) (Qbg.f (k + 1) a0 a1) := by
 intro a0 a1 k
 unfold Qbg.f
 exact ZM1 Qaw.mono
theorem Qbg.calls (k : Nat) (a0_0 : ByteArray) (a0_1 : ByteArray) (r : Bool) (w : World) (h : Qbg.f k a0_0 a0_1 = some r) :
  Calls Try.prog 98 #[.agg #[.string a0_0, .string a0_1]] w fun e w' => e = .returned (.bool r) ∧ Below w.heap.size w w' := by
 have hu44 := Try.underlying44
 have HB := Aside0.mk (Below.refl w.heap.size w)
 have H : ((Qaw.f k a0_0).bind fun t388 => (if t388 = T then ((Qaw.f k a0_1).bind fun t389 => (some t389)) else (some F))) = some r := h
 clear h
 go_enter Try.func98, Try.ntmps98
 go_upto_region 1 with (first | ((with_reducible refine QaJ (N := 1) rfl ?_); refine Zbx (N := 1) (cs := #[.string a0_0, .string a0_1]) (t := 44) ?_; intro gb387 hg w2 hbox hb; have BK387 := Aside0.mk (hbox); have GW387 := Aside0.mk (Zt w hg (Zb)); have GE387 := GW387; replace HB := Aside0.mk (Qao (Zb) hb); clear hb hbox hg))
 (try simp only [Act.put, Zj, Zk, Zm])
 replace H := Option.bind_eq_some_iff.mp H
 obtain ⟨t388, A30, H⟩ := H
 replace H : (if t388 = T then ((Qaw.f k a0_1).bind fun t389 => (some t389)) else (some F)) = some r := H
 have A3 := Aside0.mk A30
 clear A30
 by_cases c4 : t388 = T
 ·subst c4
  have H1 : ((Qaw.f k a0_1).bind fun t389 => (some t389)) = some r := by rw [if_pos rfl] at H; exact H
  clear H
  have H := H1
  clear H1
  replace H := Option.bind_eq_some_iff.mp H
  obtain ⟨t389, A50, H⟩ := H
  replace H : (some t389) = some r := H
  have A5 := Aside0.mk A50
  clear A50
  obtain rfl := Option.some.inj H
  obtain ⟨hcz6_0, hfz6_0⟩ := Zy (v := (.string a0_0)) BK387.out 0
  obtain ⟨hcz6_1, hfz6_1⟩ := Zy (v := (.string a0_1)) BK387.out 1
  go_wp2_with (first | ((with_reducible refine Qax (f := 99) rfl ?_); refine goesL_ (some 5) rfl rfl Try.func99 (by kernel_rfl) rfl #[.string a0_0] rfl (Zl) ?_; (with_reducible refine (Qaw.calls k a0_0 T _ A3.out).mono ?_); rintro e w' ⟨rfl, ⟨nd, rfl⟩⟩; refine ⟨_, rfl, ?_⟩) | (go_at_call 99; (with_reducible refine (Qaw.calls k a0_1 t389 _ A5.out).mono ?_); rintro e w' ⟨rfl, ⟨nd, rfl⟩⟩))
  go_ret
  exact ⟨Zq, Zc1 GE387.out⟩
 replace c4 := Bool.eq_false_iff.mpr c4
 subst c4
 have H1 : (some F) = some r := by rw [if_neg (show ¬ (F = T) by decide)] at H; exact H
 clear H
 have H := H1
 clear H1
 obtain rfl := Option.some.inj H
 obtain ⟨hcz7_0, hfz7_0⟩ := Zy (v := (.string a0_0)) BK387.out 0
 obtain ⟨hcz7_1, hfz7_1⟩ := Zy (v := (.string a0_1)) BK387.out 1
 go_wp2_with (first | ((with_reducible refine Qax (f := 99) rfl ?_); refine goesL_ (some 5) rfl rfl Try.func99 (by kernel_rfl) rfl #[.string a0_0] rfl (Zl) ?_; (with_reducible refine (Qaw.calls k a0_0 F _ A3.out).mono ?_); rintro e w' ⟨rfl, ⟨nd, rfl⟩⟩; refine ⟨_, rfl, ?_⟩))
 go_ret
 exact ⟨Zq, Zc1 GE387.out⟩
def QbE.f (a0_0 : ByteArray) (a0_1 : ByteArray) (a0_2 : ByteArray) (a0_3 : Int) (a1_0 : ByteArray) (a1_1 : ByteArray) (a1_2 : ByteArray) (a1_3 : Int) : Option (Bool) := if a0_0.toList = a1_0.toList then (if a0_1.toList = a1_1.toList then (some (Op.bytesLess a0_2.toList a1_2.toList)) else (some (Op.bytesLess a0_1.toList a1_1.toList))) else (some (Op.bytesLess a0_0.toList a1_0.toList))
theorem QbE.calls (a0_0 : ByteArray) (a0_1 : ByteArray) (a0_2 : ByteArray) (a0_3 : Int) (a1_0 : ByteArray) (a1_1 : ByteArray) (a1_2 : ByteArray) (a1_3 : Int) (r : Bool) (w : World) (h : QbE.f a0_0 a0_1 a0_2 a0_3 a1_0 a1_1 a1_2 a1_3 = some r) :
  Calls Try.prog 100 #[.agg #[.string a0_0, .string a0_1, .string a0_2, .int .i64 a0_3], .agg #[.string a1_0, .string a1_1, .string a1_2, .int .i64 a1_3]] w fun e w' => e = .returned (.bool r) ∧ Below w.heap.size w w' := by
 have hu46 := Try.underlying46
 have HB := Aside0.mk (Below.refl w.heap.size w)
 have H : (if a0_0.toList = a1_0.toList then (if a0_1.toList = a1_1.toList then (some (Op.bytesLess a0_2.toList a1_2.toList)) else (some (Op.bytesLess a0_1.toList a1_1.toList))) else (some (Op.bytesLess a0_0.toList a1_0.toList))) = some r := h
 clear h
 go_enter Try.func100, Try.ntmps100
 go_upto_if 11 with (first | ((with_reducible refine QaJ (N := 2) rfl ?_); refine Zbx (N := 2) (cs := #[.string a0_0, .string a0_1, .string a0_2, .int .i64 a0_3]) (t := 46) ?_; intro gb390 hg w3 hbox hb; have BK390 := Aside0.mk (hbox); have GW390 := Aside0.mk (Zt w hg (Zb)); have GE390 := GW390; replace HB := Aside0.mk (Qao (Zb) hb); clear hb hbox hg) | ((with_reducible refine QaJ (N := 3) rfl ?_); refine Zbx (N := 3) (cs := #[.string a1_0, .string a1_1, .string a1_2, .int .i64 a1_3]) (t := 46) ?_; intro gb391 hg w4 hbox hb; have BK391 := Aside0.mk (hbox); have GW391 := Aside0.mk (Zt w hg (Zc1 GE390.out)); have GE391 := GW391; have NB390_391 := Aside0.mk (Zn hg BK390.out); have NB391_390 := Aside0.mk NB390_391.out.symm; replace BK390 := Aside0.mk (Zi BK390.out hb); replace HB := Aside0.mk (Qao (Zc1 GE390.out) hb); clear hb hbox hg; have hnb5 := NB390_391.out; have hnc5 := NB391_390.out; obtain ⟨hcz6_0, hfz6_0⟩ := Zy (v := (.string a0_0)) BK390.out 0; obtain ⟨hcz6_1, hfz6_1⟩ := Zy (v := (.string a0_1)) BK390.out 1; obtain ⟨hcz6_2, hfz6_2⟩ := Zy (v := (.string a0_2)) BK390.out 2; obtain ⟨hcz6_3, hfz6_3⟩ := Zy (v := (.int .i64 a0_3)) BK390.out 3; obtain ⟨hcz7_0, hfz7_0⟩ := Zy (v := (.string a1_0)) BK391.out 0; obtain ⟨hcz7_1, hfz7_1⟩ := Zy (v := (.string a1_1)) BK391.out 1; obtain ⟨hcz7_2, hfz7_2⟩ := Zy (v := (.string a1_2)) BK391.out 2; obtain ⟨hcz7_3, hfz7_3⟩ := Zy (v := (.int .i64 a1_3)) BK391.out 3))
 (try simp only [Act.put, Zj, Zk, Zm])
 by_cases c8 : a0_0.toList = a1_0.toList
 ·rw [if_pos c8] at H
  have c8b0 : (a0_0.toList == a1_0.toList) = T := beq_iff_eq.mpr c8
  have c8b1 : (a0_0.toList != a1_0.toList) = F := bne_eq_false_iff_eq.mpr c8
  clear c8
  (try simp only [c8b0, c8b1])
  have hnb9 := NB390_391.out
  have hnc9 := NB391_390.out
  obtain ⟨hcz10_0, hfz10_0⟩ := Zy (v := (.string a0_0)) BK390.out 0
  obtain ⟨hcz10_1, hfz10_1⟩ := Zy (v := (.string a0_1)) BK390.out 1
  obtain ⟨hcz10_2, hfz10_2⟩ := Zy (v := (.string a0_2)) BK390.out 2
  obtain ⟨hcz10_3, hfz10_3⟩ := Zy (v := (.int .i64 a0_3)) BK390.out 3
  obtain ⟨hcz11_0, hfz11_0⟩ := Zy (v := (.string a1_0)) BK391.out 0
  obtain ⟨hcz11_1, hfz11_1⟩ := Zy (v := (.string a1_1)) BK391.out 1
  obtain ⟨hcz11_2, hfz11_2⟩ := Zy (v := (.string a1_2)) BK391.out 2
  obtain ⟨hcz11_3, hfz11_3⟩ := Zy (v := (.int .i64 a1_3)) BK391.out 3
  go_upto_if 25 with (fail)
  by_cases c12 : a0_1.toList = a1_1.toList
  ·rw [if_pos c12] at H
   have c12b0 : (a0_1.toList == a1_1.toList) = T := beq_iff_eq.mpr c12
   have c12b1 : (a0_1.toList != a1_1.toList) = F := bne_eq_false_iff_eq.mpr c12
   clear c12
   (try simp only [c12b0, c12b1])
   obtain rfl := Option.some.inj H
   have hnb13 := NB390_391.out
   have hnc13 := NB391_390.out
   obtain ⟨hcz14_0, hfz14_0⟩ := Zy (v := (.string a0_0)) BK390.out 0
   obtain ⟨hcz14_1, hfz14_1⟩ := Zy (v := (.string a0_1)) BK390.out 1
   obtain ⟨hcz14_2, hfz14_2⟩ := Zy (v := (.string a0_2)) BK390.out 2
   obtain ⟨hcz14_3, hfz14_3⟩ := Zy (v := (.int .i64 a0_3)) BK390.out 3
   obtain ⟨hcz15_0, hfz15_0⟩ := Zy (v := (.string a1_0)) BK391.out 0
   obtain ⟨hcz15_1, hfz15_1⟩ := Zy (v := (.string a1_1)) BK391.out 1
   obtain ⟨hcz15_2, hfz15_2⟩ := Zy (v := (.string a1_2)) BK391.out 2
   obtain ⟨hcz15_3, hfz15_3⟩ := Zy (v := (.int .i64 a1_3)) BK391.out 3
   go_wp2
   go_ret
   exact ⟨Zq, Zc2 GE390.out GE391.out⟩
  rw [if_neg c12] at H
  have c12b0 : (a0_1.toList == a1_1.toList) = F := beq_eq_false_iff_ne.mpr c12
  have c12b1 : (a0_1.toList != a1_1.toList) = T := bne_iff_ne.mpr c12
  (try simp only [c12b0, c12b1])
  obtain rfl := Option.some.inj H
  have hnb16 := NB390_391.out
  have hnc16 := NB391_390.out
  obtain ⟨hcz17_0, hfz17_0⟩ := Zy (v := (.string a0_0)) BK390.out 0
  obtain ⟨hcz17_1, hfz17_1⟩ := Zy (v := (.string a0_1)) BK390.out 1
  obtain ⟨hcz17_2, hfz17_2⟩ := Zy (v := (.string a0_2)) BK390.out 2
  obtain ⟨hcz17_3, hfz17_3⟩ := Zy (v := (.int .i64 a0_3)) BK390.out 3
  obtain ⟨hcz18_0, hfz18_0⟩ := Zy (v := (.string a1_0)) BK391.out 0
  obtain ⟨hcz18_1, hfz18_1⟩ := Zy (v := (.string a1_1)) BK391.out 1
  obtain ⟨hcz18_2, hfz18_2⟩ := Zy (v := (.string a1_2)) BK391.out 2
  obtain ⟨hcz18_3, hfz18_3⟩ := Zy (v := (.int .i64 a1_3)) BK391.out 3
  go_wp2
  go_ret
  exact ⟨Zq, Zc2 GE390.out GE391.out⟩
 rw [if_neg c8] at H
 have c8b0 : (a0_0.toList == a1_0.toList) = F := beq_eq_false_iff_ne.mpr c8
 have c8b1 : (a0_0.toList != a1_0.toList) = T := bne_iff_ne.mpr c8
 (try simp only [c8b0, c8b1])
 obtain rfl := Option.some.inj H
 have hnb19 := NB390_391.out
 have hnc19 := NB391_390.out
 obtain ⟨hcz20_0, hfz20_0⟩ := Zy (v := (.string a0_0)) BK390.out 0
 obtain ⟨hcz20_1, hfz20_1⟩ := Zy (v := (.string a0_1)) BK390.out 1
 obtain ⟨hcz20_2, hfz20_2⟩ := Zy (v := (.string a0_2)) BK390.out 2
 obtain ⟨hcz20_3, hfz20_3⟩ := Zy (v := (.int .i64 a0_3)) BK390.out 3
 obtain ⟨hcz21_0, hfz21_0⟩ := Zy (v := (.string a1_0)) BK391.out 0
 obtain ⟨hcz21_1, hfz21_1⟩ := Zy (v := (.string a1_1)) BK391.out 1
 obtain ⟨hcz21_2, hfz21_2⟩ := Zy (v := (.string a1_2)) BK391.out 2
 obtain ⟨hcz21_3, hfz21_3⟩ := Zy (v := (.int .i64 a1_3)) BK391.out 3
 go_wp2
 go_ret
 exact ⟨Zq, Zc2 GE390.out GE391.out⟩
def QbP.f (a0 : Int) : Option (Bool) := if a0 ≥ 1 then (some (decide (a0 ≤ 1152921504606846976))) else (some F)
theorem QbP.calls (a0 : Int) (r : Bool) (w : World) (h : QbP.f a0 = some r) :
  Calls Try.prog 101 #[.int .i64 a0] w fun e w' => e = .returned (.bool r) ∧ Drawn0 w w' := by
 have H : (if a0 ≥ 1 then (some (decide (a0 ≤ 1152921504606846976))) else (some F)) = some r := h
 clear h
 by_cases c2 : a0 ≥ 1
 ·rw [if_pos c2] at H
  have c2b0 : decide (1 ≤ a0) = T := decide_eq_true c2
  clear c2
  obtain rfl := Option.some.inj H
  go_enter Try.func101, Try.ntmps101
  go_wp2
  go_ret
  exact ⟨Zs, Zd⟩
 rw [if_neg c2] at H
 have c2b0 : decide (1 ≤ a0) = F := decide_eq_false c2
 clear c2
 obtain rfl := Option.some.inj H
 go_enter Try.func101, Try.ntmps101
 go_wp2
 go_ret
 exact ⟨Zs, Zd⟩
mutual
def Qaq.l0 : Nat → List (S46) → Int → Option (Int)
 | 0, _, _ => none
 | k + 1, x0, x3 => if x3 < (x0.length : Int) then (if 0 ≤ x3 then ((Qbg.f k ((rd_T46 x0 x3).f0.f0) ((rd_T46 x0 x3).f0.f1)).bind fun t393 => (if t393 = T then ((Qaw.f k ((rd_T46 x0 x3).f1)).bind fun t395 => (Qaq.j1 k x0 x3 (!t395))) else (Qaq.j1 k x0 x3 T))) else (none)) else (some 0)
def Qaq.j1 : Nat → List (S46) → Int → Bool → Option (Int)
 | 0, _, _, _ => none
 | k + 1, x0, x3, x28 => if x28 = T then (some 10) else (if x3 > 0 then (if 0 ≤ (wrap64 (x3 - 1)) then (if (wrap64 (x3 - 1)) < (x0.length : Int) then (if 0 ≤ x3 then (if x3 < (x0.length : Int) then ((QbE.f ((rd_T46 x0 (wrap64 (x3 - 1))).f0.f0) ((rd_T46 x0 (wrap64 (x3 - 1))).f0.f1) ((rd_T46 x0 (wrap64 (x3 - 1))).f1) ((rd_T46 x0 (wrap64 (x3 - 1))).f2) ((rd_T46 x0 x3).f0.f0) ((rd_T46 x0 x3).f0.f1) ((rd_T46 x0 x3).f1) ((rd_T46 x0 x3).f2)).bind fun t398 => (Qaq.j2 k x0 x3 (!t398))) else (none)) else (none)) else (none)) else (none)) else (Qaq.j2 k x0 x3 F))
def Qaq.j2 : Nat → List (S46) → Int → Bool → Option (Int)
 | 0, _, _, _ => none
 | k + 1, x0, x3, x43 => if x43 = T then (some 12) else (if 0 ≤ x3 then (if x3 < (x0.length : Int) then ((QbP.f ((rd_T46 x0 x3).f2)).bind fun t400 => (if t400 = T then (Qaq.l0 k x0 (wrap64 (x3 + 1))) else (some 18))) else (none)) else (none))
end
def Qaq.f (k : Nat) (l0 : List (S46)) : Option (Int) := if (l0.length : Int) > 1024 then (some 8) else (Qaq.l0 k l0 0)
theorem Qaq.mono_l : ∀ k, (∀ y0 y1, LeO (Qaq.l0 k y0 y1) (Qaq.l0 (k + 1) y0 y1)) ∧ (∀ y0 y1 y2, LeO (Qaq.j1 k y0 y1 y2) (Qaq.j1 (k + 1) y0 y1 y2)) ∧ (∀ y0 y1 y2, LeO (Qaq.j2 k y0 y1 y2) (Qaq.j2 (k + 1) y0 y1 y2))
 | 0 => ⟨fun _ _ r h => by simp [Qaq.l0] at h, fun _ _ _ r h => by simp [Qaq.j1] at h, fun _ _ _ r h => by simp [Qaq.j2] at h⟩
 | k + 1 => by
  obtain ⟨ih0, ih1, ih2⟩ := Qaq.mono_l k
  refine ⟨?_, ?_, ?_⟩
  ·intro y0 y1
   unfold Qaq.l0
   exact ZM5 ih0 ih1 ih2 Qaw.mono Qbg.mono
  ·intro y0 y1 y2
   unfold Qaq.j1
   exact ZM5 ih0 ih1 ih2 Qaw.mono Qbg.mono
  intro y0 y1 y2
  unfold Qaq.j2
  exact ZM5 ih0 ih1 ih2 Qaw.mono Qbg.mono
theorem Qaq.mono : ∀ a0 k, LeO (Qaq.f k a0) (Qaq.f (k + 1) a0) := by
 intro a0 k
 obtain ⟨ih0, ih1, ih2⟩ := Qaq.mono_l k
 unfold Qaq.f
 exact ZM5 ih0 ih1 ih2 Qaw.mono Qbg.mono
def Qaq.T8 : Bool × List (List Nat × List Nat) := (T, [([], []), ([0], [0]), ([1], [1]), ([2], [2]), ([2], [2]), ([4, 2], [2, 4]), ([3, 5, 2], [2, 3, 5]), ([6, 2], [2, 6]), ([2], [2]), ([2], [2]), ([8, 9, 2], [2, 8, 9]), ([10, 2], [2, 10]), ([7, 11, 2, 2], [2, 7, 11]), ([12, 2], [2, 12]), ([2, 13], [2, 13])])
def Qaq.B8 : List Nat := [0, 1, 3, 7, 7, 23, 63, 127, 7, 7, 775, 1799, 4095, 8191, 16383]
theorem Qaq.tab8 : rtab .any (opsOf Try.f66 8) = Qaq.T8 := by kernel_rfl
theorem Qaq.bits8 : Qb0 Qaq.T8.2 Qaq.B8 = T := by kernel_rfl
theorem Qaq.calls (k : Nat) (A0 : Option Addr) (c0 : Nat) (l0 : List (S46)) (r : Int) (w : World) (hr0 : Kd.C k46 w A0 l0.length l0) (hc0 : l0.length ≤ c0) (h : Qaq.f k l0 = some r) :
  Calls Try.prog 66 #[.slice A0 l0.length c0] w fun e w' => e = .returned (.int .i64 r) ∧ Below w.heap.size w w' := by
 have hu44 := Try.underlying44
 have hu46 := Try.underlying46
 have HR0 := Aside0.mk hr0
 have HC0 := Aside0.mk hc0
 clear hr0 hc0
 have HB := Aside0.mk (Below.refl w.heap.size w)
 have H : (if (l0.length : Int) > 1024 then (some 8) else (Qaq.l0 k l0 0)) = some r := h
 clear h
 by_cases c2 : (l0.length : Int) > 1024
 ·rw [if_pos c2] at H
  have c2b0 : decide (1024 < (l0.length : Int)) = T := decide_eq_true c2
  have c2b1 : decide (1024 < l0.length) = T := decide_eq_true (by omega)
  clear c2
  obtain rfl := Option.some.inj H
  go_enter Try.func66, Try.ntmps66
  go_wp2
  go_ret
  exact ⟨Zq, Zb⟩
 rw [if_neg c2] at H
 have c2b0 : decide (1024 < (l0.length : Int)) = F := decide_eq_false c2
 have c2b1 : decide (1024 < l0.length) = F := decide_eq_false (by omega)
 clear c2
 have H' := Aside0.mk H
 clear H
 go_enter Try.func66, Try.ntmps66
 go_wp2
 go_loopg [3] k (fun kq v3 w' => ∃ (x3_1 : Int), v3 = .int .i64 x3_1 ∧ Aside0 (Qaq.l0 kq l0 x3_1 = some r) ∧ Aside0 (kq ≤ k) ∧ Aside0 (Below w.heap.size w w'))
 case atStart => exact ⟨(0), (Zs), H', ⟨Nat.le_refl _⟩, ⟨Zb⟩⟩
 case round =>
  clear H'
  try clear c2
  try clear c2b0
  try clear c2b1
  try clear p2
  obtain ⟨x3_1, rfl, HA, HK1, HB⟩ := hrel
  cases gk with
  | zero => exact absurd HA.out (by simp [Qaq.l0])
  | succ k1 =>
   have H := HA.out
   clear HA
   simp only [Qaq.l0] at H
   by_cases c3 : x3_1 < (l0.length : Int)
   ·rw [if_pos c3] at H
    have c3b0 : decide (x3_1 < (l0.length : Int)) = T := decide_eq_true c3
    clear c3
    (try simp only [c3b0])
    have HC4 := Aside0.mk H
    clear H
    go_upto_region 6 with (fail)
    go_cut [28] (fun v28 wc => ∃ (kq : Nat) (x28_3 : Bool), v28 = .bool x28_3 ∧ Aside0 (Qaq.j1 kq l0 x3_1 x28_3 = some r) ∧ Aside0 (kq ≤ k1) ∧ Aside0 (Below w.heap.size w wc))
    case first =>
     have H := HC4.out
     clear HC4
     by_cases c5 : 0 ≤ x3_1
     ·rw [if_pos c5] at H
      have c5b0 : decide (0 ≤ x3_1) = T := decide_eq_true c5
      clear c5
      replace H := Option.bind_eq_some_iff.mp H
      obtain ⟨t393, A60, H⟩ := H
      replace H : (if t393 = T then ((Qaw.f k1 ((rd_T46 l0 x3_1).f1)).bind fun t395 => (Qaq.j1 k1 l0 x3_1 (!t395))) else (Qaq.j1 k1 l0 x3_1 T)) = some r := H
      have A6 := Aside0.mk A60
      clear A60
      by_cases c7 : t393 = T
      ·subst c7
       have H1 : ((Qaw.f k1 ((rd_T46 l0 x3_1).f1)).bind fun t395 => (Qaq.j1 k1 l0 x3_1 (!t395))) = some r := by rw [if_pos rfl] at H; exact H
       clear H
       have H := H1
       clear H1
       replace H := Option.bind_eq_some_iff.mp H
       obtain ⟨t395, A80, H⟩ := H
       replace H : (Qaq.j1 k1 l0 x3_1 (!t395)) = some r := H
       have A8 := Aside0.mk A80
       clear A80
       have H' := Aside0.mk H
       clear H
       have p392 : 0 ≤ (x3_1 : Int) := Ze
       have q392 : x3_1 < (l0.length : Int) := Ze
       obtain ⟨ad392, e392, hx392_0, hx392_1, hx392_2, hx392_3⟩ := at_T46 HR0.out x3_1 p392 q392
       cases e392
       replace hx392_0 := Zx HB.out hx392_0
       replace hx392_1 := Zx HB.out hx392_1
       replace hx392_2 := Zx HB.out hx392_2
       replace hx392_3 := Zx HB.out hx392_3
       replace p392 := eq_true p392
       replace q392 := eq_true q392
       go_wp2_with (first | ((with_reducible refine Qax (f := 98) rfl ?_); refine goesL_ (some 18) rfl rfl Try.func98 (by kernel_rfl) rfl #[.agg #[.string ((rd_T46 l0 x3_1).f0.f0), .string ((rd_T46 l0 x3_1).f0.f1)]] rfl (Zl) ?_; (with_reducible refine (Qbg.calls k1 ((rd_T46 l0 x3_1).f0.f0) ((rd_T46 l0 x3_1).f0.f1) T _ A6.out).mono ?_); rintro e w9 ⟨rfl, hb⟩; refine ⟨_, rfl, ?_⟩; replace HB := Aside0.mk (Qao (Zb) hb); (try clear hb); (try clear hb2); (try clear hk); (try clear hi); have p394 : 0 ≤ (x3_1 : Int) := Ze; have q394 : x3_1 < (l0.length : Int) := Ze; obtain ⟨ad394, e394, hx394_0, hx394_1, hx394_2, hx394_3⟩ := at_T46 HR0.out x3_1 p394 q394; obtain rfl : ad392 = ad394 := (by injection e394); replace hx394_0 := Zx HB.out hx394_0; replace hx394_1 := Zx HB.out hx394_1; replace hx394_2 := Zx HB.out hx394_2; replace hx394_3 := Zx HB.out hx394_3; replace p394 := eq_true p394; replace q394 := eq_true q394) | (go_at_call 99; (with_reducible refine (Qaw.calls k1 ((rd_T46 l0 x3_1).f1) t395 _ A8.out).mono ?_); rintro e w' ⟨rfl, ⟨nd, rfl⟩⟩))
       go_meet
       case rel => exact ⟨_, (!t395), (Zs), H', ⟨by have := HK1.out; first | omega | exact Nat.le_refl _⟩, ⟨Zb⟩⟩
      replace c7 := Bool.eq_false_iff.mpr c7
      subst c7
      have H1 : (Qaq.j1 k1 l0 x3_1 T) = some r := by rw [if_neg (show ¬ (F = T) by decide)] at H; exact H
      clear H
      have H := H1
      clear H1
      have H' := Aside0.mk H
      clear H
      have p392 : 0 ≤ (x3_1 : Int) := Ze
      have q392 : x3_1 < (l0.length : Int) := Ze
      obtain ⟨ad392, e392, hx392_0, hx392_1, hx392_2, hx392_3⟩ := at_T46 HR0.out x3_1 p392 q392
      cases e392
      replace hx392_0 := Zx HB.out hx392_0
      replace hx392_1 := Zx HB.out hx392_1
      replace hx392_2 := Zx HB.out hx392_2
      replace hx392_3 := Zx HB.out hx392_3
      replace p392 := eq_true p392
      replace q392 := eq_true q392
      go_wp2_with (first | ((with_reducible refine Qax (f := 98) rfl ?_); refine goesL_ (some 18) rfl rfl Try.func98 (by kernel_rfl) rfl #[.agg #[.string ((rd_T46 l0 x3_1).f0.f0), .string ((rd_T46 l0 x3_1).f0.f1)]] rfl (Zl) ?_; (with_reducible refine (Qbg.calls k1 ((rd_T46 l0 x3_1).f0.f0) ((rd_T46 l0 x3_1).f0.f1) F _ A6.out).mono ?_); rintro e w10 ⟨rfl, hb⟩; refine ⟨_, rfl, ?_⟩; replace HB := Aside0.mk (Qao (Zb) hb); (try clear hb); (try clear hb2); (try clear hk); (try clear hi)))
      go_meet
      case rel => exact ⟨_, (T), (Zs), H', ⟨by have := HK1.out; first | omega | exact Nat.le_refl _⟩, ⟨Zb⟩⟩
     rw [if_neg c5] at H
     exact absurd H (by simp)
    case rest =>
     clear HC4
     try clear c2
     try clear c2b0
     try clear c2b1
     try clear p2
     try clear c3
     try clear c3b0
     try clear p3
     try clear q3
     try clear hx3
     try clear c5
     try clear c5b0
     try clear c6
     try clear c7
     try clear c9
     try clear hx392_0
     try clear hx392_1
     try clear hx392_2
     try clear hx392_3
     try clear hx394_0
     try clear hx394_1
     try clear hx394_2
     try clear hx394_3
     try clear p2
     try clear p392
     try clear p394
     try clear q392
     try clear q394
     obtain ⟨kq, x28_3, rfl, HA, HJ3, HB⟩ := hcut
     cases kq with
     | zero => exact absurd HA.out (by simp [Qaq.j1])
     | succ kj3 =>
      have H := HA.out
      clear HA
      simp only [Qaq.j1] at H
      by_cases c11 : x28_3 = T
      ·subst c11
       have H1 : (some 10) = some r := by rw [if_pos rfl] at H; exact H
       clear H
       have H := H1
       clear H1
       obtain rfl := Option.some.inj H
       go_wp2
       go_ret
       exact ⟨Zq, Zb⟩
      replace c11 := Bool.eq_false_iff.mpr c11
      subst c11
      have H1 : (if x3_1 > 0 then (if 0 ≤ (wrap64 (x3_1 - 1)) then (if (wrap64 (x3_1 - 1)) < (l0.length : Int) then (if 0 ≤ x3_1 then (if x3_1 < (l0.length : Int) then ((QbE.f ((rd_T46 l0 (wrap64 (x3_1 - 1))).f0.f0) ((rd_T46 l0 (wrap64 (x3_1 - 1))).f0.f1) ((rd_T46 l0 (wrap64 (x3_1 - 1))).f1) ((rd_T46 l0 (wrap64 (x3_1 - 1))).f2) ((rd_T46 l0 x3_1).f0.f0) ((rd_T46 l0 x3_1).f0.f1) ((rd_T46 l0 x3_1).f1) ((rd_T46 l0 x3_1).f2)).bind fun t398 => (Qaq.j2 kj3 l0 x3_1 (!t398))) else (none)) else (none)) else (none)) else (none)) else (Qaq.j2 kj3 l0 x3_1 F)) = some r := by rw [if_neg (show ¬ (F = T) by decide)] at H; exact H
      clear H
      have H := H1
      clear H1
      have HC12 := Aside0.mk H
      clear H
      go_upto_region 8 with (fail)
      go_cut [43] (fun v43 wc => ∃ (kq : Nat) (x43_11 : Bool), v43 = .bool x43_11 ∧ Aside0 (Qaq.j2 kq l0 x3_1 x43_11 = some r) ∧ Aside0 (kq ≤ kj3) ∧ Aside0 (Below w.heap.size w wc))
      case first =>
       have H := HC12.out
       clear HC12
       by_cases c13 : x3_1 > 0
       ·rw [if_pos c13] at H
        have c13b0 : decide (0 < x3_1) = T := decide_eq_true c13
        clear c13
        (first | rw [c13b0] | (simp only [i64_w, i32_w]; rw [c13b0]) | skip)
        obtain ⟨ji14, hji14⟩ : ∃ j_ : Int, (wrap64 (x3_1 - 1)) = j_ := ⟨_, rfl⟩
        replace H : (if 0 ≤ (ji14) then (if (ji14) < (l0.length : Int) then (if 0 ≤ x3_1 then (if x3_1 < (l0.length : Int) then ((QbE.f ((rd_T46 l0 (ji14)).f0.f0) ((rd_T46 l0 (ji14)).f0.f1) ((rd_T46 l0 (ji14)).f1) ((rd_T46 l0 (ji14)).f2) ((rd_T46 l0 x3_1).f0.f0) ((rd_T46 l0 x3_1).f0.f1) ((rd_T46 l0 x3_1).f1) ((rd_T46 l0 x3_1).f2)).bind fun t398 => (Qaq.j2 kj3 l0 x3_1 (!t398))) else (none)) else (none)) else (none)) else (none)) = some r := by first | (rw [hji14] at H; exact H) | (simp only [hji14] at H ⊢; exact H)
        have hji14w : (IntKind.i64.wrap (x3_1 - 1)) = ji14 := (i64_w _).trans hji14
        by_cases c15 : 0 ≤ (ji14)
        ·rw [if_pos c15] at H
         have c15b0 : decide (0 ≤ (ji14)) = T := decide_eq_true c15
         clear c15
         by_cases c16 : (ji14) < (l0.length : Int)
         ·rw [if_pos c16] at H
          have c16b0 : decide ((ji14) < (l0.length : Int)) = T := decide_eq_true c16
          clear c16
          by_cases c17 : 0 ≤ x3_1
          ·rw [if_pos c17] at H
           have c17b0 : decide (0 ≤ x3_1) = T := decide_eq_true c17
           clear c17
           by_cases c18 : x3_1 < (l0.length : Int)
           ·rw [if_pos c18] at H
            have c18b0 : decide (x3_1 < (l0.length : Int)) = T := decide_eq_true c18
            clear c18
            replace H := Option.bind_eq_some_iff.mp H
            obtain ⟨t398, A190, H⟩ := H
            replace H : (Qaq.j2 kj3 l0 x3_1 (!t398)) = some r := H
            have A19 := Aside0.mk A190
            clear A190
            have H' := Aside0.mk H
            clear H
            try go_wp2
            replace HB := Aside0.mk (Qah HB.out)
            have p396 : 0 ≤ ((ji14) : Int) := Ze
            have q396 : (ji14) < (l0.length : Int) := Ze
            obtain ⟨ad396, e396, hx396_0, hx396_1, hx396_2, hx396_3⟩ := at_T46 HR0.out (ji14) p396 q396
            have hw396_3 := hx396_3
            have hw396_2 := hx396_2
            have hw396_1 := hx396_1
            have hw396_0 := hx396_0
            cases e396
            replace hx396_0 := Zx HB.out hx396_0
            replace hx396_1 := Zx HB.out hx396_1
            replace hx396_2 := Zx HB.out hx396_2
            replace hx396_3 := Zx HB.out hx396_3
            replace p396 := eq_true p396
            replace q396 := eq_true q396
            have p397 : 0 ≤ (x3_1 : Int) := Ze
            have q397 : x3_1 < (l0.length : Int) := Ze
            obtain ⟨ad397, e397, hx397_0, hx397_1, hx397_2, hx397_3⟩ := at_T46 HR0.out x3_1 p397 q397
            have hw397_3 := hx397_3
            have hw397_2 := hx397_2
            have hw397_1 := hx397_1
            have hw397_0 := hx397_0
            obtain rfl : ad396 = ad397 := (by injection e397)
            replace hx397_0 := Zx HB.out hx397_0
            replace hx397_1 := Zx HB.out hx397_1
            replace hx397_2 := Zx HB.out hx397_2
            replace hx397_3 := Zx HB.out hx397_3
            replace p397 := eq_true p397
            replace q397 := eq_true q397
            refine start_ (n := 15) (S := fun w' => w'.cell? (ad396.add (((ji14)).toNat * 4)) = some (.string ((rd_T46 l0 (ji14)).f0.f0)) ∧ w'.cell? ⟨(ad396.add (((ji14)).toNat * 4)).block, (ad396.add (((ji14)).toNat * 4)).off + 1, none⟩ = some (.string ((rd_T46 l0 (ji14)).f0.f1)) ∧ w'.cell? ⟨(ad396.add (((ji14)).toNat * 4)).block, (ad396.add (((ji14)).toNat * 4)).off + 2, none⟩ = some (.string ((rd_T46 l0 (ji14)).f1)) ∧ w'.cell? ⟨(ad396.add (((ji14)).toNat * 4)).block, (ad396.add (((ji14)).toNat * 4)).off + 3, none⟩ = some (.int .i64 ((rd_T46 l0 (ji14)).f2)) ∧ w'.cell? (ad396.add ((x3_1).toNat * 4)) = some (.string ((rd_T46 l0 x3_1).f0.f0)) ∧ w'.cell? ⟨(ad396.add ((x3_1).toNat * 4)).block, (ad396.add ((x3_1).toNat * 4)).off + 1, none⟩ = some (.string ((rd_T46 l0 x3_1).f0.f1)) ∧ w'.cell? ⟨(ad396.add ((x3_1).toNat * 4)).block, (ad396.add ((x3_1).toNat * 4)).off + 2, none⟩ = some (.string ((rd_T46 l0 x3_1).f1)) ∧ w'.cell? ⟨(ad396.add ((x3_1).toNat * 4)).block, (ad396.add ((x3_1).toNat * 4)).off + 3, none⟩ = some (.int .i64 ((rd_T46 l0 x3_1).f2))) (ds := []) #[F, F, F, F, F, F, F, F, F, F, F, F, F, F, F] (by kernel_rfl) rfl rfl ⟨((HB.out.cell (World.block_lt_of_cell? w _ hw396_0)).trans hw396_0), ((HB.out.cell (World.block_lt_of_cell? w _ hw396_1)).trans hw396_1), ((HB.out.cell (World.block_lt_of_cell? w _ hw396_2)).trans hw396_2), ((HB.out.cell (World.block_lt_of_cell? w _ hw396_3)).trans hw396_3), ((HB.out.cell (World.block_lt_of_cell? w _ hw397_0)).trans hw397_0), ((HB.out.cell (World.block_lt_of_cell? w _ hw397_1)).trans hw397_1), ((HB.out.cell (World.block_lt_of_cell? w _ hw397_2)).trans hw397_2), ((HB.out.cell (World.block_lt_of_cell? w _ hw397_3)).trans hw397_3)⟩ (fun hHeld => ?_); refine QbV Qaq.tab8 Qaq.bits8 (fun HT_ HW_ => ?_)
            generalize wc.drew = w20 at HB hx396_0 hx396_1 hx396_2 hx396_3 hx397_0 hx397_1 hx397_2 hx397_3 hHeld ⊢
            refine pure_ (i := 0) (N := some 29) (v := ?_) (a' := ?_) #[T, F, F, F, F, F, F, F, F, F, F, F, F, F, F] rfl rfl (any_of HT_.out (by kernel_rfl)) (fun _ _ _ h => h) (Or.inl ⟨by rfl, ?_⟩) ?_ ?_
            rotate_left
            ·intro w'
             go_simp
             with_reducible rfl
            rotate_left
            ·simp only [Act.put, Zj, Zk, Zm, i64_w, i32_w]
             rfl
            refine pure_ (i := 1) (N := some 30) (v := ?_) (a' := ?_) #[T, T, F, F, F, F, F, F, F, F, F, F, F, F, F] rfl rfl (any_of HT_.out (by kernel_rfl)) (fun _ _ _ h => h) (Or.inl ⟨by rfl, ?_⟩) ?_ ?_
            rotate_left
            ·intro w'
             go_simp
             with_reducible rfl
            rotate_left
            ·simp only [Act.put, Zj, Zk, Zm, i64_w, i32_w]
             rfl
            refine pure_ (i := 2) (N := some 31) (v := ?_) (a' := ?_) #[T, T, T, F, F, F, F, F, F, F, F, F, F, F, F] rfl rfl (any_of HT_.out (by kernel_rfl)) (fun _ _ _ h => h) (Or.inl ⟨by rfl, ?_⟩) ?_ ?_
            rotate_left
            ·intro w'
             go_simp
             with_reducible rfl
            rotate_left
            ·simp only [Act.put, Zj, Zk, Zm, i64_w, i32_w]
             rfl
            refine pure_ (i := 3) (N := some 32) (v := ?_) (a' := ?_) #[T, T, T, T, F, F, F, F, F, F, F, F, F, F, F] rfl rfl (any_of HT_.out (by kernel_rfl)) (fun _ _ _ h => h) (Or.inl ⟨by rfl, ?_⟩) ?_ ?_
            rotate_left
            ·intro w'
             go_simp
             with_reducible rfl
            rotate_left
            ·simp only [Act.put, Zj, Zk, Zm, i64_w, i32_w]
             rfl
            refine pure_ (i := 4) (N := some 33) (v := ?_) (a' := ?_) #[T, T, T, T, T, F, F, F, F, F, F, F, F, F, F] rfl rfl (any_of HT_.out (by kernel_rfl)) (fun _ _ _ h => h) (Or.inl ⟨by rfl, ?_⟩) ?_ ?_
            rotate_left
            ·intro w'
             go_simp
             with_reducible rfl
            rotate_left
            ·simp only [Act.put, Zj, Zk, Zm, i64_w, i32_w]
             rfl
            refine pure_ (i := 5) (N := some 34) (v := ?_) (a' := ?_) #[T, T, T, T, T, T, F, F, F, F, F, F, F, F, F] rfl rfl (any_of HT_.out (by kernel_rfl)) (fun _ _ _ h => h) (Or.inl ⟨by rfl, ?_⟩) ?_ ?_
            rotate_left
            ·intro w'
             go_simp
             with_reducible rfl
            rotate_left
            ·simp only [Act.put, Zj, Zk, Zm, i64_w, i32_w]
             rfl
            refine pure_ (i := 6) (N := some 35) (v := ?_) (a' := ?_) #[T, T, T, T, T, T, T, F, F, F, F, F, F, F, F] rfl rfl (any_of HT_.out (by kernel_rfl)) (fun _ _ _ h => h) (Or.inl ⟨by rfl, ?_⟩) ?_ ?_
            rotate_left
            ·intro w'
             go_simp
             with_reducible rfl
            rotate_left
            ·simp only [Act.put, Zj, Zk, Zm, i64_w, i32_w]
             rfl
            refine pure_ (i := 8) (N := some 37) (v := ?_) (a' := ?_) #[T, T, T, T, T, T, T, F, T, F, F, F, F, F, F] rfl rfl (any_of HT_.out (by kernel_rfl)) (fun _ _ _ h => h) (Or.inl ⟨by rfl, ?_⟩) ?_ ?_
            rotate_left
            ·intro w'
             go_simp
             with_reducible rfl
            rotate_left
            ·simp only [Act.put, Zj, Zk, Zm, i64_w, i32_w]
             rfl
            refine pure_ (i := 9) (N := some 38) (v := ?_) (a' := ?_) #[T, T, T, T, T, T, T, F, T, T, F, F, F, F, F] rfl rfl (any_of HT_.out (by kernel_rfl)) (fun _ _ _ h => h) (Or.inl ⟨by rfl, ?_⟩) ?_ ?_
            rotate_left
            ·intro w'
             go_simp
             with_reducible rfl
            rotate_left
            ·simp only [Act.put, Zj, Zk, Zm, i64_w, i32_w]
             rfl
            refine pure_ (i := 10) (N := some 39) (v := ?_) (a' := ?_) #[T, T, T, T, T, T, T, F, T, T, T, F, F, F, F] rfl rfl (any_of HT_.out (by kernel_rfl)) (fun _ _ _ h => h) (Or.inl ⟨by rfl, ?_⟩) ?_ ?_
            rotate_left
            ·intro w'
             go_simp
             with_reducible rfl
            rotate_left
            ·simp only [Act.put, Zj, Zk, Zm, i64_w, i32_w]
             rfl
            refine take_ (i := 7) (N := some 36) (v := ?_) (a' := ?_) #[T, T, T, T, T, T, T, T, T, T, T, F, F, F, F] rfl rfl (QbI HT_.out HW_.out (by kernel_rfl)) (fun _ _ _ h => h) (Or.inl ⟨by rfl, ?_⟩) hHeld ?_ ?_
            rotate_left
            ·rintro w' ⟨s0, s1, s2, s3, s4, s5, s6, s7⟩
             go_simp
             with_reducible rfl
            rotate_left
            ·simp only [Act.put, Zj, Zk, Zm, i64_w, i32_w]
             rfl
            refine take_ (i := 11) (N := some 40) (v := ?_) (a' := ?_) #[T, T, T, T, T, T, T, T, T, T, T, T, F, F, F] rfl rfl (QbI HT_.out HW_.out (by kernel_rfl)) (fun _ _ _ h => h) (Or.inl ⟨by rfl, ?_⟩) hHeld ?_ ?_
            rotate_left
            ·rintro w' ⟨s0, s1, s2, s3, s4, s5, s6, s7⟩
             go_simp
             with_reducible rfl
            rotate_left
            ·simp only [Act.put, Zj, Zk, Zm, i64_w, i32_w]
             rfl
            refine one_ (i := 12) (N := some 41) #[T, T, T, T, T, T, T, T, T, T, T, T, T, F, F] rfl rfl (one_of HT_.out (by kernel_rfl)) (by decide) (fun K hK => ?_)
            refine goes_ Try.func100 (by kernel_rfl) rfl #[.agg #[.string ((rd_T46 l0 (ji14)).f0.f0), .string ((rd_T46 l0 (ji14)).f0.f1), .string ((rd_T46 l0 (ji14)).f1), .int .i64 ((rd_T46 l0 (ji14)).f2)], .agg #[.string ((rd_T46 l0 x3_1).f0.f0), .string ((rd_T46 l0 x3_1).f0.f1), .string ((rd_T46 l0 x3_1).f1), .int .i64 ((rd_T46 l0 x3_1).f2)]] (by rfl) rfl rfl (by (try simp only [List.map_toArray, List.map_cons, List.map_nil]); first | done | (simp only [hji14]; rfl) | rfl | (simp only [List.length_drop, List.length_take]; rfl)) ?_
            with_reducible refine (QbE.calls ((rd_T46 l0 (ji14)).f0.f0) ((rd_T46 l0 (ji14)).f0.f1) ((rd_T46 l0 (ji14)).f1) ((rd_T46 l0 (ji14)).f2) ((rd_T46 l0 x3_1).f0.f0) ((rd_T46 l0 x3_1).f0.f1) ((rd_T46 l0 x3_1).f1) ((rd_T46 l0 x3_1).f2) t398 _ A19.out).mono ?_
            rintro e w21 ⟨rfl, hb⟩
            refine ⟨_, rfl, ?_⟩
            replace HB := Aside0.mk (Qao (Zb) hb)
            (try clear hb)
            (try clear hb2)
            (try clear hk)
            (try clear hi)
            refine hK.out _ _ ⟨((HB.out.cell (World.block_lt_of_cell? w _ hw396_0)).trans hw396_0), ((HB.out.cell (World.block_lt_of_cell? w _ hw396_1)).trans hw396_1), ((HB.out.cell (World.block_lt_of_cell? w _ hw396_2)).trans hw396_2), ((HB.out.cell (World.block_lt_of_cell? w _ hw396_3)).trans hw396_3), ((HB.out.cell (World.block_lt_of_cell? w _ hw397_0)).trans hw397_0), ((HB.out.cell (World.block_lt_of_cell? w _ hw397_1)).trans hw397_1), ((HB.out.cell (World.block_lt_of_cell? w _ hw397_2)).trans hw397_2), ((HB.out.cell (World.block_lt_of_cell? w _ hw397_3)).trans hw397_3)⟩ (fun hHeld => ?_)
            clear hK K
            refine norm_ (a' := ?_) ?_ ?_
            rotate_left
            ·show Act.put _ (some 41) _ = _
             simp only [Act.put, Zj, Zk, Zm, i64_w, i32_w]
             rfl
            refine pure_ (i := 13) (N := some 42) (v := ?_) (a' := ?_) #[T, T, T, T, T, T, T, T, T, T, T, T, T, T, F] rfl rfl (any_of HT_.out (by kernel_rfl)) (fun _ _ _ h => h) (Or.inl ⟨by rfl, ?_⟩) ?_ ?_
            rotate_left
            ·intro w'
             go_simp
             with_reducible rfl
            rotate_left
            ·simp only [Act.put, Zj, Zk, Zm, i64_w, i32_w]
             rfl
            refine pure_ (i := 14) (N := some 43) (v := ?_) (a' := ?_) #[T, T, T, T, T, T, T, T, T, T, T, T, T, T, T] rfl rfl (any_of HT_.out (by kernel_rfl)) (fun _ _ _ h => h) (Or.inl ⟨by rfl, ?_⟩) ?_ ?_
            rotate_left
            ·intro w'
             go_simp
             with_reducible rfl
            rotate_left
            ·simp only [Act.put, Zj, Zk, Zm, i64_w, i32_w]
             rfl
            refine done_ (Qb4 HT_.out (by kernel_rfl)) ?_
            try go_wp2
            go_meet
            case rel => exact ⟨_, (!t398), (Zs), H', ⟨by have := HK1.out; have := HJ3.out; first | omega | exact Nat.le_refl _⟩, ⟨Zb⟩⟩
           rw [if_neg c18] at H
           exact absurd H (by simp)
          rw [if_neg c17] at H
          exact absurd H (by simp)
         rw [if_neg c16] at H
         exact absurd H (by simp)
        rw [if_neg c15] at H
        exact absurd H (by simp)
       rw [if_neg c13] at H
       have c13b0 : decide (0 < x3_1) = F := decide_eq_false c13
       clear c13
       (first | rw [c13b0] | (simp only [i64_w, i32_w]; rw [c13b0]) | skip)
       have H' := Aside0.mk H
       clear H
       try go_wp2
       replace HB := Aside0.mk (Qah HB.out)
       refine start_ (n := 15) (S := fun w' => True) (ds := []) #[F, F, F, F, F, F, F, F, F, F, F, F, F, F, F] (by kernel_rfl) rfl rfl trivial (fun hHeld => ?_); refine QbV Qaq.tab8 Qaq.bits8 (fun HT_ HW_ => ?_)
       generalize wc.drew = w22 at HB hHeld ⊢
       refine pure_ (i := 0) (N := some 29) (v := ?_) (a' := ?_) #[T, F, F, F, F, F, F, F, F, F, F, F, F, F, F] rfl rfl (any_of HT_.out (by kernel_rfl)) (fun _ _ _ h => h) (Or.inl ⟨by rfl, ?_⟩) ?_ ?_
       rotate_left
       ·intro w'
        go_simp
        with_reducible rfl
       rotate_left
       ·simp only [Act.put, Zj, Zk, Zm, i64_w, i32_w]
        rfl
       refine pure_ (i := 1) (N := some 30) (v := ?_) (a' := ?_) #[T, T, F, F, F, F, F, F, F, F, F, F, F, F, F] rfl rfl (any_of HT_.out (by kernel_rfl)) (fun _ _ _ h => h) (Or.inl ⟨by rfl, ?_⟩) ?_ ?_
       rotate_left
       ·intro w'
        go_simp
        with_reducible rfl
       rotate_left
       ·simp only [Act.put, Zj, Zk, Zm, i64_w, i32_w]
        rfl
       refine pure_ (i := 2) (N := some 31) (v := ?_) (a' := ?_) #[T, T, T, F, F, F, F, F, F, F, F, F, F, F, F] rfl rfl (any_of HT_.out (by kernel_rfl)) (fun _ _ _ h => h) (Or.inl ⟨by rfl, ?_⟩) ?_ ?_
       rotate_left
       ·intro w'
        go_simp
        with_reducible rfl
       rotate_left
       ·simp only [Act.put, Zj, Zk, Zm, i64_w, i32_w]
        rfl
       refine pure_ (i := 3) (N := some 32) (v := undef) (a' := ?_) #[T, T, T, T, F, F, F, F, F, F, F, F, F, F, F] rfl rfl (any_of HT_.out (by kernel_rfl)) (fun _ _ _ h => h) (Or.inr ⟨by rfl, rfl⟩) ?_ ?_
       rotate_left
       ·simp only [Act.put, Zj, Zk, Zm, i64_w, i32_w]
        rfl
       refine pure_ (i := 4) (N := some 33) (v := undef) (a' := ?_) #[T, T, T, T, T, F, F, F, F, F, F, F, F, F, F] rfl rfl (any_of HT_.out (by kernel_rfl)) (fun _ _ _ h => h) (Or.inr ⟨by rfl, rfl⟩) ?_ ?_
       rotate_left
       ·simp only [Act.put, Zj, Zk, Zm, i64_w, i32_w]
        rfl
       refine pure_ (i := 5) (N := some 34) (v := undef) (a' := ?_) #[T, T, T, T, T, T, F, F, F, F, F, F, F, F, F] rfl rfl (any_of HT_.out (by kernel_rfl)) (fun _ _ _ h => h) (Or.inr ⟨by rfl, rfl⟩) ?_ ?_
       rotate_left
       ·simp only [Act.put, Zj, Zk, Zm, i64_w, i32_w]
        rfl
       refine pure_ (i := 6) (N := some 35) (v := undef) (a' := ?_) #[T, T, T, T, T, T, T, F, F, F, F, F, F, F, F] rfl rfl (any_of HT_.out (by kernel_rfl)) (fun _ _ _ h => h) (Or.inr ⟨by rfl, rfl⟩) ?_ ?_
       rotate_left
       ·simp only [Act.put, Zj, Zk, Zm, i64_w, i32_w]
        rfl
       refine pure_ (i := 7) (N := some 36) (v := undef) (a' := ?_) #[T, T, T, T, T, T, T, T, F, F, F, F, F, F, F] rfl rfl (any_of HT_.out (by kernel_rfl)) (fun _ _ _ h => h) (Or.inr ⟨by rfl, rfl⟩) ?_ ?_
       rotate_left
       ·simp only [Act.put, Zj, Zk, Zm, i64_w, i32_w]
        rfl
       refine pure_ (i := 8) (N := some 37) (v := undef) (a' := ?_) #[T, T, T, T, T, T, T, T, T, F, F, F, F, F, F] rfl rfl (any_of HT_.out (by kernel_rfl)) (fun _ _ _ h => h) (Or.inr ⟨by rfl, rfl⟩) ?_ ?_
       rotate_left
       ·simp only [Act.put, Zj, Zk, Zm, i64_w, i32_w]
        rfl
       refine pure_ (i := 9) (N := some 38) (v := undef) (a' := ?_) #[T, T, T, T, T, T, T, T, T, T, F, F, F, F, F] rfl rfl (any_of HT_.out (by kernel_rfl)) (fun _ _ _ h => h) (Or.inr ⟨by rfl, rfl⟩) ?_ ?_
       rotate_left
       ·simp only [Act.put, Zj, Zk, Zm, i64_w, i32_w]
        rfl
       refine pure_ (i := 10) (N := some 39) (v := undef) (a' := ?_) #[T, T, T, T, T, T, T, T, T, T, T, F, F, F, F] rfl rfl (any_of HT_.out (by kernel_rfl)) (fun _ _ _ h => h) (Or.inr ⟨by rfl, rfl⟩) ?_ ?_
       rotate_left
       ·simp only [Act.put, Zj, Zk, Zm, i64_w, i32_w]
        rfl
       refine pure_ (i := 11) (N := some 40) (v := undef) (a' := ?_) #[T, T, T, T, T, T, T, T, T, T, T, T, F, F, F] rfl rfl (any_of HT_.out (by kernel_rfl)) (fun _ _ _ h => h) (Or.inr ⟨by rfl, rfl⟩) ?_ ?_
       rotate_left
       ·simp only [Act.put, Zj, Zk, Zm, i64_w, i32_w]
        rfl
       refine pure_ (i := 12) (N := some 41) (v := undef) (a' := ?_) #[T, T, T, T, T, T, T, T, T, T, T, T, T, F, F] rfl rfl (any_of HT_.out (by kernel_rfl)) (fun _ _ _ h => h) (Or.inr ⟨by rfl, rfl⟩) ?_ ?_
       rotate_left
       ·simp only [Act.put, Zj, Zk, Zm, i64_w, i32_w]
        rfl
       refine pure_ (i := 13) (N := some 42) (v := undef) (a' := ?_) #[T, T, T, T, T, T, T, T, T, T, T, T, T, T, F] rfl rfl (any_of HT_.out (by kernel_rfl)) (fun _ _ _ h => h) (Or.inr ⟨by rfl, rfl⟩) ?_ ?_
       rotate_left
       ·simp only [Act.put, Zj, Zk, Zm, i64_w, i32_w]
        rfl
       refine pure_ (i := 14) (N := some 43) (v := ?_) (a' := ?_) #[T, T, T, T, T, T, T, T, T, T, T, T, T, T, T] rfl rfl (any_of HT_.out (by kernel_rfl)) (fun _ _ _ h => h) (Or.inl ⟨by rfl, ?_⟩) ?_ ?_
       rotate_left
       ·intro w'
        go_simp
        with_reducible rfl
       rotate_left
       ·simp only [Act.put, Zj, Zk, Zm, i64_w, i32_w]
        rfl
       refine done_ (Qb4 HT_.out (by kernel_rfl)) ?_
       try go_wp2
       go_meet
       case rel => exact ⟨_, (F), (Zs), H', ⟨by have := HK1.out; have := HJ3.out; first | omega | exact Nat.le_refl _⟩, ⟨Zb⟩⟩
      case rest =>
       clear HC12
       try clear c1
       try clear c2
       try clear c2b0
       try clear c2b1
       try clear p2
       try clear c3
       try clear c3b0
       try clear p3
       try clear q3
       try clear hx3
       try clear c5
       try clear c5b0
       try clear c6
       try clear p6
       try clear c7
       try clear c9
       try clear c10
       try clear c11
       try clear c13
       try clear c13b0
       try clear c15
       try clear c15b0
       try clear c16
       try clear c16b0
       try clear c17
       try clear c17b0
       try clear c18
       try clear c18b0
       try clear hx392_0
       try clear hx392_1
       try clear hx392_2
       try clear hx392_3
       try clear hx394_0
       try clear hx394_1
       try clear hx394_2
       try clear hx394_3
       try clear hx396_0
       try clear hx396_1
       try clear hx396_2
       try clear hx396_3
       try clear hx397_0
       try clear hx397_1
       try clear hx397_2
       try clear hx397_3
       try clear p2
       try clear p3
       try clear p392
       try clear p394
       try clear p396
       try clear p397
       try clear q3
       try clear q392
       try clear q394
       try clear q396
       try clear q397
       obtain ⟨kq, x43_11, rfl, HA, HJ11, HB⟩ := hcut
       cases kq with
       | zero => exact absurd HA.out (by simp [Qaq.j2])
       | succ kj11 =>
        have H := HA.out
        clear HA
        simp only [Qaq.j2] at H
        by_cases c23 : x43_11 = T
        ·subst c23
         have H1 : (some 12) = some r := by rw [if_pos rfl] at H; exact H
         clear H
         have H := H1
         clear H1
         obtain rfl := Option.some.inj H
         go_wp2
         go_ret
         exact ⟨Zq, Zb⟩
        replace c23 := Bool.eq_false_iff.mpr c23
        subst c23
        have H1 : (if 0 ≤ x3_1 then (if x3_1 < (l0.length : Int) then ((QbP.f ((rd_T46 l0 x3_1).f2)).bind fun t400 => (if t400 = T then (Qaq.l0 kj11 l0 (wrap64 (x3_1 + 1))) else (some 18))) else (none)) else (none)) = some r := by rw [if_neg (show ¬ (F = T) by decide)] at H; exact H
        clear H
        have H := H1
        clear H1
        by_cases c24 : 0 ≤ x3_1
        ·rw [if_pos c24] at H
         have c24b0 : decide (0 ≤ x3_1) = T := decide_eq_true c24
         clear c24
         (try simp only [c24b0])
         by_cases c25 : x3_1 < (l0.length : Int)
         ·rw [if_pos c25] at H
          have c25b0 : decide (x3_1 < (l0.length : Int)) = T := decide_eq_true c25
          clear c25
          replace H := Option.bind_eq_some_iff.mp H
          obtain ⟨t400, A260, H⟩ := H
          replace H : (if t400 = T then (Qaq.l0 kj11 l0 (wrap64 (x3_1 + 1))) else (some 18)) = some r := H
          have A26 := Aside0.mk A260
          clear A260
          have p399 : 0 ≤ (x3_1 : Int) := Ze
          have q399 : x3_1 < (l0.length : Int) := Ze
          obtain ⟨ad399, e399, hx399_0, hx399_1, hx399_2, hx399_3⟩ := at_T46 HR0.out x3_1 p399 q399
          cases e399
          replace hx399_0 := Zx HB.out hx399_0
          replace hx399_1 := Zx HB.out hx399_1
          replace hx399_2 := Zx HB.out hx399_2
          replace hx399_3 := Zx HB.out hx399_3
          replace p399 := eq_true p399
          replace q399 := eq_true q399
          go_upto_if 50 with (first | ((with_reducible refine Qax (f := 101) rfl ?_); refine goesL_ (some 49) rfl rfl Try.func101 (by kernel_rfl) rfl #[.int .i64 ((rd_T46 l0 x3_1).f2)] rfl (Zl) ?_; (with_reducible refine (QbP.calls ((rd_T46 l0 x3_1).f2) t400 _ A26.out).mono ?_); rintro e w' ⟨rfl, ⟨nd, rfl⟩⟩; refine ⟨_, rfl, ?_⟩))
          (try simp only [Act.put, Zj, Zk, Zm])
          by_cases c27 : t400 = T
          ·subst c27
           have H1 : (Qaq.l0 kj11 l0 (wrap64 (x3_1 + 1))) = some r := by rw [if_pos rfl] at H; exact H
           clear H
           have H := H1
           clear H1
           have H' := Aside0.mk H
           clear H
           go_wp2
           go_roundg kj11
           case measure => have := HK1.out; have := HJ3.out; have := HJ11.out; omega
           case rel => exact ⟨(wrap64 (x3_1 + 1)), (Zs), H', ⟨by have := HK1.out; have := HJ3.out; have := HJ11.out; omega⟩, ⟨Zb⟩⟩
          replace c27 := Bool.eq_false_iff.mpr c27
          subst c27
          have H1 : (some 18) = some r := by rw [if_neg (show ¬ (F = T) by decide)] at H; exact H
          clear H
          have H := H1
          clear H1
          obtain rfl := Option.some.inj H
          go_wp2
          go_ret
          exact ⟨Zq, Zb⟩
         rw [if_neg c25] at H
         exact absurd H (by simp)
        rw [if_neg c24] at H
        exact absurd H (by simp)
   rw [if_neg c3] at H
   have c3b0 : decide (x3_1 < (l0.length : Int)) = F := decide_eq_false c3
   clear c3
   (try simp only [c3b0])
   obtain rfl := Option.some.inj H
   go_wp2
   go_ret
   exact ⟨Zq, Zb⟩
def QaG.l0 : Nat → List (S84) → Int → Option (Int)
 | 0, _, _ => none
 | k + 1, x0, x3 => if x3 < (x0.length : Int) then (if 0 ≤ x3 then ((Qbb.f k ((rd_T84 x0 x3).f0) ((rd_T84 x0 x3).f1) ((rd_T84 x0 x3).f2) ((rd_T84 x0 x3).f3) ((rd_T84 x0 x3).f4) ((rd_T84 x0 x3).f5)).bind fun t402 => (if t402 = 0 then (if x3 > 0 then (if 0 ≤ (wrap64 (x3 - 1)) then (if (wrap64 (x3 - 1)) < (x0.length : Int) then (if (Op.bytesLess (((rd_T84 x0 x3).f0).toList) (((rd_T84 x0 (wrap64 (x3 - 1))).f0).toList)) = T then (some 12) else (if (((rd_T84 x0 x3).f0).toList) = (((rd_T84 x0 (wrap64 (x3 - 1))).f0).toList) then (some 12) else (QaG.l0 k x0 (wrap64 (x3 + 1))))) else (none)) else (none)) else (QaG.l0 k x0 (wrap64 (x3 + 1)))) else (some t402))) else (none)) else (some 0)
def QaG.f (k : Nat) (l0 : List (S84)) : Option (Int) := if (l0.length : Int) > 1024 then (some 8) else (QaG.l0 k l0 0)
theorem QaG.mono_l : ∀ k, (∀ y0 y1, LeO (QaG.l0 k y0 y1) (QaG.l0 (k + 1) y0 y1))
 | 0 => fun _ _ r h => by simp [QaG.l0] at h
 | k + 1 => by
  have ih0 := QaG.mono_l k
  intro y0 y1
  unfold QaG.l0
  exact ZM2 ih0 Qbb.mono
theorem QaG.mono : ∀ a0 k, LeO (QaG.f k a0) (QaG.f (k + 1) a0) := by
 intro a0 k
 have ih0 := QaG.mono_l k
 unfold QaG.f
 exact ZM2 ih0 Qbb.mono
theorem QaG.calls (k : Nat) (A0 : Option Addr) (c0 : Nat) (l0 : List (S84)) (r : Int) (w : World) (hr0 : Kd.C k84 w A0 l0.length l0) (hc0 : l0.length ≤ c0) (h : QaG.f k l0 = some r) :
  Calls Try.prog 67 #[.slice A0 l0.length c0] w fun e w' => e = .returned (.int .i64 r) ∧ Below w.heap.size w w' := by
 have hu84 := Try.underlying84
 have HR0 := Aside0.mk hr0
 have HC0 := Aside0.mk hc0
 clear hr0 hc0
 have HB := Aside0.mk (Below.refl w.heap.size w)
 have H : (if (l0.length : Int) > 1024 then (some 8) else (QaG.l0 k l0 0)) = some r := h
 clear h
 by_cases c2 : (l0.length : Int) > 1024
 ·rw [if_pos c2] at H
  have c2b0 : decide (1024 < (l0.length : Int)) = T := decide_eq_true c2
  have c2b1 : decide (1024 < l0.length) = T := decide_eq_true (by omega)
  clear c2
  obtain rfl := Option.some.inj H
  go_enter Try.func67, Try.ntmps67
  go_wp2
  repeat (go_quiet (fail); try go_wp2)
  go_ret
  exact ⟨Zq, Zb⟩
 rw [if_neg c2] at H
 have c2b0 : decide (1024 < (l0.length : Int)) = F := decide_eq_false c2
 have c2b1 : decide (1024 < l0.length) = F := decide_eq_false (by omega)
 clear c2
 have H' := Aside0.mk H
 clear H
 go_enter Try.func67, Try.ntmps67
 go_wp2
 repeat (go_quiet (fail); try go_wp2)
 go_loopg [3] k (fun kq v3 w' => ∃ (x3_1 : Int), v3 = .int .i64 x3_1 ∧ Aside0 (QaG.l0 kq l0 x3_1 = some r) ∧ Aside0 (kq ≤ k) ∧ Aside0 (Below w.heap.size w w'))
 case atStart => exact ⟨(0), (Zs), H', ⟨Nat.le_refl _⟩, ⟨Zb⟩⟩
 case round =>
  clear H'
  try clear c2
  try clear c2b0
  try clear c2b1
  try clear p2
  obtain ⟨x3_1, rfl, HA, HK1, HB⟩ := hrel
  cases gk with
  | zero => exact absurd HA.out (by simp [QaG.l0])
  | succ k1 =>
   have H := HA.out
   clear HA
   simp only [QaG.l0] at H
   by_cases c3 : x3_1 < (l0.length : Int)
   ·rw [if_pos c3] at H
    have c3b0 : decide (x3_1 < (l0.length : Int)) = T := decide_eq_true c3
    clear c3
    (try simp only [c3b0])
    by_cases c4 : 0 ≤ x3_1
    ·rw [if_pos c4] at H
     have c4b0 : decide (0 ≤ x3_1) = T := decide_eq_true c4
     clear c4
     replace H := Option.bind_eq_some_iff.mp H
     obtain ⟨t402, A50, H⟩ := H
     replace H : (if t402 = 0 then (if x3_1 > 0 then (if 0 ≤ (wrap64 (x3_1 - 1)) then (if (wrap64 (x3_1 - 1)) < (l0.length : Int) then (if (Op.bytesLess (((rd_T84 l0 x3_1).f0).toList) (((rd_T84 l0 (wrap64 (x3_1 - 1))).f0).toList)) = T then (some 12) else (if (((rd_T84 l0 x3_1).f0).toList) = (((rd_T84 l0 (wrap64 (x3_1 - 1))).f0).toList) then (some 12) else (QaG.l0 k1 l0 (wrap64 (x3_1 + 1))))) else (none)) else (none)) else (QaG.l0 k1 l0 (wrap64 (x3_1 + 1)))) else (some t402)) = some r := H
     have A5 := Aside0.mk A50
     clear A50
     have p401 : 0 ≤ (x3_1 : Int) := Ze
     have q401 : x3_1 < (l0.length : Int) := Ze
     obtain ⟨ad401, e401, hx401_0, hx401_1, hx401_2, hx401_3, hx401_4, hx401_5⟩ := at_T84 HR0.out x3_1 p401 q401
     cases e401
     replace hx401_0 := Zx HB.out hx401_0
     replace hx401_1 := Zx HB.out hx401_1
     replace hx401_2 := Zx HB.out hx401_2
     replace hx401_3 := Zx HB.out hx401_3
     replace hx401_4 := Zx HB.out hx401_4
     replace hx401_5 := Zx HB.out hx401_5
     replace p401 := eq_true p401
     replace q401 := eq_true q401
     go_upto_if 20 with (first | (go_at_call 102; (with_reducible refine (Qbb.calls k1 ((rd_T84 l0 x3_1).f0) ((rd_T84 l0 x3_1).f1) ((rd_T84 l0 x3_1).f2) ((rd_T84 l0 x3_1).f3) ((rd_T84 l0 x3_1).f4) ((rd_T84 l0 x3_1).f5) t402 _ A5.out).mono ?_); rintro e w6 ⟨rfl, hb⟩; replace HB := Aside0.mk (Qao (Zb) hb); (try clear hb); (try clear hb2); (try clear hk); (try clear hi)))
     repeat (go_quiet (first | (go_at_call 102; (with_reducible refine (Qbb.calls k1 ((rd_T84 l0 x3_1).f0) ((rd_T84 l0 x3_1).f1) ((rd_T84 l0 x3_1).f2) ((rd_T84 l0 x3_1).f3) ((rd_T84 l0 x3_1).f4) ((rd_T84 l0 x3_1).f5) t402 _ A5.out).mono ?_); rintro e w6 ⟨rfl, hb⟩; replace HB := Aside0.mk (Qao (Zb) hb); (try clear hb); (try clear hb2); (try clear hk); (try clear hi))); go_upto_if 20 with (first | (go_at_call 102; (with_reducible refine (Qbb.calls k1 ((rd_T84 l0 x3_1).f0) ((rd_T84 l0 x3_1).f1) ((rd_T84 l0 x3_1).f2) ((rd_T84 l0 x3_1).f3) ((rd_T84 l0 x3_1).f4) ((rd_T84 l0 x3_1).f5) t402 _ A5.out).mono ?_); rintro e w6 ⟨rfl, hb⟩; replace HB := Aside0.mk (Qao (Zb) hb); (try clear hb); (try clear hb2); (try clear hk); (try clear hi))))
     (try simp only [Act.put, Zj, Zk, Zm])
     by_cases c7 : t402 = 0
     ·rw [if_pos c7] at H
      have c7b0 : (t402 == 0) = T := beq_iff_eq.mpr c7
      have c7b1 : (t402 != 0) = F := bne_eq_false_iff_eq.mpr c7
      clear c7
      (try simp only [c7b0, c7b1])
      by_cases c8 : x3_1 > 0
      ·rw [if_pos c8] at H
       have c8b0 : decide (0 < x3_1) = T := decide_eq_true c8
       clear c8
       obtain ⟨ji9, hji9⟩ : ∃ j_ : Int, (wrap64 (x3_1 - 1)) = j_ := ⟨_, rfl⟩
       replace H : (if 0 ≤ (ji9) then (if (ji9) < (l0.length : Int) then (if (Op.bytesLess (((rd_T84 l0 x3_1).f0).toList) (((rd_T84 l0 (ji9)).f0).toList)) = T then (some 12) else (if (((rd_T84 l0 x3_1).f0).toList) = (((rd_T84 l0 (ji9)).f0).toList) then (some 12) else (QaG.l0 k1 l0 (wrap64 (x3_1 + 1))))) else (none)) else (none)) = some r := by first | (rw [hji9] at H; exact H) | (simp only [hji9] at H ⊢; exact H)
       have hji9w : (IntKind.i64.wrap (x3_1 - 1)) = ji9 := (i64_w _).trans hji9
       by_cases c10 : 0 ≤ (ji9)
       ·rw [if_pos c10] at H
        have c10b0 : decide (0 ≤ (ji9)) = T := decide_eq_true c10
        clear c10
        by_cases c11 : (ji9) < (l0.length : Int)
        ·rw [if_pos c11] at H
         have c11b0 : decide ((ji9) < (l0.length : Int)) = T := decide_eq_true c11
         clear c11
         by_cases c12 : (Op.bytesLess (((rd_T84 l0 x3_1).f0).toList) (((rd_T84 l0 (ji9)).f0).toList)) = T
         ·rw [if_pos c12] at H
          have c12b0 : (Op.bytesLess (((rd_T84 l0 x3_1).f0).toList) (((rd_T84 l0 (ji9)).f0).toList)) = T := c12
          clear c12
          obtain rfl := Option.some.inj H
          have p403 : 0 ≤ (x3_1 : Int) := Ze
          have q403 : x3_1 < (l0.length : Int) := Ze
          obtain ⟨ad403, e403, hx403_0, hx403_1, hx403_2, hx403_3, hx403_4, hx403_5⟩ := at_T84 HR0.out x3_1 p403 q403
          obtain rfl : ad401 = ad403 := (by injection e403)
          replace hx403_0 := Zx HB.out hx403_0
          replace hx403_1 := Zx HB.out hx403_1
          replace hx403_2 := Zx HB.out hx403_2
          replace hx403_3 := Zx HB.out hx403_3
          replace hx403_4 := Zx HB.out hx403_4
          replace hx403_5 := Zx HB.out hx403_5
          replace p403 := eq_true p403
          replace q403 := eq_true q403
          have p404 : 0 ≤ ((ji9) : Int) := Ze
          have q404 : (ji9) < (l0.length : Int) := Ze
          obtain ⟨ad404, e404, hx404_0, hx404_1, hx404_2, hx404_3, hx404_4, hx404_5⟩ := at_T84 HR0.out (ji9) p404 q404
          obtain rfl : ad401 = ad404 := (by injection e404)
          replace hx404_0 := Zx HB.out hx404_0
          replace hx404_1 := Zx HB.out hx404_1
          replace hx404_2 := Zx HB.out hx404_2
          replace hx404_3 := Zx HB.out hx404_3
          replace hx404_4 := Zx HB.out hx404_4
          replace hx404_5 := Zx HB.out hx404_5
          replace p404 := eq_true p404
          replace q404 := eq_true q404
          go_wp2
          repeat (go_quiet (fail); try go_wp2)
          go_ret
          exact ⟨by first | rfl | (simp [Qaj, Qak] <;> rfl) | (simp only [← hji9]; first | rfl | (simp [Qaj, Qak] <;> rfl)) | (simp [*, Qaj, Qak] <;> rfl), Zb⟩
         rw [if_neg c12] at H
         have c12b0 : (Op.bytesLess (((rd_T84 l0 x3_1).f0).toList) (((rd_T84 l0 (ji9)).f0).toList)) = F := by simpa using c12
         clear c12
         by_cases c13 : (((rd_T84 l0 x3_1).f0).toList) = (((rd_T84 l0 (ji9)).f0).toList)
         ·rw [if_pos c13] at H
          have c13b0 : ((((rd_T84 l0 x3_1).f0).toList) == (((rd_T84 l0 (ji9)).f0).toList)) = T := beq_iff_eq.mpr c13
          have c13b1 : ((((rd_T84 l0 x3_1).f0).toList) != (((rd_T84 l0 (ji9)).f0).toList)) = F := bne_eq_false_iff_eq.mpr c13
          clear c13
          obtain rfl := Option.some.inj H
          have p403 : 0 ≤ (x3_1 : Int) := Ze
          have q403 : x3_1 < (l0.length : Int) := Ze
          obtain ⟨ad403, e403, hx403_0, hx403_1, hx403_2, hx403_3, hx403_4, hx403_5⟩ := at_T84 HR0.out x3_1 p403 q403
          obtain rfl : ad401 = ad403 := (by injection e403)
          replace hx403_0 := Zx HB.out hx403_0
          replace hx403_1 := Zx HB.out hx403_1
          replace hx403_2 := Zx HB.out hx403_2
          replace hx403_3 := Zx HB.out hx403_3
          replace hx403_4 := Zx HB.out hx403_4
          replace hx403_5 := Zx HB.out hx403_5
          replace p403 := eq_true p403
          replace q403 := eq_true q403
          have p404 : 0 ≤ ((ji9) : Int) := Ze
          have q404 : (ji9) < (l0.length : Int) := Ze
          obtain ⟨ad404, e404, hx404_0, hx404_1, hx404_2, hx404_3, hx404_4, hx404_5⟩ := at_T84 HR0.out (ji9) p404 q404
          obtain rfl : ad401 = ad404 := (by injection e404)
          replace hx404_0 := Zx HB.out hx404_0
          replace hx404_1 := Zx HB.out hx404_1
          replace hx404_2 := Zx HB.out hx404_2
          replace hx404_3 := Zx HB.out hx404_3
          replace hx404_4 := Zx HB.out hx404_4
          replace hx404_5 := Zx HB.out hx404_5
          replace p404 := eq_true p404
          replace q404 := eq_true q404
          go_wp2
          repeat (go_quiet (fail); try go_wp2)
          go_ret
          exact ⟨by first | rfl | (simp [Qaj, Qak] <;> rfl) | (simp only [← hji9]; first | rfl | (simp [Qaj, Qak] <;> rfl)) | (simp [*, Qaj, Qak] <;> rfl), Zb⟩
         rw [if_neg c13] at H
         have c13b0 : ((((rd_T84 l0 x3_1).f0).toList) == (((rd_T84 l0 (ji9)).f0).toList)) = F := beq_eq_false_iff_ne.mpr c13
         have c13b1 : ((((rd_T84 l0 x3_1).f0).toList) != (((rd_T84 l0 (ji9)).f0).toList)) = T := bne_iff_ne.mpr c13
         have H' := Aside0.mk H
         clear H
         have p403 : 0 ≤ (x3_1 : Int) := Ze
         have q403 : x3_1 < (l0.length : Int) := Ze
         obtain ⟨ad403, e403, hx403_0, hx403_1, hx403_2, hx403_3, hx403_4, hx403_5⟩ := at_T84 HR0.out x3_1 p403 q403
         obtain rfl : ad401 = ad403 := (by injection e403)
         replace hx403_0 := Zx HB.out hx403_0
         replace hx403_1 := Zx HB.out hx403_1
         replace hx403_2 := Zx HB.out hx403_2
         replace hx403_3 := Zx HB.out hx403_3
         replace hx403_4 := Zx HB.out hx403_4
         replace hx403_5 := Zx HB.out hx403_5
         replace p403 := eq_true p403
         replace q403 := eq_true q403
         have p404 : 0 ≤ ((ji9) : Int) := Ze
         have q404 : (ji9) < (l0.length : Int) := Ze
         obtain ⟨ad404, e404, hx404_0, hx404_1, hx404_2, hx404_3, hx404_4, hx404_5⟩ := at_T84 HR0.out (ji9) p404 q404
         obtain rfl : ad401 = ad404 := (by injection e404)
         replace hx404_0 := Zx HB.out hx404_0
         replace hx404_1 := Zx HB.out hx404_1
         replace hx404_2 := Zx HB.out hx404_2
         replace hx404_3 := Zx HB.out hx404_3
         replace hx404_4 := Zx HB.out hx404_4
         replace hx404_5 := Zx HB.out hx404_5
         replace p404 := eq_true p404
         replace q404 := eq_true q404
         go_wp2
         repeat (go_quiet (fail); try go_wp2)
         go_roundg k1
         case measure => have := HK1.out; omega
         case rel => exact ⟨(wrap64 (x3_1 + 1)), (Zs), H', ⟨by have := HK1.out; omega⟩, ⟨Zb⟩⟩
        rw [if_neg c11] at H
        exact absurd H (by simp)
       rw [if_neg c10] at H
       exact absurd H (by simp)
      rw [if_neg c8] at H
      have c8b0 : decide (0 < x3_1) = F := decide_eq_false c8
      clear c8
      have H' := Aside0.mk H
      clear H
      go_wp2
      repeat (go_quiet (fail); try go_wp2)
      go_roundg k1
      case measure => have := HK1.out; omega
      case rel => exact ⟨(wrap64 (x3_1 + 1)), (Zs), H', ⟨by have := HK1.out; omega⟩, ⟨Zb⟩⟩
     rw [if_neg c7] at H
     have c7b0 : (t402 == 0) = F := beq_eq_false_iff_ne.mpr c7
     have c7b1 : (t402 != 0) = T := bne_iff_ne.mpr c7
     (try simp only [c7b0, c7b1])
     obtain rfl := Option.some.inj H
     go_wp2
     repeat (go_quiet (fail); try go_wp2)
     go_ret
     exact ⟨Zq, Zb⟩
    rw [if_neg c4] at H
    exact absurd H (by simp)
   rw [if_neg c3] at H
   have c3b0 : decide (x3_1 < (l0.length : Int)) = F := decide_eq_false c3
   clear c3
   (try simp only [c3b0])
   obtain rfl := Option.some.inj H
   go_wp2
   repeat (go_quiet (fail); try go_wp2)
   go_ret
   exact ⟨Zq, Zb⟩
def QbO.f (l0_0 : List (S46)) (a0_1 : ByteArray) (a0_2 : ByteArray) (a0_3 : Int) (l0_4 : List (S84)) (l0_5 : List (S98)) : Option (Bool) := if (l0_0.length : Int) ≤ 200 then (if (l0_4.length : Int) ≤ 100 then (some (decide ((l0_5.length : Int) ≤ 20))) else (some F)) else (some F)
theorem QbO.calls (A0_0 : Option Addr) (c0_0 : Nat) (l0_0 : List (S46)) (a0_1 : ByteArray) (a0_2 : ByteArray) (a0_3 : Int) (A0_4 : Option Addr) (c0_4 : Nat) (l0_4 : List (S84)) (A0_5 : Option Addr) (c0_5 : Nat) (l0_5 : List (S98)) (r : Bool) (w : World) (hr0_0 : Kd.C k46 w A0_0 l0_0.length l0_0) (hc0_0 : l0_0.length ≤ c0_0) (hr0_4 : Kd.C k84 w A0_4 l0_4.length l0_4) (hc0_4 : l0_4.length ≤ c0_4) (hr0_5 : Kd.C k98 w A0_5 l0_5.length l0_5) (hc0_5 : l0_5.length ≤ c0_5) (h : QbO.f l0_0 a0_1 a0_2 a0_3 l0_4 l0_5 = some r) :
  Calls Try.prog 26 #[.agg #[.slice A0_0 l0_0.length c0_0, .string a0_1, .string a0_2, .int .i64 a0_3, .slice A0_4 l0_4.length c0_4, .slice A0_5 l0_5.length c0_5]] w fun e w' => e = .returned (.bool r) ∧ Below w.heap.size w w' := by
 have hu61 := Try.underlying61
 have HR0_0 := Aside0.mk hr0_0
 have HC0_0 := Aside0.mk hc0_0
 clear hr0_0 hc0_0
 have HR0_4 := Aside0.mk hr0_4
 have HC0_4 := Aside0.mk hc0_4
 clear hr0_4 hc0_4
 have HR0_5 := Aside0.mk hr0_5
 have HC0_5 := Aside0.mk hc0_5
 clear hr0_5 hc0_5
 have HB := Aside0.mk (Below.refl w.heap.size w)
 have H : (if (l0_0.length : Int) ≤ 200 then (if (l0_4.length : Int) ≤ 100 then (some (decide ((l0_5.length : Int) ≤ 20))) else (some F)) else (some F)) = some r := h
 clear h
 go_enter Try.func26, Try.ntmps26
 go_upto_region 1 with (first | ((with_reducible refine QaJ (N := 1) rfl ?_); (try (refine QbF (by rfl) ?_; dsimp only)); refine Zbx (N := 1) (cs := #[.slice A0_0 l0_0.length c0_0, .string a0_1, .string a0_2, .int .i64 a0_3, .slice A0_4 l0_4.length c0_4, .slice A0_5 l0_5.length c0_5]) (t := 61) ?_; intro gb605 hg w2 hbox hb; have BK605 := Aside0.mk (hbox); have GW605 := Aside0.mk (Zt w hg (Zb)); have GE605 := GW605; replace HB := Aside0.mk (Qao (Zb) hb); clear hb hbox hg))
 (try simp only [Act.put, Zj, Zk, Zm])
 by_cases c3 : (l0_0.length : Int) ≤ 200
 ·rw [if_pos c3] at H
  have c3b0 : decide ((l0_0.length : Int) ≤ 200) = T := decide_eq_true c3
  have c3b1 : decide (l0_0.length ≤ 200) = T := decide_eq_true (by omega)
  clear c3
  (try simp only [c3b0, c3b1])
  by_cases c4 : (l0_4.length : Int) ≤ 100
  ·rw [if_pos c4] at H
   have c4b0 : decide ((l0_4.length : Int) ≤ 100) = T := decide_eq_true c4
   have c4b1 : decide (l0_4.length ≤ 100) = T := decide_eq_true (by omega)
   clear c4
   obtain rfl := Option.some.inj H
   obtain ⟨hcz5_0, hfz5_0⟩ := Zy (v := (.slice A0_0 l0_0.length c0_0)) BK605.out 0
   obtain ⟨hcz5_1, hfz5_1⟩ := Zy (v := (.string a0_1)) BK605.out 1
   obtain ⟨hcz5_2, hfz5_2⟩ := Zy (v := (.string a0_2)) BK605.out 2
   obtain ⟨hcz5_3, hfz5_3⟩ := Zy (v := (.int .i64 a0_3)) BK605.out 3
   obtain ⟨hcz5_4, hfz5_4⟩ := Zy (v := (.slice A0_4 l0_4.length c0_4)) BK605.out 4
   obtain ⟨hcz5_5, hfz5_5⟩ := Zy (v := (.slice A0_5 l0_5.length c0_5)) BK605.out 5
   go_wp2
   go_ret
   exact ⟨Zq, Zc1 GE605.out⟩
  rw [if_neg c4] at H
  have c4b0 : decide ((l0_4.length : Int) ≤ 100) = F := decide_eq_false c4
  have c4b1 : decide (l0_4.length ≤ 100) = F := decide_eq_false (by omega)
  clear c4
  obtain rfl := Option.some.inj H
  obtain ⟨hcz6_0, hfz6_0⟩ := Zy (v := (.slice A0_0 l0_0.length c0_0)) BK605.out 0
  obtain ⟨hcz6_1, hfz6_1⟩ := Zy (v := (.string a0_1)) BK605.out 1
  obtain ⟨hcz6_2, hfz6_2⟩ := Zy (v := (.string a0_2)) BK605.out 2
  obtain ⟨hcz6_3, hfz6_3⟩ := Zy (v := (.int .i64 a0_3)) BK605.out 3
  obtain ⟨hcz6_4, hfz6_4⟩ := Zy (v := (.slice A0_4 l0_4.length c0_4)) BK605.out 4
  obtain ⟨hcz6_5, hfz6_5⟩ := Zy (v := (.slice A0_5 l0_5.length c0_5)) BK605.out 5
  go_wp2
  go_ret
  exact ⟨Zq, Zc1 GE605.out⟩
 rw [if_neg c3] at H
 have c3b0 : decide ((l0_0.length : Int) ≤ 200) = F := decide_eq_false c3
 have c3b1 : decide (l0_0.length ≤ 200) = F := decide_eq_false (by omega)
 clear c3
 (try simp only [c3b0, c3b1])
 obtain rfl := Option.some.inj H
 obtain ⟨hcz7_0, hfz7_0⟩ := Zy (v := (.slice A0_0 l0_0.length c0_0)) BK605.out 0
 obtain ⟨hcz7_1, hfz7_1⟩ := Zy (v := (.string a0_1)) BK605.out 1
 obtain ⟨hcz7_2, hfz7_2⟩ := Zy (v := (.string a0_2)) BK605.out 2
 obtain ⟨hcz7_3, hfz7_3⟩ := Zy (v := (.int .i64 a0_3)) BK605.out 3
 obtain ⟨hcz7_4, hfz7_4⟩ := Zy (v := (.slice A0_4 l0_4.length c0_4)) BK605.out 4
 obtain ⟨hcz7_5, hfz7_5⟩ := Zy (v := (.slice A0_5 l0_5.length c0_5)) BK605.out 5
 go_wp2
 go_ret
 exact ⟨Zq, Zc1 GE605.out⟩
def Qca.f (a0_0 : ByteArray) (a0_1 : Int) (a0_2 : Int) (a0_3 : Int) (a0_4 : Int) (a0_5 : Int) : Option (ByteArray) := some a0_0
theorem Qca.calls (a0_0 : ByteArray) (a0_1 : Int) (a0_2 : Int) (a0_3 : Int) (a0_4 : Int) (a0_5 : Int) (r : ByteArray) (w : World) (h : Qca.f a0_0 a0_1 a0_2 a0_3 a0_4 a0_5 = some r) :
  Calls Try.prog 77 #[.agg #[.string a0_0, .int .i64 a0_1, .int .i64 a0_2, .int .i64 a0_3, .int .i64 a0_4, .int .i64 a0_5]] w fun e w' => e = .returned (.string r) ∧ Below w.heap.size w w' := by
 have hu84 := Try.underlying84
 have HB := Aside0.mk (Below.refl w.heap.size w)
 have H : (some a0_0) = some r := h
 clear h
 obtain rfl := Option.some.inj H
 go_enter Try.func77, Try.ntmps77
 go_wp2_with (first | ((with_reducible refine QaJ (N := 1) rfl ?_); refine Zbx (N := 1) (cs := #[.string a0_0, .int .i64 a0_1, .int .i64 a0_2, .int .i64 a0_3, .int .i64 a0_4, .int .i64 a0_5]) (t := 84) ?_; intro gb103 hg w2 hbox hb; have BK103 := Aside0.mk (hbox); have GW103 := Aside0.mk (Zt w hg (Zb)); have GE103 := GW103; replace HB := Aside0.mk (Qao (Zb) hb); clear hb hbox hg; obtain ⟨hcz3_0, hfz3_0⟩ := Zy (v := (.string a0_0)) BK103.out 0; obtain ⟨hcz3_1, hfz3_1⟩ := Zy (v := (.int .i64 a0_1)) BK103.out 1; obtain ⟨hcz3_2, hfz3_2⟩ := Zy (v := (.int .i64 a0_2)) BK103.out 2; obtain ⟨hcz3_3, hfz3_3⟩ := Zy (v := (.int .i64 a0_3)) BK103.out 3; obtain ⟨hcz3_4, hfz3_4⟩ := Zy (v := (.int .i64 a0_4)) BK103.out 4; obtain ⟨hcz3_5, hfz3_5⟩ := Zy (v := (.int .i64 a0_5)) BK103.out 5))
 go_ret
 exact ⟨Zq, Zc1 GE103.out⟩
def QbS.f (a0 : Int) : Option (Bool) := if 97 ≤ a0 then (some (decide (a0 ≤ 122))) else (some F)
theorem QbS.calls (a0 : Int) (r : Bool) (w : World) (h : QbS.f a0 = some r) :
  Calls Try.prog 121 #[.int .u8 a0] w fun e w' => e = .returned (.bool r) ∧ Drawn0 w w' := by
 have H : (if 97 ≤ a0 then (some (decide (a0 ≤ 122))) else (some F)) = some r := h
 clear h
 by_cases c2 : 97 ≤ a0
 ·rw [if_pos c2] at H
  have c2b0 : decide (97 ≤ a0) = T := decide_eq_true c2
  clear c2
  obtain rfl := Option.some.inj H
  go_enter Try.func121, Try.ntmps121
  go_wp2
  go_ret
  exact ⟨Zs, Zd⟩
 rw [if_neg c2] at H
 have c2b0 : decide (97 ≤ a0) = F := decide_eq_false c2
 clear c2
 obtain rfl := Option.some.inj H
 go_enter Try.func121, Try.ntmps121
 go_wp2
 go_ret
 exact ⟨Zs, Zd⟩
def QbZ.f (a0 : Int) : Option (Bool) := if 48 ≤ a0 then (some (decide (a0 ≤ 57))) else (some F)
theorem QbZ.calls (a0 : Int) (r : Bool) (w : World) (h : QbZ.f a0 = some r) :
  Calls Try.prog 122 #[.int .u8 a0] w fun e w' => e = .returned (.bool r) ∧ Drawn0 w w' := by
 have H : (if 48 ≤ a0 then (some (decide (a0 ≤ 57))) else (some F)) = some r := h
 clear h
 by_cases c2 : 48 ≤ a0
 ·rw [if_pos c2] at H
  have c2b0 : decide (48 ≤ a0) = T := decide_eq_true c2
  clear c2
  obtain rfl := Option.some.inj H
  go_enter Try.func122, Try.ntmps122
  go_wp2
  go_ret
  exact ⟨Zs, Zd⟩
 rw [if_neg c2] at H
 have c2b0 : decide (48 ≤ a0) = F := decide_eq_false c2
 clear c2
 obtain rfl := Option.some.inj H
 go_enter Try.func122, Try.ntmps122
 go_wp2
 go_ret
 exact ⟨Zs, Zd⟩
def Qbx.f (a0 : Int) : Option (Bool) := if a0 ≥ 0 then (some (decide (a0 ≤ 1000))) else (some F)
theorem Qbx.calls (a0 : Int) (r : Bool) (w : World) (h : Qbx.f a0 = some r) :
  Calls Try.prog 109 #[.int .i64 a0] w fun e w' => e = .returned (.bool r) ∧ Drawn0 w w' := by
 have H : (if a0 ≥ 0 then (some (decide (a0 ≤ 1000))) else (some F)) = some r := h
 clear h
 by_cases c2 : a0 ≥ 0
 ·rw [if_pos c2] at H
  have c2b0 : decide (0 ≤ a0) = T := decide_eq_true c2
  clear c2
  obtain rfl := Option.some.inj H
  go_enter Try.func109, Try.ntmps109
  go_wp2
  go_ret
  exact ⟨Zs, Zd⟩
 rw [if_neg c2] at H
 have c2b0 : decide (0 ≤ a0) = F := decide_eq_false c2
 clear c2
 obtain rfl := Option.some.inj H
 go_enter Try.func109, Try.ntmps109
 go_wp2
 go_ret
 exact ⟨Zs, Zd⟩
def QbY.f (a0 : Int) : Option (Bool) := if a0 ≥ 0 then (some (decide (a0 ≤ 1152921504606846976))) else (some F)
theorem QbY.calls (a0 : Int) (r : Bool) (w : World) (h : QbY.f a0 = some r) :
  Calls Try.prog 80 #[.int .i64 a0] w fun e w' => e = .returned (.bool r) ∧ Drawn0 w w' := by
 have H : (if a0 ≥ 0 then (some (decide (a0 ≤ 1152921504606846976))) else (some F)) = some r := h
 clear h
 by_cases c2 : a0 ≥ 0
 ·rw [if_pos c2] at H
  have c2b0 : decide (0 ≤ a0) = T := decide_eq_true c2
  clear c2
  obtain rfl := Option.some.inj H
  go_enter Try.func80, Try.ntmps80
  go_wp2
  go_ret
  exact ⟨Zs, Zd⟩
 rw [if_neg c2] at H
 have c2b0 : decide (0 ≤ a0) = F := decide_eq_false c2
 clear c2
 obtain rfl := Option.some.inj H
 go_enter Try.func80, Try.ntmps80
 go_wp2
 go_ret
 exact ⟨Zs, Zd⟩
def QbB.f (a0 : Int) : Option (Bool) := if a0 ≥ (-1152921504606846976) then (some (decide (a0 ≤ 1152921504606846976))) else (some F)
theorem QbB.calls (a0 : Int) (r : Bool) (w : World) (h : QbB.f a0 = some r) :
  Calls Try.prog 87 #[.int .i64 a0] w fun e w' => e = .returned (.bool r) ∧ Drawn0 w w' := by
 have H : (if a0 ≥ (-1152921504606846976) then (some (decide (a0 ≤ 1152921504606846976))) else (some F)) = some r := h
 clear h
 by_cases c2 : a0 ≥ (-1152921504606846976)
 ·rw [if_pos c2] at H
  have c2b0 : decide ((-1152921504606846976) ≤ a0) = T := decide_eq_true c2
  clear c2
  obtain rfl := Option.some.inj H
  go_enter Try.func87, Try.ntmps87
  go_wp2
  go_ret
  exact ⟨Zs, Zd⟩
 rw [if_neg c2] at H
 have c2b0 : decide ((-1152921504606846976) ≤ a0) = F := decide_eq_false c2
 clear c2
 obtain rfl := Option.some.inj H
 go_enter Try.func87, Try.ntmps87
 go_wp2
 go_ret
 exact ⟨Zs, Zd⟩
def Qcc.f (a0_0 : ByteArray) (a0_1 : Int) : Option (Bool) := if a0_1 < 1 then (some T) else (some (decide (a0_1 > 1000000000000)))
theorem Qcc.calls (a0_0 : ByteArray) (a0_1 : Int) (r : Bool) (w : World) (h : Qcc.f a0_0 a0_1 = some r) :
  Calls Try.prog 113 #[.agg #[.string a0_0, .int .i64 a0_1]] w fun e w' => e = .returned (.bool r) ∧ Below w.heap.size w w' := by
 have hu98 := Try.underlying98
 have HB := Aside0.mk (Below.refl w.heap.size w)
 have H : (if a0_1 < 1 then (some T) else (some (decide (a0_1 > 1000000000000)))) = some r := h
 clear h
 go_enter Try.func113, Try.ntmps113
 go_upto_region 1 with (first | ((with_reducible refine QaJ (N := 1) rfl ?_); refine Zbx (N := 1) (cs := #[.string a0_0, .int .i64 a0_1]) (t := 98) ?_; intro gb147 hg w2 hbox hb; have BK147 := Aside0.mk (hbox); have GW147 := Aside0.mk (Zt w hg (Zb)); have GE147 := GW147; replace HB := Aside0.mk (Qao (Zb) hb); clear hb hbox hg))
 (try simp only [Act.put, Zj, Zk, Zm])
 by_cases c3 : a0_1 < 1
 ·rw [if_pos c3] at H
  have c3b0 : decide (a0_1 < 1) = T := decide_eq_true c3
  clear c3
  (try simp only [c3b0])
  obtain rfl := Option.some.inj H
  obtain ⟨hcz4_0, hfz4_0⟩ := Zy (v := (.string a0_0)) BK147.out 0
  obtain ⟨hcz4_1, hfz4_1⟩ := Zy (v := (.int .i64 a0_1)) BK147.out 1
  go_wp2
  go_ret
  exact ⟨Zq, Zc1 GE147.out⟩
 rw [if_neg c3] at H
 have c3b0 : decide (a0_1 < 1) = F := decide_eq_false c3
 clear c3
 (try simp only [c3b0])
 obtain rfl := Option.some.inj H
 obtain ⟨hcz5_0, hfz5_0⟩ := Zy (v := (.string a0_0)) BK147.out 0
 obtain ⟨hcz5_1, hfz5_1⟩ := Zy (v := (.int .i64 a0_1)) BK147.out 1
 go_wp2
 go_ret
 exact ⟨Zq, Zc1 GE147.out⟩
def QbC.f (a0 : ByteArray) : Option (Bool) := some (a0.toList != a0.toList)
theorem QbC.calls (a0 : ByteArray) (r : Bool) (w : World) (h : QbC.f a0 = some r) :
  Calls Try.prog 120 #[.string a0] w fun e w' => e = .returned (.bool r) ∧ Drawn0 w w' := by
 have H : (some (a0.toList != a0.toList)) = some r := h
 clear h
 obtain rfl := Option.some.inj H
 go_enter Try.func120, Try.ntmps120
 go_wp2
 go_ret
 exact ⟨Zs, Zd⟩
end Go.Proofs.Ytfcaaefdmabkhaa.Pr
