/- Functions' values and contracts, as the print wrote them. -/
import Derived.Test.YtgnmhfjfefgbfaaQ3D7P0
namespace Go.Proofs.Ytgnmhfjfefgbfaa.Pr
open Go.RowKit Go.Proofs.YtgnmhfjfefgbfaaW.PrintWords Go.Proofs.YtgnmhfjfefgbfaaW.PrintLast Go.Proofs.YtgnmhfjfefgbfaaW.PrintMore
attribute [local go_sem] QaN QaP QaW QaX QaH QaI QaO QaQ   -- for this text's walks alone
set_option linter.unusedVariables false
set_option linter.unusedSimpArgs false
set_option maxRecDepth 100000
set_option maxHeartbeats 8000000
attribute [local go_sem high] eqA81
def Qa5.l0 : Nat → List (S346) → List (S346) → Int → Int → ByteArray → ByteArray → Option ((List (S346)))
 | 0, _, _, _, _, _, _ => none
 | k + 1, x4, x7, x8, x9, x994000, x994001 => if x9 < x8 then (if 0 ≤ x9 then (if x9 < (x7.length : Int) then (if ((((Qaj x7 x9).f0.f0).toList) == x994000.toList && ((((Qaj x7 x9).f0.f1).toList) == x994001.toList)) = true then (if x4.length < 2513169434916 then (Qa5.l0 k (x4 ++ [(⟨(⟨(Qaj x7 x9).f0.f0, (Qaj x7 x9).f0.f1⟩ : S81), (Qaj x7 x9).f1, (Qaj x7 x9).f2⟩ : S346)]) x7 x8 (wrap64 (x9 + 1)) x994000 x994001) else (none)) else (Qa5.l0 k x4 x7 x8 (wrap64 (x9 + 1)) x994000 x994001)) else (none)) else (none)) else (some x4)
def Qa5.f (k : Nat) (l0 : List (S346)) (a1_0 : ByteArray) (a1_1 : ByteArray) : Option ((List (S346))) := Qa5.l0 k ([] : List (S346)) l0 (l0.length : Int) 0 a1_0 a1_1
theorem Qa5.mono_l : ∀ k, (∀ y0 y1 y2 y3 y4 y5, LeO (Qa5.l0 k y0 y1 y2 y3 y4 y5) (Qa5.l0 (k + 1) y0 y1 y2 y3 y4 y5))
 | 0 => fun _ _ _ _ _ _ r h => by simp [Qa5.l0] at h
 | k + 1 => by
  have ih0 := Qa5.mono_l k
  intro y0 y1 y2 y3 y4 y5
  unfold Qa5.l0
  exact ZM1 ih0
theorem Qa5.mono : ∀ a0 a1 a2 k, LeO (Qa5.f k a0 a1 a2) (Qa5.f (k + 1) a0 a1 a2) := by
 intro a0 a1 a2 k
 have ih0 := Qa5.mono_l k
 unfold Qa5.f
 exact ZM1 ih0
theorem Qa5.calls (k : Nat) (A0 : Option Addr) (c0 : Nat) (l0 : List (S346)) (a1_0 : ByteArray) (a1_1 : ByteArray) (r : List (S346)) (w : World) (hr0 : Kd.C k346 w A0 l0.length l0) (hc0 : l0.length ≤ c0) (h : Qa5.f k l0 a1_0 a1_1 = some r) :
  Calls Try.prog 263 #[.slice A0 l0.length c0, .agg #[.string a1_0, .string a1_1]] w fun e w' => ∃ v0_ : Value, e = .returned (v0_) ∧ Kd.R k346 346 w' w.heap.size (fun _ => True) v0_ r ∧ Below w.heap.size w w' := by
 have hu81 := Try.underlying81
 have hu346 := Try.underlying346
 have HR0 := Aside0.mk hr0
 have HC0 := Aside0.mk hc0
 clear hr0 hc0
 have HB := Aside0.mk (Below.refl w.heap.size w)
 have H : (Qa5.l0 k ([] : List (S346)) l0 (l0.length : Int) 0 a1_0 a1_1) = some r := h
 clear h
 have H' := Aside0.mk H
 clear H
 go_enter Try.func263, Try.ntmps263
 go_wp2_with (first | ((with_reducible refine QaT (N := 3) rfl ?_); refine Zbx (N := 3) (cs := #[.string a1_0, .string a1_1]) (t := 81) ?_; intro gb993 hg w3 hbox hb; have BK993 := Aside0.mk (hbox); have GW993 := Aside0.mk (Zt w hg (Zb)); have GE993 := GW993; replace HB := Aside0.mk (Qap (Zb) hb); clear hb hbox hg))
 go_loopg [4, 9] k (fun kq v4 v9 w' => ∃ (x4_1 : List (S346)) (x9_1 : Int), v9 = .int .i64 x9_1 ∧ Aside0 (Qa5.l0 kq x4_1 l0 (l0.length : Int) x9_1 a1_0 a1_1 = some r) ∧ Aside0 (kq ≤ k) ∧ Aside0 (Kd.R k346 346 w' w.heap.size (fun _ => True) v4 x4_1) ∧ Aside0 (w'.heap[gb993]? = some (.cells #[.string a1_0, .string a1_1] 81 (0, 0))) ∧ Aside0 (Below w.heap.size w w'))
 case atStart => exact ⟨(([] : List (S346))), (0), (Zs), H', ⟨Nat.le_refl _⟩, ⟨by first | exact Kd.R_nil _ _ _ _ _ | exact Kd.N_nil _ _ _ _ _ | exact Kd.V_nil _ _ _ _ _ | exact Kd.Q_nil _ _ _ _ _ | exact Kd.S_nil _ _ _ _ _⟩, ⟨Zu BK993.out⟩, ⟨Zc1 GE993.out⟩⟩
 case round =>
  clear H'
  try clear c2
  try clear p2
  obtain ⟨x4_1, x9_1, rfl, HA, HK1, HO_4, BK993, HB⟩ := hrel
  cases gk with
  | zero => exact absurd HA.out (by simp [Qa5.l0])
  | succ k1 =>
   have H := HA.out
   clear HA
   simp only [Qa5.l0] at H
   by_cases c4 : x9_1 < (l0.length : Int)
   ·rw [if_pos c4] at H
    have c4b0 : decide (x9_1 < (l0.length : Int)) = true := decide_eq_true c4
    clear c4
    (try simp only [c4b0])
    by_cases c5 : 0 ≤ x9_1
    ·rw [if_pos c5] at H
     have c5b0 : decide (0 ≤ x9_1) = true := decide_eq_true c5
     clear c5
     by_cases c6 : x9_1 < (l0.length : Int)
     ·rw [if_pos c6] at H
      have c6b0 : decide (x9_1 < (l0.length : Int)) = true := decide_eq_true c6
      clear c6
      have p994 : 0 ≤ (x9_1 : Int) := Ze
      have q994 : x9_1 < (l0.length : Int) := Ze
      obtain ⟨ad994, e994, hx994_0, hx994_1, hx994_2, hx994_3⟩ := QcK HR0.out x9_1 p994 q994
      cases e994
      replace hx994_0 := Zx HB.out hx994_0
      replace hx994_1 := Zx HB.out hx994_1
      replace hx994_2 := Zx HB.out hx994_2
      replace hx994_3 := Zx HB.out hx994_3
      replace p994 := eq_true p994
      replace q994 := eq_true q994
      go_upto_if 16 with (first | ((with_reducible refine QaT (N := 6) rfl ?_); refine Zbx (N := 6) (cs := #[.string (⟨#[]⟩ : ByteArray), .string (⟨#[]⟩ : ByteArray), .string (⟨#[]⟩ : ByteArray), .int .i64 0]) (t := 346) ?_; intro gb995 hg w7 hbox hb; have BK995 := Aside0.mk (hbox); have GW995 := Aside0.mk (Zt w hg (Zc1 GE993.out)); have GE995 := GW995; have NB993_995 := Aside0.mk (Zn hg BK993.out); have NB995_993 := Aside0.mk NB993_995.out.symm; replace HO_4 := Aside0.mk (Kd.R_below (Kd.R_elderB (Zr HO_4.out) gb995 (Nat.le_of_eq hg.symm)) hb); replace BK993 := Aside0.mk (Zi BK993.out hb); replace HB := Aside0.mk (Qap (Zc1 GE993.out) hb); clear hb hbox hg; have hnb8 := NB995_993.out; have hnc8 := NB993_995.out; obtain ⟨hcz9_0, hfz9_0⟩ := Zy (v := (.string (⟨#[]⟩ : ByteArray))) BK995.out 0; obtain ⟨hcz9_1, hfz9_1⟩ := Zy (v := (.string (⟨#[]⟩ : ByteArray))) BK995.out 1; obtain ⟨hcz9_2, hfz9_2⟩ := Zy (v := (.string (⟨#[]⟩ : ByteArray))) BK995.out 2; obtain ⟨hcz9_3, hfz9_3⟩ := Zy (v := (.int .i64 0)) BK995.out 3; obtain ⟨hcz10_0, hfz10_0⟩ := Zy (v := (.string a1_0)) BK993.out 0; obtain ⟨hcz10_1, hfz10_1⟩ := Zy (v := (.string a1_1)) BK993.out 1))
      (try simp only [Act.put, Zj, Zk, Zm])
      by_cases c11 : ((((Qaj l0 x9_1).f0.f0).toList) == a1_0.toList && ((((Qaj l0 x9_1).f0.f1).toList) == a1_1.toList)) = true
      ·rw [if_pos c11] at H
       have c11b0 : ((((Qaj l0 x9_1).f0.f0).toList) == a1_0.toList && ((((Qaj l0 x9_1).f0.f1).toList) == a1_1.toList)) = true := c11
       (try (have c11b1 : decide ((((Qaj l0 x9_1).f0.f0).toList) = a1_0.toList && ((((Qaj l0 x9_1).f0.f1).toList) == a1_1.toList)) = true := by simpa using c11))
       (try (have c11b2 : ((((Qaj l0 x9_1).f0.f0).toList) == a1_0.toList && ((((Qaj l0 x9_1).f0.f1).toList) == a1_1.toList)) = true := by simpa using c11))
       clear c11
       (try simp only [c11b0])
       by_cases c12 : x4_1.length < 2513169434916
       ·rw [if_pos c12] at H
        have LMc12 := Aside0.mk c12
        clear c12
        obtain ⟨y996, hy996⟩ : ∃ y_ : List (S346), y_ = (x4_1 ++ [(⟨(⟨(Qaj l0 x9_1).f0.f0, (Qaj l0 x9_1).f0.f1⟩ : S81), (Qaj l0 x9_1).f1, (Qaj l0 x9_1).f2⟩ : S346)]) := ⟨_, rfl⟩
        replace H : (Qa5.l0 k1 y996 l0 (l0.length : Int) (wrap64 (x9_1 + 1)) a1_0 a1_1) = some r := by first | (rw [hy996]; with_reducible exact H) | (have H2_ := (Option.bind_some _ _).symm.trans H; rw [hy996]; with_reducible exact H2_) | (have H2_ := (Option.bind_some _ _).symm.trans H; with_reducible exact H2_) | with_reducible exact H | (rw [hy996]; exact H) | exact H
        have Ny996 := Aside0.mk hy996
        clear hy996
        have H' := Aside0.mk H
        clear H
        have hnb13 := NB995_993.out
        have hnc13 := NB993_995.out
        obtain ⟨hcz14_0, hfz14_0⟩ := Zy (v := (.string (⟨#[]⟩ : ByteArray))) BK995.out 0
        obtain ⟨hcz14_1, hfz14_1⟩ := Zy (v := (.string (⟨#[]⟩ : ByteArray))) BK995.out 1
        obtain ⟨hcz14_2, hfz14_2⟩ := Zy (v := (.string (⟨#[]⟩ : ByteArray))) BK995.out 2
        obtain ⟨hcz14_3, hfz14_3⟩ := Zy (v := (.int .i64 0)) BK995.out 3
        go_wp2_with (first | ((with_reducible refine QbK (b := .append) (xs := #[.tmp 17, .tmp 19]) rfl ?_); at_builtin; refine Kd.R_append k346 (w0 := w) w.heap.size rfl (.tmp 17) (.tmp 19) 102 346 (.agg #[(.string ⟨#[]⟩), (.string ⟨#[]⟩), (.string ⟨#[]⟩), (.int .i64 0)]) 56 rfl Try.underlying102 Qgf rfl (by decide) (by omega) u4 x4_1 (⟨(⟨(Qaj l0 x9_1).f0.f0, (Qaj l0 x9_1).f0.f1⟩ : S81), (Qaj l0 x9_1).f1, (Qaj l0 x9_1).f2⟩ : S346) [.string ((Qaj l0 x9_1).f0.f0), .string ((Qaj l0 x9_1).f0.f1), .string ((Qaj l0 x9_1).f1), .int .i64 ((Qaj l0 x9_1).f2)] (fun k_ => k_ ≠ gb995) (fun _ => False) rfl (by first | (go_simp; done) | (go_simp; rfl)) ?aP (fun _ hk => hk.elim) ?aF ?aO ?aB ?aS ?aL ?_; (case aP => exact QfI _ _ _ (⟨(⟨(Qaj l0 x9_1).f0.f0, (Qaj l0 x9_1).f0.f1⟩ : S81), (Qaj l0 x9_1).f1, (Qaj l0 x9_1).f2⟩ : S346)); (case aB => exact (Zc2 GE993.out GE995.out)); (case aF => exact (fun k_ hk => Kd.freshB (g := gb995) (o := .cells #[.string ((Qaj l0 x9_1).f0.f0), .string ((Qaj l0 x9_1).f0.f1), .string ((Qaj l0 x9_1).f1), .int .i64 ((Qaj l0 x9_1).f2)] 346 (0, 0)) (Zp2 BK995.out) k_ hk)); (case aO => exact (by (with_reducible repeat (first | apply Kd.R_alloc | apply Kd.R_drewN | apply Kd.R_drew)); exact Kd.R_mono (Zf gb995 3 (Zf gb995 2 (Zf gb995 1 (Zf gb995 0 (Kd.R_mono HO_4.out (fun k_ hk => (⟨hk, hk.2⟩ : _ ∧ k_ ≠ gb995))) (.string ((Qaj l0 x9_1).f0.f0))) (.string ((Qaj l0 x9_1).f0.f1))) (.string ((Qaj l0 x9_1).f1))) (.int .i64 ((Qaj l0 x9_1).f2))) (fun _ hk => hk.1.2))); (case aS => exact (Qar (Zc2 GE993.out GE995.out))); (case aL => have := LMc12.out; omega); intro v997 w15 ho hb hg hat; rw [← Ny996.out] at ho; have HO998 := Aside0.mk (ho); replace BK993 := Aside0.mk (Qa7 (g := gb993) (o := .cells #[.string a1_0, .string a1_1] 81 (0, 0)) (Zg4 BK993.out NB993_995.out NB993_995.out NB993_995.out NB993_995.out) hg (Kd.R_ne HO_4.out BK993.out (by decide))); replace BK995 := Aside0.mk (Qa7 (g := gb995) (o := .cells #[.string ((Qaj l0 x9_1).f0.f0), .string ((Qaj l0 x9_1).f0.f1), .string ((Qaj l0 x9_1).f1), .int .i64 ((Qaj l0 x9_1).f2)] 346 (0, 0)) (Zp2 BK995.out) hg (Kd.R_away HO_4.out (fun _ hk => hk.2))); replace HB := Aside0.mk (hb); clear HO_4; clear ho hb hg hat))
        go_roundg k1
        case measure => have := HK1.out; omega
        case rel => exact ⟨(y996), (wrap64 (x9_1 + 1)), (Zs), H', ⟨by have := HK1.out; omega⟩, ⟨by (with_reducible repeat (first | apply Kd.R_alloc | apply Kd.R_drewN | apply Kd.R_drew)); exact Kd.R_mono HO998.out (fun _ hk => trivial)⟩, ⟨Zu BK993.out⟩, ⟨Zc2 GE993.out GE995.out⟩⟩
       rw [if_neg c12] at H
       exact absurd H (by simp)
      rw [if_neg c11] at H
      have c11b0 : ((((Qaj l0 x9_1).f0.f0).toList) == a1_0.toList && ((((Qaj l0 x9_1).f0.f1).toList) == a1_1.toList)) = false := by simpa using c11
      (try (have c11b1 : decide ((((Qaj l0 x9_1).f0.f0).toList) = a1_0.toList && ((((Qaj l0 x9_1).f0.f1).toList) == a1_1.toList)) = false := by simpa using c11))
      (try (have c11b2 : ((((Qaj l0 x9_1).f0.f0).toList) == a1_0.toList && ((((Qaj l0 x9_1).f0.f1).toList) == a1_1.toList)) = false := by simpa using c11))
      (try (have c11b3 : ¬ ((((Qaj l0 x9_1).f0.f0).toList) = a1_0.toList && ((((Qaj l0 x9_1).f0.f1).toList) == a1_1.toList)) := by simpa using c11))
      clear c11
      (try simp only [c11b0])
      have H' := Aside0.mk H
      clear H
      go_wp2
      go_roundg k1
      case measure => have := HK1.out; omega
      case rel => exact ⟨(x4_1), (wrap64 (x9_1 + 1)), (Zs), H', ⟨by have := HK1.out; omega⟩, ⟨by (with_reducible repeat (first | apply Kd.R_alloc | apply Kd.R_drewN | apply Kd.R_drew)); exact Kd.R_mono (Zf gb995 3 (Zf gb995 2 (Zf gb995 1 (Zf gb995 0 (Kd.R_mono HO_4.out (fun k_ hk => (⟨hk, hk.2⟩ : _ ∧ k_ ≠ gb995))) (.string ((Qaj l0 x9_1).f0.f0))) (.string ((Qaj l0 x9_1).f0.f1))) (.string ((Qaj l0 x9_1).f1))) (.int .i64 ((Qaj l0 x9_1).f2))) (fun _ hk => trivial)⟩, ⟨Zg4 BK993.out NB993_995.out NB993_995.out NB993_995.out NB993_995.out⟩, ⟨Zc2 GE993.out GE995.out⟩⟩
     rw [if_neg c6] at H
     exact absurd H (by simp)
    rw [if_neg c5] at H
    exact absurd H (by simp)
   rw [if_neg c4] at H
   have c4b0 : decide (x9_1 < (l0.length : Int)) = false := decide_eq_false c4
   clear c4
   (try simp only [c4b0])
   obtain rfl := Option.some.inj H
   go_wp2
   go_ret
   exact ⟨_, Zq, Zr HO_4.out, Zc1 GE993.out⟩
def Qbd.l0 : Nat → List Int → List (S226) → Int → Int → ByteArray → ByteArray → Option (Int × Int)
 | 0, _, _, _, _, _, _ => none
 | k + 1, x6, x14, x15, x16, x1117000, x1117001 => if x16 < x15 then (if 0 ≤ x16 then (if x16 < (x14.length : Int) then (if ((((Qan x14 x16).f1.f0).toList) == x1117000.toList && ((((Qan x14 x16).f1.f1).toList) == x1117001.toList)) = true then ((Qbr.f ((Qan x14 x16).f0) ((Qan x14 x16).f1.f0) ((Qan x14 x16).f1.f1) ((Qan x14 x16).f2) ((Qan x14 x16).f3) ((Qan x14 x16).f4)).bind fun t1120 => (if x6.length < 17592186044416 then (Qbd.l0 k (x6 ++ [t1120]) x14 x15 (wrap64 (x16 + 1)) x1117000 x1117001) else (none))) else (Qbd.l0 k x6 x14 x15 (wrap64 (x16 + 1)) x1117000 x1117001)) else (none)) else (none)) else ((Qa1.f k x6).bind fun bt1124 => (some (bt1124.1, bt1124.2)))
def Qbd.f (k : Nat) (l0 : List (S226)) (a1_0 : ByteArray) (a1_1 : ByteArray) : Option (Int × Int) := (QaL.f k l0).bind fun t1117 => (if t1117 = 0 then (Qbd.l0 k ([] : List Int) l0 (l0.length : Int) 0 a1_0 a1_1) else (some (0, t1117)))
theorem Qbd.mono_l : ∀ k, (∀ y0 y1 y2 y3 y4 y5, LeO (Qbd.l0 k y0 y1 y2 y3 y4 y5) (Qbd.l0 (k + 1) y0 y1 y2 y3 y4 y5))
 | 0 => fun _ _ _ _ _ _ r h => by simp [Qbd.l0] at h
 | k + 1 => by
  have ih0 := Qbd.mono_l k
  intro y0 y1 y2 y3 y4 y5
  unfold Qbd.l0
  exact ZM3 ih0 QaL.mono Qa1.mono
theorem Qbd.mono : ∀ a0 a1 a2 k, LeO (Qbd.f k a0 a1 a2) (Qbd.f (k + 1) a0 a1 a2) := by
 intro a0 a1 a2 k
 have ih0 := Qbd.mono_l k
 unfold Qbd.f
 exact ZM3 ih0 QaL.mono Qa1.mono
theorem Qbd.calls (k : Nat) (A0 : Option Addr) (c0 : Nat) (l0 : List (S226)) (a1_0 : ByteArray) (a1_1 : ByteArray) (r1 : Int) (r2 : Int) (w : World) (hr0 : Kd.C k226 w A0 l0.length l0) (hc0 : l0.length ≤ c0) (h : Qbd.f k l0 a1_0 a1_1 = some (r1, r2)) :
  Calls Try.prog 46 #[.slice A0 l0.length c0, .agg #[.string a1_0, .string a1_1]] w fun e w' => e = .returned (.tuple #[.int .i64 r1, .int .i64 r2]) ∧ Below w.heap.size w w' := by
 have hu81 := Try.underlying81
 have hu226 := Try.underlying226
 have HR0 := Aside0.mk hr0
 have HC0 := Aside0.mk hc0
 clear hr0 hc0
 have HB := Aside0.mk (Below.refl w.heap.size w)
 have H : ((QaL.f k l0).bind fun t1117 => (if t1117 = 0 then (Qbd.l0 k ([] : List Int) l0 (l0.length : Int) 0 a1_0 a1_1) else (some (0, t1117)))) = some (r1, r2) := h
 clear h
 replace H := Option.bind_eq_some_iff.mp H
 obtain ⟨t1117, A30, H⟩ := H
 replace H : (if t1117 = 0 then (Qbd.l0 k ([] : List Int) l0 (l0.length : Int) 0 a1_0 a1_1) else (some (0, t1117))) = some (r1, r2) := H
 have A3 := Aside0.mk A30
 clear A30
 go_enter Try.func46, Try.ntmps46
 go_upto_if 12 with (first | ((with_reducible refine QaT (N := 3) rfl ?_); refine Zbx (N := 3) (cs := #[.string a1_0, .string a1_1]) (t := 81) ?_; intro gb1116 hg w4 hbox hb; have BK1116 := Aside0.mk (hbox); have GW1116 := Aside0.mk (Zt w hg (Zb)); have GE1116 := GW1116; replace HB := Aside0.mk (Qap (Zb) hb); clear hb hbox hg) | ((with_reducible refine Qay (f := 115) rfl ?_); refine goesL_ (some 10) rfl rfl Try.func115 (by kernel_rfl) rfl #[.slice A0 l0.length c0] rfl (Zl) ?_; (with_reducible refine (QaL.calls k _ _ l0 t1117 _ ?side1 ?side2 A3.out).mono ?_); (case side1 => exact Zv (Kd.C_below HR0.out HB.out)); (case side2 => exact HC0.out); rintro e w5 ⟨rfl, hb⟩; refine ⟨_, rfl, ?_⟩; replace BK1116 := Aside0.mk (Zi BK1116.out hb); replace HB := Aside0.mk (Qap (Zc1 GE1116.out) hb); (try clear hb); (try clear hb2); (try clear hk); (try clear hi)))
 (try simp only [Act.put, Zj, Zk, Zm])
 by_cases c6 : t1117 = 0
 ·rw [if_pos c6] at H
  have c6b0 : (t1117 == 0) = true := beq_iff_eq.mpr c6
  have c6b1 : (t1117 != 0) = false := bne_eq_false_iff_eq.mpr c6
  clear c6
  (try simp only [c6b0, c6b1])
  have H' := Aside0.mk H
  clear H
  go_wp2
  go_loopg [6, 16] k (fun kq v6 v16 w' => ∃ (x6_1 : List Int) (x16_1 : Int), v16 = .int .i64 x16_1 ∧ Aside0 (Qbd.l0 kq x6_1 l0 (l0.length : Int) x16_1 a1_0 a1_1 = some (r1, r2)) ∧ Aside0 (kq ≤ k) ∧ Aside0 (Kd.R (Kd.int .i64) 3 w' w.heap.size (fun _ => True) v6 x6_1) ∧ Aside0 (w'.heap[gb1116]? = some (.cells #[.string a1_0, .string a1_1] 81 (0, 0))) ∧ Aside0 (Below w.heap.size w w'))
  case atStart => exact ⟨(([] : List Int)), (0), (Zs), H', ⟨Nat.le_refl _⟩, ⟨by first | exact Kd.R_nil _ _ _ _ _ | exact Kd.N_nil _ _ _ _ _ | exact Kd.V_nil _ _ _ _ _ | exact Kd.Q_nil _ _ _ _ _ | exact Kd.S_nil _ _ _ _ _⟩, ⟨Zu BK1116.out⟩, ⟨Zc1 GE1116.out⟩⟩
  case round =>
   clear H'
   try clear c1
   try clear p2
   try clear c4
   try clear c6
   try clear c6b0
   try clear c6b1
   obtain ⟨x6_1, x16_1, rfl, HA, HK1, HO_6, BK1116, HB⟩ := hrel
   cases gk with
   | zero => exact absurd HA.out (by simp [Qbd.l0])
   | succ k1 =>
    have H := HA.out
    clear HA
    simp only [Qbd.l0] at H
    by_cases c7 : x16_1 < (l0.length : Int)
    ·rw [if_pos c7] at H
     have c7b0 : decide (x16_1 < (l0.length : Int)) = true := decide_eq_true c7
     clear c7
     (try simp only [c7b0])
     by_cases c8 : 0 ≤ x16_1
     ·rw [if_pos c8] at H
      have c8b0 : decide (0 ≤ x16_1) = true := decide_eq_true c8
      clear c8
      by_cases c9 : x16_1 < (l0.length : Int)
      ·rw [if_pos c9] at H
       have c9b0 : decide (x16_1 < (l0.length : Int)) = true := decide_eq_true c9
       clear c9
       have p1118 : 0 ≤ (x16_1 : Int) := Ze
       have q1118 : x16_1 < (l0.length : Int) := Ze
       obtain ⟨ad1118, e1118, hx1118_0, hx1118_1, hx1118_2, hx1118_3, hx1118_4, hx1118_5⟩ := Qb1 HR0.out x16_1 p1118 q1118
       cases e1118
       replace hx1118_0 := Zx HB.out hx1118_0
       replace hx1118_1 := Zx HB.out hx1118_1
       replace hx1118_2 := Zx HB.out hx1118_2
       replace hx1118_3 := Zx HB.out hx1118_3
       replace hx1118_4 := Zx HB.out hx1118_4
       replace hx1118_5 := Zx HB.out hx1118_5
       replace p1118 := eq_true p1118
       replace q1118 := eq_true q1118
       go_upto_if 23 with (first | ((with_reducible refine QaT (N := 8) rfl ?_); refine Zbx (N := 8) (cs := #[.int .i64 0, .string (⟨#[]⟩ : ByteArray), .string (⟨#[]⟩ : ByteArray), .int .i64 0, .int .i64 0, .int .i64 0]) (t := 226) ?_; intro gb1119 hg w10 hbox hb; have BK1119 := Aside0.mk (hbox); have GW1119 := Aside0.mk (Zt w hg (Zc1 GE1116.out)); have GE1119 := GW1119; have NB1116_1119 := Aside0.mk (Zn hg BK1116.out); have NB1119_1116 := Aside0.mk NB1116_1119.out.symm; replace HO_6 := Aside0.mk (Kd.R_below (Zr HO_6.out) hb); replace BK1116 := Aside0.mk (Zi BK1116.out hb); replace HB := Aside0.mk (Qap (Zc1 GE1116.out) hb); clear hb hbox hg; have hnb11 := NB1119_1116.out; have hnc11 := NB1116_1119.out; obtain ⟨hcz12_0, hfz12_0⟩ := Zy (v := (.int .i64 0)) BK1119.out 0; obtain ⟨hcz12_1, hfz12_1⟩ := Zy (v := (.string (⟨#[]⟩ : ByteArray))) BK1119.out 1; obtain ⟨hcz12_2, hfz12_2⟩ := Zy (v := (.string (⟨#[]⟩ : ByteArray))) BK1119.out 2; obtain ⟨hcz12_3, hfz12_3⟩ := Zy (v := (.int .i64 0)) BK1119.out 3; obtain ⟨hcz12_4, hfz12_4⟩ := Zy (v := (.int .i64 0)) BK1119.out 4; obtain ⟨hcz12_5, hfz12_5⟩ := Zy (v := (.int .i64 0)) BK1119.out 5; obtain ⟨hcz13_0, hfz13_0⟩ := Zy (v := (.string a1_0)) BK1116.out 0; obtain ⟨hcz13_1, hfz13_1⟩ := Zy (v := (.string a1_1)) BK1116.out 1))
       (try simp only [Act.put, Zj, Zk, Zm])
       by_cases c14 : ((((Qan l0 x16_1).f1.f0).toList) == a1_0.toList && ((((Qan l0 x16_1).f1.f1).toList) == a1_1.toList)) = true
       ·rw [if_pos c14] at H
        have c14b0 : ((((Qan l0 x16_1).f1.f0).toList) == a1_0.toList && ((((Qan l0 x16_1).f1.f1).toList) == a1_1.toList)) = true := c14
        (try (have c14b1 : decide ((((Qan l0 x16_1).f1.f0).toList) = a1_0.toList && ((((Qan l0 x16_1).f1.f1).toList) == a1_1.toList)) = true := by simpa using c14))
        (try (have c14b2 : ((((Qan l0 x16_1).f1.f0).toList) == a1_0.toList && ((((Qan l0 x16_1).f1.f1).toList) == a1_1.toList)) = true := by simpa using c14))
        clear c14
        (try simp only [c14b0])
        replace H := Option.bind_eq_some_iff.mp H
        obtain ⟨t1120, A150, H⟩ := H
        replace H : (if x6_1.length < 17592186044416 then (Qbd.l0 k1 (x6_1 ++ [t1120]) l0 (l0.length : Int) (wrap64 (x16_1 + 1)) a1_0 a1_1) else (none)) = some (r1, r2) := H
        have A15 := Aside0.mk A150
        clear A150
        by_cases c16 : x6_1.length < 17592186044416
        ·rw [if_pos c16] at H
         have LMc16 := Aside0.mk c16
         clear c16
         obtain ⟨y1121, hy1121⟩ : ∃ y_ : List Int, y_ = (x6_1 ++ [t1120]) := ⟨_, rfl⟩
         replace H : (Qbd.l0 k1 y1121 l0 (l0.length : Int) (wrap64 (x16_1 + 1)) a1_0 a1_1) = some (r1, r2) := by first | (rw [hy1121]; with_reducible exact H) | (have H2_ := (Option.bind_some _ _).symm.trans H; rw [hy1121]; with_reducible exact H2_) | (have H2_ := (Option.bind_some _ _).symm.trans H; with_reducible exact H2_) | with_reducible exact H | (rw [hy1121]; exact H) | exact H
         have Ny1121 := Aside0.mk hy1121
         clear hy1121
         have H' := Aside0.mk H
         clear H
         have hnb17 := NB1119_1116.out
         have hnc17 := NB1116_1119.out
         obtain ⟨hcz18_0, hfz18_0⟩ := Zy (v := (.int .i64 0)) BK1119.out 0
         obtain ⟨hcz18_1, hfz18_1⟩ := Zy (v := (.string (⟨#[]⟩ : ByteArray))) BK1119.out 1
         obtain ⟨hcz18_2, hfz18_2⟩ := Zy (v := (.string (⟨#[]⟩ : ByteArray))) BK1119.out 2
         obtain ⟨hcz18_3, hfz18_3⟩ := Zy (v := (.int .i64 0)) BK1119.out 3
         obtain ⟨hcz18_4, hfz18_4⟩ := Zy (v := (.int .i64 0)) BK1119.out 4
         obtain ⟨hcz18_5, hfz18_5⟩ := Zy (v := (.int .i64 0)) BK1119.out 5
         go_wp2_with (first | ((with_reducible refine Qay (f := 121) rfl ?_); refine goesL_ (some 26) rfl rfl Try.func121 (by kernel_rfl) rfl #[.agg #[.int .i64 ((Qan l0 x16_1).f0), .string ((Qan l0 x16_1).f1.f0), .string ((Qan l0 x16_1).f1.f1), .int .i64 ((Qan l0 x16_1).f2), .int .i64 ((Qan l0 x16_1).f3), .int .i64 ((Qan l0 x16_1).f4)]] rfl (Zl) ?_; (with_reducible refine (Qbr.calls ((Qan l0 x16_1).f0) ((Qan l0 x16_1).f1.f0) ((Qan l0 x16_1).f1.f1) ((Qan l0 x16_1).f2) ((Qan l0 x16_1).f3) ((Qan l0 x16_1).f4) t1120 _ A15.out).mono ?_); rintro e w19 ⟨rfl, hb⟩; refine ⟨_, rfl, ?_⟩; replace HO_6 := Aside0.mk (Kd.R_below (by (with_reducible repeat (first | apply Kd.R_alloc | apply Kd.R_drewN | apply Kd.R_drew)); exact (Kd.R_mono (Zf gb1119 5 (Zf gb1119 4 (Zf gb1119 3 (Zf gb1119 2 (Zf gb1119 1 (Zf gb1119 0 (Kd.R_types HO_6.out BK1119.out (by decide)) (.int .i64 ((Qan l0 x16_1).f0))) (.string ((Qan l0 x16_1).f1.f0))) (.string ((Qan l0 x16_1).f1.f1))) (.int .i64 ((Qan l0 x16_1).f2))) (.int .i64 ((Qan l0 x16_1).f3))) (.int .i64 ((Qan l0 x16_1).f4))) (fun _ h_ => h_.1))) hb); replace BK1116 := Aside0.mk (Qam (g := gb1116) (o := .cells #[.string a1_0, .string a1_1] 81 (0, 0)) (Zg6 BK1116.out NB1116_1119.out NB1116_1119.out NB1116_1119.out NB1116_1119.out NB1116_1119.out NB1116_1119.out) hb); replace BK1119 := Aside0.mk (Zpi #[.int .i64 ((Qan l0 x16_1).f0), .string ((Qan l0 x16_1).f1.f0), .string ((Qan l0 x16_1).f1.f1), .int .i64 ((Qan l0 x16_1).f2), .int .i64 ((Qan l0 x16_1).f3), .int .i64 ((Qan l0 x16_1).f4)] BK1119.out hb); replace HB := Aside0.mk (Qap (Zc2 GE1116.out GE1119.out) hb); (try clear hb); (try clear hb2); (try clear hk); (try clear hi)) | ((with_reducible refine QbK (b := .append) (xs := #[.tmp 24, .tmp 27]) rfl ?_); at_builtin; refine Kd.R_append (Kd.int .i64) (w0 := w) w.heap.size rfl (.tmp 24) (.tmp 27) 32 3 (.int .i64 0) 8 rfl Try.underlying32 info3 rfl (by decide) (by omega) u6 x6_1 t1120 [.int .i64 t1120] (fun _ => True) (fun _ => False) rfl rfl ?aP (fun _ hk => hk.elim) ?aF ?aO ?aB ?aS ?aL ?_; (case aP => exact rfl); (case aB => exact (Zc2 GE1116.out GE1119.out)); (case aF => exact (fun _ _ => trivial)); (case aO => exact (Zr HO_6.out)); (case aS => exact (Qar (Zc2 GE1116.out GE1119.out))); (case aL => have := LMc16.out; omega); intro v1122 w20 ho hb hg hat; rw [← Ny1121.out] at ho; have HO1123 := Aside0.mk (ho); replace BK1116 := Aside0.mk (Qa7 (g := gb1116) (o := .cells #[.string a1_0, .string a1_1] 81 (0, 0)) (Zu BK1116.out) hg (Kd.R_ne HO_6.out BK1116.out (by decide))); replace BK1119 := Aside0.mk (Qa7 (g := gb1119) (o := .cells #[.int .i64 ((Qan l0 x16_1).f0), .string ((Qan l0 x16_1).f1.f0), .string ((Qan l0 x16_1).f1.f1), .int .i64 ((Qan l0 x16_1).f2), .int .i64 ((Qan l0 x16_1).f3), .int .i64 ((Qan l0 x16_1).f4)] 226 (0, 0)) (Zu BK1119.out) hg (Kd.R_ne HO_6.out BK1119.out (by decide))); replace HB := Aside0.mk (hb); clear HO_6; clear ho hb hg hat))
         go_roundg k1
         case measure => have := HK1.out; omega
         case rel => exact ⟨(y1121), (wrap64 (x16_1 + 1)), (Zs), H', ⟨by have := HK1.out; omega⟩, ⟨Zr HO1123.out⟩, ⟨Zu BK1116.out⟩, ⟨Zc2 GE1116.out GE1119.out⟩⟩
        rw [if_neg c16] at H
        exact absurd H (by simp)
       rw [if_neg c14] at H
       have c14b0 : ((((Qan l0 x16_1).f1.f0).toList) == a1_0.toList && ((((Qan l0 x16_1).f1.f1).toList) == a1_1.toList)) = false := by simpa using c14
       (try (have c14b1 : decide ((((Qan l0 x16_1).f1.f0).toList) = a1_0.toList && ((((Qan l0 x16_1).f1.f1).toList) == a1_1.toList)) = false := by simpa using c14))
       (try (have c14b2 : ((((Qan l0 x16_1).f1.f0).toList) == a1_0.toList && ((((Qan l0 x16_1).f1.f1).toList) == a1_1.toList)) = false := by simpa using c14))
       (try (have c14b3 : ¬ ((((Qan l0 x16_1).f1.f0).toList) = a1_0.toList && ((((Qan l0 x16_1).f1.f1).toList) == a1_1.toList)) := by simpa using c14))
       clear c14
       (try simp only [c14b0])
       have H' := Aside0.mk H
       clear H
       go_wp2
       go_roundg k1
       case measure => have := HK1.out; omega
       case rel => exact ⟨(x6_1), (wrap64 (x16_1 + 1)), (Zs), H', ⟨by have := HK1.out; omega⟩, ⟨by (with_reducible repeat (first | apply Kd.R_alloc | apply Kd.R_drewN | apply Kd.R_drew)); exact Kd.R_mono (Zf gb1119 5 (Zf gb1119 4 (Zf gb1119 3 (Zf gb1119 2 (Zf gb1119 1 (Zf gb1119 0 (Kd.R_types HO_6.out BK1119.out (by decide)) (.int .i64 ((Qan l0 x16_1).f0))) (.string ((Qan l0 x16_1).f1.f0))) (.string ((Qan l0 x16_1).f1.f1))) (.int .i64 ((Qan l0 x16_1).f2))) (.int .i64 ((Qan l0 x16_1).f3))) (.int .i64 ((Qan l0 x16_1).f4))) (fun _ hk => trivial)⟩, ⟨Zg6 BK1116.out NB1116_1119.out NB1116_1119.out NB1116_1119.out NB1116_1119.out NB1116_1119.out NB1116_1119.out⟩, ⟨Zc2 GE1116.out GE1119.out⟩⟩
      rw [if_neg c9] at H
      exact absurd H (by simp)
     rw [if_neg c8] at H
     exact absurd H (by simp)
    rw [if_neg c7] at H
    have c7b0 : decide (x16_1 < (l0.length : Int)) = false := decide_eq_false c7
    clear c7
    (try simp only [c7b0])
    replace H := Option.bind_eq_some_iff.mp H
    obtain ⟨⟨t1124, t1125⟩, A210, H⟩ := H
    replace H : (some (t1124, t1125)) = some (r1, r2) := H
    have A21 := Aside0.mk A210
    clear A210
    simp only [Option.some.injEq, Prod.mk.injEq] at H
    obtain ⟨rfl, rfl⟩ := H
    obtain ⟨Ao22, co22, eo22⟩ := Kd.R_slice HO_6.out
    subst eo22
    go_wp2_with (first | ((with_reducible refine Qay (f := 56) rfl ?_); refine goesL_ (some 31) rfl rfl Try.func56 (by kernel_rfl) rfl #[.slice Ao22 x6_1.length co22] rfl (Zl) ?_; (with_reducible refine (Qa1.calls k1 _ _ x6_1 t1124 t1125 _ ?side1 ?side2 A21.out).mono ?_); (case side1 => exact Zv (Kd.R_reads' HO_6.out).2.2); (case side2 => exact (Kd.R_reads' HO_6.out).2.1); rintro e w' ⟨rfl, ⟨nd, rfl⟩⟩; refine ⟨_, rfl, ?_⟩))
    go_ret2
    exact ⟨Zq, Zc1 GE1116.out⟩
 rw [if_neg c6] at H
 have c6b0 : (t1117 == 0) = false := beq_eq_false_iff_ne.mpr c6
 have c6b1 : (t1117 != 0) = true := bne_iff_ne.mpr c6
 (try simp only [c6b0, c6b1])
 simp only [Option.some.injEq, Prod.mk.injEq] at H
 obtain ⟨rfl, rfl⟩ := H
 go_wp2
 go_ret2
 exact ⟨Zq, Zc1 GE1116.out⟩
end Go.Proofs.Ytgnmhfjfefgbfaa.Pr
