/- Functions' values and contracts, as the print wrote them. -/
import Derived.Test.YtfcaaefdmabkhaaQ787P0
namespace Go.Proofs.Ytfcaaefdmabkhaa.Pr
open Bool renaming true → T
open Go.RowKit Go.Proofs.YtfcaaefdmabkhaaW.PrintWords Go.Proofs.YtfcaaefdmabkhaaW.PrintLast Go.Proofs.YtfcaaefdmabkhaaW.PrintMore
attribute [local go_sem] QaP QaR QaW QaX QaL QaM QaQ QaS   -- for this text's walks alone
set_option linter.unusedVariables false
set_option linter.unusedSimpArgs false
set_option maxRecDepth 100000
set_option maxHeartbeats 8000000
attribute [local go_sem high] eqA44
def QaZ.l0 : Nat → List (S46) → List (S46) → Int → Int → ByteArray → ByteArray → Option ((List (S46)))
 | 0, _, _, _, _, _, _ => none
 | k + 1, x4, x7, x8, x9, x198000, x198001 => if x9 < x8 then (if 0 ≤ x9 then (if x9 < (x7.length : Int) then (if ((((rd_T46 x7 x9).f0.f0).toList) == x198000.toList && ((((rd_T46 x7 x9).f0.f1).toList) == x198001.toList)) = T then (if x4.length < 2513169434916 then (QaZ.l0 k (x4 ++ [(⟨(⟨(rd_T46 x7 x9).f0.f0, (rd_T46 x7 x9).f0.f1⟩ : S44), (rd_T46 x7 x9).f1, (rd_T46 x7 x9).f2⟩ : S46)]) x7 x8 (wrap64 (x9 + 1)) x198000 x198001) else (none)) else (QaZ.l0 k x4 x7 x8 (wrap64 (x9 + 1)) x198000 x198001)) else (none)) else (none)) else (some x4)
def QaZ.f (k : Nat) (l0 : List (S46)) (a1_0 : ByteArray) (a1_1 : ByteArray) : Option ((List (S46))) := QaZ.l0 k ([] : List (S46)) l0 (l0.length : Int) 0 a1_0 a1_1
theorem QaZ.mono_l : ∀ k, (∀ y0 y1 y2 y3 y4 y5, LeO (QaZ.l0 k y0 y1 y2 y3 y4 y5) (QaZ.l0 (k + 1) y0 y1 y2 y3 y4 y5))
 | 0 => fun _ _ _ _ _ _ r h => by simp [QaZ.l0] at h
 | k + 1 => by
  have ih0 := QaZ.mono_l k
  intro y0 y1 y2 y3 y4 y5
  unfold QaZ.l0
  exact ZM1 ih0
theorem QaZ.mono : ∀ a0 a1 a2 k, LeO (QaZ.f k a0 a1 a2) (QaZ.f (k + 1) a0 a1 a2) := by
 intro a0 a1 a2 k
 have ih0 := QaZ.mono_l k
 unfold QaZ.f
 exact ZM1 ih0
theorem QaZ.calls (k : Nat) (A0 : Option Addr) (c0 : Nat) (l0 : List (S46)) (a1_0 : ByteArray) (a1_1 : ByteArray) (r : List (S46)) (w : World) (hr0 : Kd.C k46 w A0 l0.length l0) (hc0 : l0.length ≤ c0) (h : QaZ.f k l0 a1_0 a1_1 = some r) :
  Calls Try.prog 86 #[.slice A0 l0.length c0, .agg #[.string a1_0, .string a1_1]] w fun e w' => ∃ v0_ : Value, e = .returned (v0_) ∧ Kd.R k46 46 w' w.heap.size (fun _ => True) v0_ r ∧ Below w.heap.size w w' := by
 have hu44 := Try.underlying44
 have hu46 := Try.underlying46
 have HR0 := Aside0.mk hr0
 have HC0 := Aside0.mk hc0
 clear hr0 hc0
 have HB := Aside0.mk (Below.refl w.heap.size w)
 have H : (QaZ.l0 k ([] : List (S46)) l0 (l0.length : Int) 0 a1_0 a1_1) = some r := h
 clear h
 have H' := Aside0.mk H
 clear H
 go_enter Try.func86, Try.ntmps86
 go_wp2_with (first | ((with_reducible refine QaJ (N := 3) rfl ?_); refine Zbx (N := 3) (cs := #[.string a1_0, .string a1_1]) (t := 44) ?_; intro gb197 hg w3 hbox hb; have BK197 := Aside0.mk (hbox); have GW197 := Aside0.mk (Zt w hg (Zb)); have GE197 := GW197; replace HB := Aside0.mk (Qap (Zb) hb); clear hb hbox hg))
 go_loopg [4, 9] k (fun kq v4 v9 w' => ∃ (x4_1 : List (S46)) (x9_1 : Int), v9 = .int .i64 x9_1 ∧ Aside0 (QaZ.l0 kq x4_1 l0 (l0.length : Int) x9_1 a1_0 a1_1 = some r) ∧ Aside0 (kq ≤ k) ∧ Aside0 (Kd.R k46 46 w' w.heap.size (fun _ => True) v4 x4_1) ∧ Aside0 (w'.heap[gb197]? = some (.cells #[.string a1_0, .string a1_1] 44 (0, 0))) ∧ Aside0 (Below w.heap.size w w'))
 case atStart => exact ⟨(([] : List (S46))), (0), (Zs), H', ⟨Nat.le_refl _⟩, ⟨by first | exact Kd.R_nil _ _ _ _ _ | exact Kd.N_nil _ _ _ _ _ | exact Kd.V_nil _ _ _ _ _ | exact Kd.Q_nil _ _ _ _ _ | exact Kd.S_nil _ _ _ _ _⟩, ⟨Zu BK197.out⟩, ⟨Zc1 GE197.out⟩⟩
 case round =>
  clear H'
  try clear p2
  obtain ⟨x4_1, x9_1, rfl, HA, HK1, HO_4, BK197, HB⟩ := hrel
  cases gk with
  | zero => exact absurd HA.out (by simp [QaZ.l0])
  | succ k1 =>
   have H := HA.out
   clear HA
   simp only [QaZ.l0] at H
   by_cases c4 : x9_1 < (l0.length : Int)
   ·rw [if_pos c4] at H
    have c4b0 : decide (x9_1 < (l0.length : Int)) = T := decide_eq_true c4
    clear c4
    (try simp only [c4b0])
    by_cases c5 : 0 ≤ x9_1
    ·rw [if_pos c5] at H
     have c5b0 : decide (0 ≤ x9_1) = T := decide_eq_true c5
     clear c5
     by_cases c6 : x9_1 < (l0.length : Int)
     ·rw [if_pos c6] at H
      have c6b0 : decide (x9_1 < (l0.length : Int)) = T := decide_eq_true c6
      clear c6
      have p198 : 0 ≤ (x9_1 : Int) := Ze
      have q198 : x9_1 < (l0.length : Int) := Ze
      obtain ⟨ad198, e198, hx198_0, hx198_1, hx198_2, hx198_3⟩ := at_T46 HR0.out x9_1 p198 q198
      cases e198
      replace hx198_0 := Zx HB.out hx198_0
      replace hx198_1 := Zx HB.out hx198_1
      replace hx198_2 := Zx HB.out hx198_2
      replace hx198_3 := Zx HB.out hx198_3
      replace p198 := eq_true p198
      replace q198 := eq_true q198
      go_upto_if 16 with (first | ((with_reducible refine QaJ (N := 6) rfl ?_); refine Zbx (N := 6) (cs := #[.string (⟨#[]⟩ : ByteArray), .string (⟨#[]⟩ : ByteArray), .string (⟨#[]⟩ : ByteArray), .int .i64 0]) (t := 46) ?_; intro gb199 hg w7 hbox hb; have BK199 := Aside0.mk (hbox); have GW199 := Aside0.mk (Zt w hg (Zc1 GE197.out)); have GE199 := GW199; have NB197_199 := Aside0.mk (Zn hg BK197.out); have NB199_197 := Aside0.mk NB197_199.out.symm; replace HO_4 := Aside0.mk (Kd.R_below (Kd.R_elderB (Zr HO_4.out) gb199 (Nat.le_of_eq hg.symm)) hb); replace BK197 := Aside0.mk (Zi BK197.out hb); replace HB := Aside0.mk (Qap (Zc1 GE197.out) hb); clear hb hbox hg; have hnb8 := NB199_197.out; have hnc8 := NB197_199.out; obtain ⟨hcz9_0, hfz9_0⟩ := Zy (v := (.string (⟨#[]⟩ : ByteArray))) BK199.out 0; obtain ⟨hcz9_1, hfz9_1⟩ := Zy (v := (.string (⟨#[]⟩ : ByteArray))) BK199.out 1; obtain ⟨hcz9_2, hfz9_2⟩ := Zy (v := (.string (⟨#[]⟩ : ByteArray))) BK199.out 2; obtain ⟨hcz9_3, hfz9_3⟩ := Zy (v := (.int .i64 0)) BK199.out 3; obtain ⟨hcz10_0, hfz10_0⟩ := Zy (v := (.string a1_0)) BK197.out 0; obtain ⟨hcz10_1, hfz10_1⟩ := Zy (v := (.string a1_1)) BK197.out 1))
      (try simp only [Act.put, Zj, Zk, Zm])
      by_cases c11 : ((((rd_T46 l0 x9_1).f0.f0).toList) == a1_0.toList && ((((rd_T46 l0 x9_1).f0.f1).toList) == a1_1.toList)) = T
      ·rw [if_pos c11] at H
       have c11b0 : ((((rd_T46 l0 x9_1).f0.f0).toList) == a1_0.toList && ((((rd_T46 l0 x9_1).f0.f1).toList) == a1_1.toList)) = T := c11
       (try (have c11b1 : decide ((((rd_T46 l0 x9_1).f0.f0).toList) = a1_0.toList && ((((rd_T46 l0 x9_1).f0.f1).toList) == a1_1.toList)) = T := by simpa using c11))
       (try (have c11b2 : ((((rd_T46 l0 x9_1).f0.f0).toList) == a1_0.toList && ((((rd_T46 l0 x9_1).f0.f1).toList) == a1_1.toList)) = T := by simpa using c11))
       clear c11
       (try simp only [c11b0])
       by_cases c12 : x4_1.length < 2513169434916
       ·rw [if_pos c12] at H
        have LMc12 := Aside0.mk c12
        clear c12
        obtain ⟨y200, hy200⟩ : ∃ y_ : List (S46), y_ = (x4_1 ++ [(⟨(⟨(rd_T46 l0 x9_1).f0.f0, (rd_T46 l0 x9_1).f0.f1⟩ : S44), (rd_T46 l0 x9_1).f1, (rd_T46 l0 x9_1).f2⟩ : S46)]) := ⟨_, rfl⟩
        replace H : (QaZ.l0 k1 y200 l0 (l0.length : Int) (wrap64 (x9_1 + 1)) a1_0 a1_1) = some r := by first | (rw [hy200]; with_reducible exact H) | (have H2_ := (Option.bind_some _ _).symm.trans H; rw [hy200]; with_reducible exact H2_) | (have H2_ := (Option.bind_some _ _).symm.trans H; with_reducible exact H2_) | with_reducible exact H | (rw [hy200]; exact H) | exact H
        have Ny200 := Aside0.mk hy200
        clear hy200
        have H' := Aside0.mk H
        clear H
        have hnb13 := NB199_197.out
        have hnc13 := NB197_199.out
        obtain ⟨hcz14_0, hfz14_0⟩ := Zy (v := (.string (⟨#[]⟩ : ByteArray))) BK199.out 0
        obtain ⟨hcz14_1, hfz14_1⟩ := Zy (v := (.string (⟨#[]⟩ : ByteArray))) BK199.out 1
        obtain ⟨hcz14_2, hfz14_2⟩ := Zy (v := (.string (⟨#[]⟩ : ByteArray))) BK199.out 2
        obtain ⟨hcz14_3, hfz14_3⟩ := Zy (v := (.int .i64 0)) BK199.out 3
        go_wp2_with (first | ((with_reducible refine Qbi (b := .append) (xs := #[.tmp 17, .tmp 19]) rfl ?_); at_builtin; refine Kd.R_append k46 (w0 := w) w.heap.size rfl (.tmp 17) (.tmp 19) 30 46 (.agg #[(.string ⟨#[]⟩), (.string ⟨#[]⟩), (.string ⟨#[]⟩), (.int .i64 0)]) 56 rfl Try.underlying30 info46 rfl (by decide) (by omega) u4 x4_1 (⟨(⟨(rd_T46 l0 x9_1).f0.f0, (rd_T46 l0 x9_1).f0.f1⟩ : S44), (rd_T46 l0 x9_1).f1, (rd_T46 l0 x9_1).f2⟩ : S46) [.string ((rd_T46 l0 x9_1).f0.f0), .string ((rd_T46 l0 x9_1).f0.f1), .string ((rd_T46 l0 x9_1).f1), .int .i64 ((rd_T46 l0 x9_1).f2)] (fun k_ => k_ ≠ gb199) (fun _ => False) rfl (by first | (go_simp; done) | (go_simp; rfl)) ?aP (fun _ hk => hk.elim) ?aF ?aO ?aB ?aS ?aL ?_; (case aP => exact Qcw _ _ _ (⟨(⟨(rd_T46 l0 x9_1).f0.f0, (rd_T46 l0 x9_1).f0.f1⟩ : S44), (rd_T46 l0 x9_1).f1, (rd_T46 l0 x9_1).f2⟩ : S46)); (case aB => exact (Zc2 GE197.out GE199.out)); (case aF => exact (fun k_ hk => Kd.freshB (g := gb199) (o := .cells #[.string ((rd_T46 l0 x9_1).f0.f0), .string ((rd_T46 l0 x9_1).f0.f1), .string ((rd_T46 l0 x9_1).f1), .int .i64 ((rd_T46 l0 x9_1).f2)] 46 (0, 0)) (Zp2 BK199.out) k_ hk)); (case aO => exact (by (with_reducible repeat (first | apply Kd.R_alloc | apply Kd.R_drewN | apply Kd.R_drew)); exact Kd.R_mono (Zf gb199 3 (Zf gb199 2 (Zf gb199 1 (Zf gb199 0 (Kd.R_mono HO_4.out (fun k_ hk => (⟨hk, hk.2⟩ : _ ∧ k_ ≠ gb199))) (.string ((rd_T46 l0 x9_1).f0.f0))) (.string ((rd_T46 l0 x9_1).f0.f1))) (.string ((rd_T46 l0 x9_1).f1))) (.int .i64 ((rd_T46 l0 x9_1).f2))) (fun _ hk => hk.1.2))); (case aS => exact (Qam (Zc2 GE197.out GE199.out))); (case aL => have := LMc12.out; omega); intro v201 w15 ho hb hg hat; rw [← Ny200.out] at ho; have HO202 := Aside0.mk (ho); replace BK197 := Aside0.mk (QaK (g := gb197) (o := .cells #[.string a1_0, .string a1_1] 44 (0, 0)) (Zg4 BK197.out NB197_199.out NB197_199.out NB197_199.out NB197_199.out) hg (Kd.R_ne HO_4.out BK197.out (by decide))); replace BK199 := Aside0.mk (QaK (g := gb199) (o := .cells #[.string ((rd_T46 l0 x9_1).f0.f0), .string ((rd_T46 l0 x9_1).f0.f1), .string ((rd_T46 l0 x9_1).f1), .int .i64 ((rd_T46 l0 x9_1).f2)] 46 (0, 0)) (Zp2 BK199.out) hg (Kd.R_away HO_4.out (fun _ hk => hk.2))); replace HB := Aside0.mk (hb); clear HO_4; clear ho hb hg hat))
        go_roundg k1
        case measure => have := HK1.out; omega
        case rel => exact ⟨(y200), (wrap64 (x9_1 + 1)), (Zs), H', ⟨by have := HK1.out; omega⟩, ⟨by (with_reducible repeat (first | apply Kd.R_alloc | apply Kd.R_drewN | apply Kd.R_drew)); exact Kd.R_mono HO202.out (fun _ hk => trivial)⟩, ⟨Zu BK197.out⟩, ⟨Zc2 GE197.out GE199.out⟩⟩
       rw [if_neg c12] at H
       exact absurd H (by simp)
      rw [if_neg c11] at H
      have c11b0 : ((((rd_T46 l0 x9_1).f0.f0).toList) == a1_0.toList && ((((rd_T46 l0 x9_1).f0.f1).toList) == a1_1.toList)) = false := by simpa using c11
      (try (have c11b1 : decide ((((rd_T46 l0 x9_1).f0.f0).toList) = a1_0.toList && ((((rd_T46 l0 x9_1).f0.f1).toList) == a1_1.toList)) = false := by simpa using c11))
      (try (have c11b2 : ((((rd_T46 l0 x9_1).f0.f0).toList) == a1_0.toList && ((((rd_T46 l0 x9_1).f0.f1).toList) == a1_1.toList)) = false := by simpa using c11))
      (try (have c11b3 : ¬ ((((rd_T46 l0 x9_1).f0.f0).toList) = a1_0.toList && ((((rd_T46 l0 x9_1).f0.f1).toList) == a1_1.toList)) := by simpa using c11))
      clear c11
      (try simp only [c11b0])
      have H' := Aside0.mk H
      clear H
      go_wp2
      go_roundg k1
      case measure => have := HK1.out; omega
      case rel => exact ⟨(x4_1), (wrap64 (x9_1 + 1)), (Zs), H', ⟨by have := HK1.out; omega⟩, ⟨by (with_reducible repeat (first | apply Kd.R_alloc | apply Kd.R_drewN | apply Kd.R_drew)); exact Kd.R_mono (Zf gb199 3 (Zf gb199 2 (Zf gb199 1 (Zf gb199 0 (Kd.R_mono HO_4.out (fun k_ hk => (⟨hk, hk.2⟩ : _ ∧ k_ ≠ gb199))) (.string ((rd_T46 l0 x9_1).f0.f0))) (.string ((rd_T46 l0 x9_1).f0.f1))) (.string ((rd_T46 l0 x9_1).f1))) (.int .i64 ((rd_T46 l0 x9_1).f2))) (fun _ hk => trivial)⟩, ⟨Zg4 BK197.out NB197_199.out NB197_199.out NB197_199.out NB197_199.out⟩, ⟨Zc2 GE197.out GE199.out⟩⟩
     rw [if_neg c6] at H
     exact absurd H (by simp)
    rw [if_neg c5] at H
    exact absurd H (by simp)
   rw [if_neg c4] at H
   have c4b0 : decide (x9_1 < (l0.length : Int)) = false := decide_eq_false c4
   clear c4
   (try simp only [c4b0])
   obtain rfl := Option.some.inj H
   go_wp2
   go_ret
   exact ⟨_, Zq, Zr HO_4.out, Zc1 GE197.out⟩
mutual
def Qav.l0 : Nat → List (S50) → List (S100) → Int → Option (Bool)
 | 0, _, _, _ => none
 | k + 1, x0, x1, x5 => if x5 < (x0.length : Int) then (Qav.j1 k x0 x1 x5 (decide (x5 < (x1.length : Int)))) else (Qav.j1 k x0 x1 x5 false)
def Qav.j1 : Nat → List (S50) → List (S100) → Int → Bool → Option (Bool)
 | 0, _, _, _, _ => none
 | k + 1, x0, x1, x5, x15 => if x15 = T then (if 0 ≤ x5 then (if x5 < (x0.length : Int) then (if x5 < (x1.length : Int) then (if (!((((rd_T50 x0 x5).f0.f0).toList) == (((Qas x1 x5).f0.f0).toList)) || (!((((rd_T50 x0 x5).f0.f1).toList) == (((Qas x1 x5).f0.f1).toList)))) = T then (some false) else (if ((rd_T50 x0 x5).f1) = ((Qas x1 x5).f1) then (if ((rd_T50 x0 x5).f2) = ((Qas x1 x5).f2) then (if ((rd_T50 x0 x5).f3) = ((Qas x1 x5).f3) then (Qav.l0 k x0 x1 (wrap64 (x5 + 1))) else (some false)) else (some false)) else (some false))) else (none)) else (none)) else (none)) else (some ((x0.length : Int) == (x1.length : Int)))
end
def Qav.f (k : Nat) (l0 : List (S50)) (l1 : List (S100)) : Option (Bool) := Qav.l0 k l0 l1 0
theorem Qav.mono_l : ∀ k, (∀ y0 y1 y2, LeO (Qav.l0 k y0 y1 y2) (Qav.l0 (k + 1) y0 y1 y2)) ∧ (∀ y0 y1 y2 y3, LeO (Qav.j1 k y0 y1 y2 y3) (Qav.j1 (k + 1) y0 y1 y2 y3))
 | 0 => ⟨fun _ _ _ r h => by simp [Qav.l0] at h, fun _ _ _ _ r h => by simp [Qav.j1] at h⟩
 | k + 1 => by
  obtain ⟨ih0, ih1⟩ := Qav.mono_l k
  refine ⟨?_, ?_⟩
  ·intro y0 y1 y2
   unfold Qav.l0
   exact ZM2 ih0 ih1
  intro y0 y1 y2 y3
  unfold Qav.j1
  exact ZM2 ih0 ih1
theorem Qav.mono : ∀ a0 a1 k, LeO (Qav.f k a0 a1) (Qav.f (k + 1) a0 a1) := by
 intro a0 a1 k
 obtain ⟨ih0, ih1⟩ := Qav.mono_l k
 unfold Qav.f
 exact ZM2 ih0 ih1
theorem Qav.calls (k : Nat) (A0 : Option Addr) (c0 : Nat) (l0 : List (S50)) (A1 : Option Addr) (c1 : Nat) (l1 : List (S100)) (r : Bool) (w : World) (hr0 : Kd.C k50 w A0 l0.length l0) (hc0 : l0.length ≤ c0) (hr1 : Kd.C k100 w A1 l1.length l1) (hc1 : l1.length ≤ c1) (h : Qav.f k l0 l1 = some r) :
  Calls Try.prog 20 #[.slice A0 l0.length c0, .slice A1 l1.length c1] w fun e w' => e = .returned (.bool r) ∧ Drawn0 w w' := by
 have hu44 := Try.underlying44
 have HR0 := Aside0.mk hr0
 have HC0 := Aside0.mk hc0
 clear hr0 hc0
 have HR1 := Aside0.mk hr1
 have HC1 := Aside0.mk hc1
 clear hr1 hc1
 have H : (Qav.l0 k l0 l1 0) = some r := h
 clear h
 have H' := Aside0.mk H
 clear H
 go_enter Try.func20, Try.ntmps20
 go_wp2
 repeat (go_quiet (fail); try go_wp2)
 go_loopg [5] k (fun kq v5 w' => ∃ (x5_1 : Int), v5 = .int .i64 x5_1 ∧ Aside0 (Qav.l0 kq l0 l1 x5_1 = some r) ∧ Aside0 (kq ≤ k) ∧ Drawn0 w w')
 case atStart => exact ⟨(0), (Zs), H', ⟨Nat.le_refl _⟩, Zd⟩
 case round =>
  clear H'
  try clear c1
  try clear c2
  try clear p2
  obtain ⟨x5_1, rfl, HA, HK1, ⟨m1, rfl⟩⟩ := hrel
  cases gk with
  | zero => exact absurd HA.out (by simp [Qav.l0])
  | succ k1 =>
   have H := HA.out
   clear HA
   simp only [Qav.l0] at H
   have HC3 := Aside0.mk H
   clear H
   go_upto_region 2 with (fail)
   repeat (go_quiet (fail); go_upto_region 2 with (fail))
   go_cut [15] (fun v15 wc => ∃ (kq : Nat) (x15_2 : Bool), v15 = .bool x15_2 ∧ Aside0 (Qav.j1 kq l0 l1 x5_1 x15_2 = some r) ∧ Aside0 (kq ≤ k1) ∧ Drawn0 w wc)
   case first =>
    have H := HC3.out
    clear HC3
    by_cases c4 : x5_1 < (l0.length : Int)
    ·rw [if_pos c4] at H
     have c4b0 : decide (x5_1 < (l0.length : Int)) = T := decide_eq_true c4
     clear c4
     have H' := Aside0.mk H
     clear H
     go_wp2
     repeat (go_quiet (fail); try go_wp2)
     go_meet
     case rel => exact ⟨_, (decide (x5_1 < (l1.length : Int))), (Zs), H', ⟨by have := HK1.out; first | omega | exact Nat.le_refl _⟩, Zd⟩
    rw [if_neg c4] at H
    have c4b0 : decide (x5_1 < (l0.length : Int)) = false := decide_eq_false c4
    clear c4
    have H' := Aside0.mk H
    clear H
    go_wp2
    repeat (go_quiet (fail); try go_wp2)
    go_meet
    case rel => exact ⟨_, (false), (Zs), H', ⟨by have := HK1.out; first | omega | exact Nat.le_refl _⟩, Zd⟩
   case rest =>
    clear HC3
    try clear c1
    try clear c2
    try clear p2
    try clear c4
    try clear c4b0
    try clear p2
    obtain ⟨kq, x15_2, rfl, HA, HJ2, ⟨mc2, rfl⟩⟩ := hcut
    cases kq with
    | zero => exact absurd HA.out (by simp [Qav.j1])
    | succ kj2 =>
     have H := HA.out
     clear HA
     simp only [Qav.j1] at H
     by_cases c5 : x15_2 = T
     ·subst c5
      have H1 : (if 0 ≤ x5_1 then (if x5_1 < (l0.length : Int) then (if x5_1 < (l1.length : Int) then (if (!((((rd_T50 l0 x5_1).f0.f0).toList) == (((Qas l1 x5_1).f0.f0).toList)) || (!((((rd_T50 l0 x5_1).f0.f1).toList) == (((Qas l1 x5_1).f0.f1).toList)))) = T then (some false) else (if ((rd_T50 l0 x5_1).f1) = ((Qas l1 x5_1).f1) then (if ((rd_T50 l0 x5_1).f2) = ((Qas l1 x5_1).f2) then (if ((rd_T50 l0 x5_1).f3) = ((Qas l1 x5_1).f3) then (Qav.l0 kj2 l0 l1 (wrap64 (x5_1 + 1))) else (some false)) else (some false)) else (some false))) else (none)) else (none)) else (none)) = some r := by rw [if_pos rfl] at H; exact H
      clear H
      have H := H1
      clear H1
      by_cases c6 : 0 ≤ x5_1
      ·rw [if_pos c6] at H
       have c6b0 : decide (0 ≤ x5_1) = T := decide_eq_true c6
       clear c6
       by_cases c7 : x5_1 < (l0.length : Int)
       ·rw [if_pos c7] at H
        have c7b0 : decide (x5_1 < (l0.length : Int)) = T := decide_eq_true c7
        clear c7
        by_cases c8 : x5_1 < (l1.length : Int)
        ·rw [if_pos c8] at H
         have c8b0 : decide (x5_1 < (l1.length : Int)) = T := decide_eq_true c8
         clear c8
         by_cases c9 : (!((((rd_T50 l0 x5_1).f0.f0).toList) == (((Qas l1 x5_1).f0.f0).toList)) || (!((((rd_T50 l0 x5_1).f0.f1).toList) == (((Qas l1 x5_1).f0.f1).toList)))) = T
         ·rw [if_pos c9] at H
          have c9b0 : (!((((rd_T50 l0 x5_1).f0.f0).toList) == (((Qas l1 x5_1).f0.f0).toList)) || (!((((rd_T50 l0 x5_1).f0.f1).toList) == (((Qas l1 x5_1).f0.f1).toList)))) = T := c9
          clear c9
          obtain rfl := Option.some.inj H
          have p474 : 0 ≤ (x5_1 : Int) := Ze
          have q474 : x5_1 < (l0.length : Int) := Ze
          obtain ⟨ad474, e474, hx474_0, hx474_1, hx474_2, hx474_3, hx474_4⟩ := at_T50 HR0.out x5_1 p474 q474
          cases e474
          replace p474 := eq_true p474
          replace q474 := eq_true q474
          have p475 : 0 ≤ (x5_1 : Int) := Ze
          have q475 : x5_1 < (l1.length : Int) := Ze
          obtain ⟨ad475, e475, hx475_0, hx475_1, hx475_2, hx475_3, hx475_4⟩ := Qbn HR1.out x5_1 p475 q475
          cases e475
          replace p475 := eq_true p475
          replace q475 := eq_true q475
          go_wp2
          repeat (go_quiet (fail); try go_wp2)
          go_ret
          exact ⟨Zs, Zd⟩
         rw [if_neg c9] at H
         have c9b0 : (!((((rd_T50 l0 x5_1).f0.f0).toList) == (((Qas l1 x5_1).f0.f0).toList)) || (!((((rd_T50 l0 x5_1).f0.f1).toList) == (((Qas l1 x5_1).f0.f1).toList)))) = false := by simpa using c9
         clear c9
         by_cases c10 : ((rd_T50 l0 x5_1).f1) = ((Qas l1 x5_1).f1)
         ·rw [if_pos c10] at H
          have c10b0 : (((rd_T50 l0 x5_1).f1) == ((Qas l1 x5_1).f1)) = T := beq_iff_eq.mpr c10
          have c10b1 : (((rd_T50 l0 x5_1).f1) != ((Qas l1 x5_1).f1)) = false := bne_eq_false_iff_eq.mpr c10
          clear c10
          by_cases c11 : ((rd_T50 l0 x5_1).f2) = ((Qas l1 x5_1).f2)
          ·rw [if_pos c11] at H
           have c11b0 : (((rd_T50 l0 x5_1).f2) == ((Qas l1 x5_1).f2)) = T := beq_iff_eq.mpr c11
           have c11b1 : (((rd_T50 l0 x5_1).f2) != ((Qas l1 x5_1).f2)) = false := bne_eq_false_iff_eq.mpr c11
           clear c11
           have p474 : 0 ≤ (x5_1 : Int) := Ze
           have q474 : x5_1 < (l0.length : Int) := Ze
           obtain ⟨ad474, e474, hx474_0, hx474_1, hx474_2, hx474_3, hx474_4⟩ := at_T50 HR0.out x5_1 p474 q474
           cases e474
           replace p474 := eq_true p474
           replace q474 := eq_true q474
           have p475 : 0 ≤ (x5_1 : Int) := Ze
           have q475 : x5_1 < (l1.length : Int) := Ze
           obtain ⟨ad475, e475, hx475_0, hx475_1, hx475_2, hx475_3, hx475_4⟩ := Qbn HR1.out x5_1 p475 q475
           cases e475
           replace p475 := eq_true p475
           replace q475 := eq_true q475
           have p476 : 0 ≤ (x5_1 : Int) := Ze
           have q476 : x5_1 < (l0.length : Int) := Ze
           obtain ⟨ad476, e476, hx476_0, hx476_1, hx476_2, hx476_3, hx476_4⟩ := at_T50 HR0.out x5_1 p476 q476
           obtain rfl : ad474 = ad476 := (by injection e476)
           replace p476 := eq_true p476
           replace q476 := eq_true q476
           have p477 : 0 ≤ (x5_1 : Int) := Ze
           have q477 : x5_1 < (l1.length : Int) := Ze
           obtain ⟨ad477, e477, hx477_0, hx477_1, hx477_2, hx477_3, hx477_4⟩ := Qbn HR1.out x5_1 p477 q477
           obtain rfl : ad475 = ad477 := (by injection e477)
           replace p477 := eq_true p477
           replace q477 := eq_true q477
           have p478 : 0 ≤ (x5_1 : Int) := Ze
           have q478 : x5_1 < (l0.length : Int) := Ze
           obtain ⟨ad478, e478, hx478_0, hx478_1, hx478_2, hx478_3, hx478_4⟩ := at_T50 HR0.out x5_1 p478 q478
           obtain rfl : ad474 = ad478 := (by injection e478)
           replace p478 := eq_true p478
           replace q478 := eq_true q478
           have p479 : 0 ≤ (x5_1 : Int) := Ze
           have q479 : x5_1 < (l1.length : Int) := Ze
           obtain ⟨ad479, e479, hx479_0, hx479_1, hx479_2, hx479_3, hx479_4⟩ := Qbn HR1.out x5_1 p479 q479
           obtain rfl : ad475 = ad479 := (by injection e479)
           replace p479 := eq_true p479
           replace q479 := eq_true q479
           have p480 : 0 ≤ (x5_1 : Int) := Ze
           have q480 : x5_1 < (l0.length : Int) := Ze
           obtain ⟨ad480, e480, hx480_0, hx480_1, hx480_2, hx480_3, hx480_4⟩ := at_T50 HR0.out x5_1 p480 q480
           obtain rfl : ad474 = ad480 := (by injection e480)
           replace p480 := eq_true p480
           replace q480 := eq_true q480
           have p481 : 0 ≤ (x5_1 : Int) := Ze
           have q481 : x5_1 < (l1.length : Int) := Ze
           obtain ⟨ad481, e481, hx481_0, hx481_1, hx481_2, hx481_3, hx481_4⟩ := Qbn HR1.out x5_1 p481 q481
           obtain rfl : ad475 = ad481 := (by injection e481)
           replace p481 := eq_true p481
           replace q481 := eq_true q481
           go_upto_if 67 with (fail)
           repeat (go_quiet (fail); go_upto_if 67 with (fail))
           by_cases c12 : ((rd_T50 l0 x5_1).f3) = ((Qas l1 x5_1).f3)
           ·rw [if_pos c12] at H
            have c12b0 : (((rd_T50 l0 x5_1).f3) == ((Qas l1 x5_1).f3)) = T := beq_iff_eq.mpr c12
            have c12b1 : (((rd_T50 l0 x5_1).f3) != ((Qas l1 x5_1).f3)) = false := bne_eq_false_iff_eq.mpr c12
            clear c12
            (try simp only [c12b0, c12b1])
            have H' := Aside0.mk H
            clear H
            go_wp2
            repeat (go_quiet (fail); try go_wp2)
            go_roundg kj2
            case measure => have := HK1.out; have := HJ2.out; omega
            case rel => exact ⟨(wrap64 (x5_1 + 1)), (Zs), H', ⟨by have := HK1.out; have := HJ2.out; omega⟩, Zd⟩
           rw [if_neg c12] at H
           have c12b0 : (((rd_T50 l0 x5_1).f3) == ((Qas l1 x5_1).f3)) = false := beq_eq_false_iff_ne.mpr c12
           have c12b1 : (((rd_T50 l0 x5_1).f3) != ((Qas l1 x5_1).f3)) = T := bne_iff_ne.mpr c12
           (try simp only [c12b0, c12b1])
           obtain rfl := Option.some.inj H
           go_wp2
           repeat (go_quiet (fail); try go_wp2)
           go_ret
           exact ⟨Zs, Zd⟩
          rw [if_neg c11] at H
          have c11b0 : (((rd_T50 l0 x5_1).f2) == ((Qas l1 x5_1).f2)) = false := beq_eq_false_iff_ne.mpr c11
          have c11b1 : (((rd_T50 l0 x5_1).f2) != ((Qas l1 x5_1).f2)) = T := bne_iff_ne.mpr c11
          obtain rfl := Option.some.inj H
          have p474 : 0 ≤ (x5_1 : Int) := Ze
          have q474 : x5_1 < (l0.length : Int) := Ze
          obtain ⟨ad474, e474, hx474_0, hx474_1, hx474_2, hx474_3, hx474_4⟩ := at_T50 HR0.out x5_1 p474 q474
          cases e474
          replace p474 := eq_true p474
          replace q474 := eq_true q474
          have p475 : 0 ≤ (x5_1 : Int) := Ze
          have q475 : x5_1 < (l1.length : Int) := Ze
          obtain ⟨ad475, e475, hx475_0, hx475_1, hx475_2, hx475_3, hx475_4⟩ := Qbn HR1.out x5_1 p475 q475
          cases e475
          replace p475 := eq_true p475
          replace q475 := eq_true q475
          have p476 : 0 ≤ (x5_1 : Int) := Ze
          have q476 : x5_1 < (l0.length : Int) := Ze
          obtain ⟨ad476, e476, hx476_0, hx476_1, hx476_2, hx476_3, hx476_4⟩ := at_T50 HR0.out x5_1 p476 q476
          obtain rfl : ad474 = ad476 := (by injection e476)
          replace p476 := eq_true p476
          replace q476 := eq_true q476
          have p477 : 0 ≤ (x5_1 : Int) := Ze
          have q477 : x5_1 < (l1.length : Int) := Ze
          obtain ⟨ad477, e477, hx477_0, hx477_1, hx477_2, hx477_3, hx477_4⟩ := Qbn HR1.out x5_1 p477 q477
          obtain rfl : ad475 = ad477 := (by injection e477)
          replace p477 := eq_true p477
          replace q477 := eq_true q477
          have p478 : 0 ≤ (x5_1 : Int) := Ze
          have q478 : x5_1 < (l0.length : Int) := Ze
          obtain ⟨ad478, e478, hx478_0, hx478_1, hx478_2, hx478_3, hx478_4⟩ := at_T50 HR0.out x5_1 p478 q478
          obtain rfl : ad474 = ad478 := (by injection e478)
          replace p478 := eq_true p478
          replace q478 := eq_true q478
          have p479 : 0 ≤ (x5_1 : Int) := Ze
          have q479 : x5_1 < (l1.length : Int) := Ze
          obtain ⟨ad479, e479, hx479_0, hx479_1, hx479_2, hx479_3, hx479_4⟩ := Qbn HR1.out x5_1 p479 q479
          obtain rfl : ad475 = ad479 := (by injection e479)
          replace p479 := eq_true p479
          replace q479 := eq_true q479
          go_wp2
          repeat (go_quiet (fail); try go_wp2)
          go_ret
          exact ⟨Zs, Zd⟩
         rw [if_neg c10] at H
         have c10b0 : (((rd_T50 l0 x5_1).f1) == ((Qas l1 x5_1).f1)) = false := beq_eq_false_iff_ne.mpr c10
         have c10b1 : (((rd_T50 l0 x5_1).f1) != ((Qas l1 x5_1).f1)) = T := bne_iff_ne.mpr c10
         obtain rfl := Option.some.inj H
         have p474 : 0 ≤ (x5_1 : Int) := Ze
         have q474 : x5_1 < (l0.length : Int) := Ze
         obtain ⟨ad474, e474, hx474_0, hx474_1, hx474_2, hx474_3, hx474_4⟩ := at_T50 HR0.out x5_1 p474 q474
         cases e474
         replace p474 := eq_true p474
         replace q474 := eq_true q474
         have p475 : 0 ≤ (x5_1 : Int) := Ze
         have q475 : x5_1 < (l1.length : Int) := Ze
         obtain ⟨ad475, e475, hx475_0, hx475_1, hx475_2, hx475_3, hx475_4⟩ := Qbn HR1.out x5_1 p475 q475
         cases e475
         replace p475 := eq_true p475
         replace q475 := eq_true q475
         have p476 : 0 ≤ (x5_1 : Int) := Ze
         have q476 : x5_1 < (l0.length : Int) := Ze
         obtain ⟨ad476, e476, hx476_0, hx476_1, hx476_2, hx476_3, hx476_4⟩ := at_T50 HR0.out x5_1 p476 q476
         obtain rfl : ad474 = ad476 := (by injection e476)
         replace p476 := eq_true p476
         replace q476 := eq_true q476
         have p477 : 0 ≤ (x5_1 : Int) := Ze
         have q477 : x5_1 < (l1.length : Int) := Ze
         obtain ⟨ad477, e477, hx477_0, hx477_1, hx477_2, hx477_3, hx477_4⟩ := Qbn HR1.out x5_1 p477 q477
         obtain rfl : ad475 = ad477 := (by injection e477)
         replace p477 := eq_true p477
         replace q477 := eq_true q477
         go_wp2
         repeat (go_quiet (fail); try go_wp2)
         go_ret
         exact ⟨Zs, Zd⟩
        rw [if_neg c8] at H
        exact absurd H (by simp)
       rw [if_neg c7] at H
       exact absurd H (by simp)
      rw [if_neg c6] at H
      exact absurd H (by simp)
     replace c5 := Bool.eq_false_iff.mpr c5
     subst c5
     have H1 : (some ((l0.length : Int) == (l1.length : Int))) = some r := by rw [if_neg (show ¬ (false = T) by decide)] at H; exact H
     clear H
     have H := H1
     clear H1
     obtain rfl := Option.some.inj H
     go_wp2
     repeat (go_quiet (fail); try go_wp2)
     go_ret
     exact ⟨Zs, Zd⟩
end Go.Proofs.Ytfcaaefdmabkhaa.Pr
