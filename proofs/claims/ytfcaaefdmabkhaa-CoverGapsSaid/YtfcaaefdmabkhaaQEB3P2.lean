/- Functions' values and contracts, as the print wrote them. -/
import Derived.Test.YtfcaaefdmabkhaaQEB3P0
namespace Go.Proofs.Ytfcaaefdmabkhaa.Pr
open Go.RowKit Go.Proofs.YtfcaaefdmabkhaaW.PrintWords Go.Proofs.YtfcaaefdmabkhaaW.PrintLast Go.Proofs.YtfcaaefdmabkhaaW.PrintMore
attribute [local go_sem] QaN QaP QaT QaU QaH QaI QaO QaQ   -- for this text's walks alone
set_option linter.unusedVariables false
set_option linter.unusedSimpArgs false
attribute [local go_sem high] eqA44
def QaM.l0 : Nat → List (S46) → List (S46) → Int → Int → ByteArray → ByteArray → Option ((List (S46)))
 | 0, _, _, _, _, _, _ => none
 | k + 1, x4, x7, x8, x9, x198000, x198001 => if x9 < x8 then (if 0 ≤ x9 then (if x9 < (x7.length : Int) then (if ((((rd_T46 x7 x9).f0.f0).toList) == x198000.toList && ((((rd_T46 x7 x9).f0.f1).toList) == x198001.toList)) = true then (if x4.length < 2513169434916 then (QaM.l0 k (x4 ++ [(⟨(⟨(rd_T46 x7 x9).f0.f0, (rd_T46 x7 x9).f0.f1⟩ : S44), (rd_T46 x7 x9).f1, (rd_T46 x7 x9).f2⟩ : S46)]) x7 x8 (wrap64 (x9 + 1)) x198000 x198001) else (none)) else (QaM.l0 k x4 x7 x8 (wrap64 (x9 + 1)) x198000 x198001)) else (none)) else (none)) else (some x4)
def QaM.f (k : Nat) (l0 : List (S46)) (a1_0 : ByteArray) (a1_1 : ByteArray) : Option ((List (S46))) := QaM.l0 k ([] : List (S46)) l0 (l0.length : Int) 0 a1_0 a1_1
theorem QaM.mono_l : ∀ k, (∀ y0 y1 y2 y3 y4 y5, LeO (QaM.l0 k y0 y1 y2 y3 y4 y5) (QaM.l0 (k + 1) y0 y1 y2 y3 y4 y5))
 | 0 => fun _ _ _ _ _ _ r h => by simp [QaM.l0] at h
 | k + 1 => by
  have ih0 := QaM.mono_l k
  intro y0 y1 y2 y3 y4 y5
  unfold QaM.l0
  exact ZM1 ih0
theorem QaM.mono : ∀ a0 a1 a2 k, LeO (QaM.f k a0 a1 a2) (QaM.f (k + 1) a0 a1 a2) := by
 intro a0 a1 a2 k
 have ih0 := QaM.mono_l k
 unfold QaM.f
 exact ZM1 ih0
set_option maxHeartbeats 8000000 in
set_option maxRecDepth 100000 in
theorem QaM.calls (k : Nat) (A0 : Option Addr) (c0 : Nat) (l0 : List (S46)) (a1_0 : ByteArray) (a1_1 : ByteArray) (r : List (S46)) (w : World) (hr0 : Kd.C k46 w A0 l0.length l0) (hc0 : l0.length ≤ c0) (h : QaM.f k l0 a1_0 a1_1 = some r) :
  Calls Try.prog 86 #[.slice A0 l0.length c0, .agg #[.string a1_0, .string a1_1]] w fun e w' => ∃ v0_ : Value, e = .returned (v0_) ∧ Kd.R k46 46 w' w.heap.size (fun _ => True) v0_ r ∧ Below w.heap.size w w' := by
 have hu44 := Try.underlying44
 have hu46 := Try.underlying46
 have HR0 := Aside0.mk hr0
 have HC0 := Aside0.mk hc0
 clear hr0 hc0
 have HB := Aside0.mk (Below.refl w.heap.size w)
 have H : (QaM.l0 k ([] : List (S46)) l0 (l0.length : Int) 0 a1_0 a1_1) = some r := h
 clear h
 have H' := Aside0.mk H
 clear H
 go_enter Try.func86, Try.ntmps86
 go_wp2_with (first | ((with_reducible refine QaE (N := 3) rfl ?_); refine Zbx (N := 3) (cs := #[.string a1_0, .string a1_1]) (t := 44) ?_; intro gb197 hg w3 hbox hb; have BK197 := Aside0.mk (hbox); have GW197 := Aside0.mk (Zt w hg (Zb)); have GE197 := GW197; replace HB := Aside0.mk (Qaq (Zb) hb); clear hb hbox hg))
 go_loopg [4, 9] k (fun kq v4 v9 w' => ∃ (x4_1 : List (S46)) (x9_1 : Int), v9 = .int .i64 x9_1 ∧ Aside0 (QaM.l0 kq x4_1 l0 (l0.length : Int) x9_1 a1_0 a1_1 = some r) ∧ Aside0 (kq ≤ k) ∧ Aside0 (Kd.R k46 46 w' w.heap.size (fun _ => True) v4 x4_1) ∧ Aside0 (w'.heap[gb197]? = some (.cells #[.string a1_0, .string a1_1] 44 (0, 0))) ∧ Aside0 (Below w.heap.size w w'))
 case atStart => exact ⟨(([] : List (S46))), (0), (Zs), H', ⟨Nat.le_refl _⟩, ⟨by first | exact Kd.R_nil _ _ _ _ _ | exact Kd.N_nil _ _ _ _ _ | exact Kd.V_nil _ _ _ _ _ | exact Kd.Q_nil _ _ _ _ _ | exact Kd.S_nil _ _ _ _ _⟩, ⟨Zu BK197.out⟩, ⟨Zc1 GE197.out⟩⟩
 case round =>
  clear H'
  try clear p2
  obtain ⟨x4_1, x9_1, rfl, HA, HK1, HO_4, BK197, HB⟩ := hrel
  cases gk with
  | zero => exact absurd HA.out (by simp [QaM.l0])
  | succ k1 =>
   have H := HA.out
   clear HA
   simp only [QaM.l0] at H
   by_cases c4 : x9_1 < (l0.length : Int)
   ·rw [if_pos c4] at H
    have c4b0 : decide (x9_1 < (l0.length : Int)) = true := decide_eq_true c4
    clear c4
    (try simp only [c4b0])
    by_cases c5 : 0 ≤ x9_1
    ·rw [if_pos c5] at H
     have c5b0 : decide (0 ≤ x9_1) = true := decide_eq_true c5
     clear c5
     by_cases c6 : x9_1 < (l0.length : Int)
     ·rw [if_pos c6] at H
      have c6b0 : decide (x9_1 < (l0.length : Int)) = true := decide_eq_true c6
      clear c6
      have p198 : 0 ≤ (x9_1 : Int) := Ze
      have q198 : x9_1 < (l0.length : Int) := Ze
      obtain ⟨ad198, e198, hx198_0, hx198_1, hx198_2, hx198_3⟩ := at_T46 HR0.out x9_1 p198 q198
      cases e198
      replace hx198_0 := Zx HB.out hx198_0
      replace hx198_1 := Zx HB.out hx198_1
      replace hx198_2 := Zx HB.out hx198_2
      replace hx198_3 := Zx HB.out hx198_3
      replace p198 := eq_true p198
      replace q198 := eq_true q198
      go_upto_if 16 with (first | ((with_reducible refine QaE (N := 6) rfl ?_); refine Zbx (N := 6) (cs := #[.string (⟨#[]⟩ : ByteArray), .string (⟨#[]⟩ : ByteArray), .string (⟨#[]⟩ : ByteArray), .int .i64 0]) (t := 46) ?_; intro gb199 hg w7 hbox hb; have BK199 := Aside0.mk (hbox); have GW199 := Aside0.mk (Zt w hg (Zc1 GE197.out)); have GE199 := GW199; have NB197_199 := Aside0.mk (Zn hg BK197.out); have NB199_197 := Aside0.mk NB197_199.out.symm; replace HO_4 := Aside0.mk (Kd.R_below (Kd.R_elderB (Zr HO_4.out) gb199 (Nat.le_of_eq hg.symm)) hb); replace BK197 := Aside0.mk (Zi BK197.out hb); replace HB := Aside0.mk (Qaq (Zc1 GE197.out) hb); clear hb hbox hg; have hnb8 := NB199_197.out; have hnc8 := NB197_199.out; obtain ⟨hcz9_0, hfz9_0⟩ := Zy (v := (.string (⟨#[]⟩ : ByteArray))) BK199.out 0; obtain ⟨hcz9_1, hfz9_1⟩ := Zy (v := (.string (⟨#[]⟩ : ByteArray))) BK199.out 1; obtain ⟨hcz9_2, hfz9_2⟩ := Zy (v := (.string (⟨#[]⟩ : ByteArray))) BK199.out 2; obtain ⟨hcz9_3, hfz9_3⟩ := Zy (v := (.int .i64 0)) BK199.out 3; obtain ⟨hcz10_0, hfz10_0⟩ := Zy (v := (.string a1_0)) BK197.out 0; obtain ⟨hcz10_1, hfz10_1⟩ := Zy (v := (.string a1_1)) BK197.out 1))
      (try simp only [Act.put, Zj, Zk, Zm])
      by_cases c11 : ((((rd_T46 l0 x9_1).f0.f0).toList) == a1_0.toList && ((((rd_T46 l0 x9_1).f0.f1).toList) == a1_1.toList)) = true
      ·rw [if_pos c11] at H
       have c11b0 : ((((rd_T46 l0 x9_1).f0.f0).toList) == a1_0.toList && ((((rd_T46 l0 x9_1).f0.f1).toList) == a1_1.toList)) = true := c11
       (try (have c11b1 : decide ((((rd_T46 l0 x9_1).f0.f0).toList) = a1_0.toList && ((((rd_T46 l0 x9_1).f0.f1).toList) == a1_1.toList)) = true := by simpa using c11))
       (try (have c11b2 : ((((rd_T46 l0 x9_1).f0.f0).toList) == a1_0.toList && ((((rd_T46 l0 x9_1).f0.f1).toList) == a1_1.toList)) = true := by simpa using c11))
       clear c11
       (try simp only [c11b0])
       by_cases c12 : x4_1.length < 2513169434916
       ·rw [if_pos c12] at H
        have LMc12 := Aside0.mk c12
        clear c12
        obtain ⟨y200, hy200⟩ : ∃ y_ : List (S46), y_ = (x4_1 ++ [(⟨(⟨(rd_T46 l0 x9_1).f0.f0, (rd_T46 l0 x9_1).f0.f1⟩ : S44), (rd_T46 l0 x9_1).f1, (rd_T46 l0 x9_1).f2⟩ : S46)]) := ⟨_, rfl⟩
        replace H : (QaM.l0 k1 y200 l0 (l0.length : Int) (wrap64 (x9_1 + 1)) a1_0 a1_1) = some r := by first | (rw [hy200]; with_reducible exact H) | (have H2_ := (Option.bind_some _ _).symm.trans H; rw [hy200]; with_reducible exact H2_) | (have H2_ := (Option.bind_some _ _).symm.trans H; with_reducible exact H2_) | with_reducible exact H | (rw [hy200]; exact H) | exact H
        have Ny200 := Aside0.mk hy200
        clear hy200
        have H' := Aside0.mk H
        clear H
        have hnb13 := NB199_197.out
        have hnc13 := NB197_199.out
        obtain ⟨hcz14_0, hfz14_0⟩ := Zy (v := (.string (⟨#[]⟩ : ByteArray))) BK199.out 0
        obtain ⟨hcz14_1, hfz14_1⟩ := Zy (v := (.string (⟨#[]⟩ : ByteArray))) BK199.out 1
        obtain ⟨hcz14_2, hfz14_2⟩ := Zy (v := (.string (⟨#[]⟩ : ByteArray))) BK199.out 2
        obtain ⟨hcz14_3, hfz14_3⟩ := Zy (v := (.int .i64 0)) BK199.out 3
        go_wp2_with (first | ((with_reducible refine QbN (b := .append) (xs := #[.tmp 17, .tmp 19]) rfl ?_); at_builtin; refine Kd.R_append k46 (w0 := w) w.heap.size rfl (.tmp 17) (.tmp 19) 30 46 (.agg #[(.string ⟨#[]⟩), (.string ⟨#[]⟩), (.string ⟨#[]⟩), (.int .i64 0)]) 56 rfl Try.underlying30 info46 rfl (by decide) (by omega) u4 x4_1 (⟨(⟨(rd_T46 l0 x9_1).f0.f0, (rd_T46 l0 x9_1).f0.f1⟩ : S44), (rd_T46 l0 x9_1).f1, (rd_T46 l0 x9_1).f2⟩ : S46) [.string ((rd_T46 l0 x9_1).f0.f0), .string ((rd_T46 l0 x9_1).f0.f1), .string ((rd_T46 l0 x9_1).f1), .int .i64 ((rd_T46 l0 x9_1).f2)] (fun k_ => k_ ≠ gb199) (fun _ => False) rfl (by first | (go_simp; done) | (go_simp; rfl)) ?aP (fun _ hk => hk.elim) ?aF ?aO ?aB ?aS ?aL ?_; (case aP => exact Qcn _ _ _ (⟨(⟨(rd_T46 l0 x9_1).f0.f0, (rd_T46 l0 x9_1).f0.f1⟩ : S44), (rd_T46 l0 x9_1).f1, (rd_T46 l0 x9_1).f2⟩ : S46)); (case aB => exact (Zc2 GE197.out GE199.out)); (case aF => exact (fun k_ hk => Kd.freshB (g := gb199) (o := .cells #[.string ((rd_T46 l0 x9_1).f0.f0), .string ((rd_T46 l0 x9_1).f0.f1), .string ((rd_T46 l0 x9_1).f1), .int .i64 ((rd_T46 l0 x9_1).f2)] 46 (0, 0)) (Zp2 BK199.out) k_ hk)); (case aO => exact (by (with_reducible repeat (first | apply Kd.R_alloc | apply Kd.R_drewN | apply Kd.R_drew)); exact Kd.R_mono (Zf gb199 3 (Zf gb199 2 (Zf gb199 1 (Zf gb199 0 (Kd.R_mono HO_4.out (fun k_ hk => (⟨hk, hk.2⟩ : _ ∧ k_ ≠ gb199))) (.string ((rd_T46 l0 x9_1).f0.f0))) (.string ((rd_T46 l0 x9_1).f0.f1))) (.string ((rd_T46 l0 x9_1).f1))) (.int .i64 ((rd_T46 l0 x9_1).f2))) (fun _ hk => hk.1.2))); (case aS => exact (Qap (Zc2 GE197.out GE199.out))); (case aL => have := LMc12.out; omega); intro v201 w15 ho hb hg hat; rw [← Ny200.out] at ho; have HO202 := Aside0.mk (ho); replace BK197 := Aside0.mk (QaW (g := gb197) (o := .cells #[.string a1_0, .string a1_1] 44 (0, 0)) (Zg4 BK197.out NB197_199.out NB197_199.out NB197_199.out NB197_199.out) hg (Kd.R_ne HO_4.out BK197.out (by decide))); replace BK199 := Aside0.mk (QaW (g := gb199) (o := .cells #[.string ((rd_T46 l0 x9_1).f0.f0), .string ((rd_T46 l0 x9_1).f0.f1), .string ((rd_T46 l0 x9_1).f1), .int .i64 ((rd_T46 l0 x9_1).f2)] 46 (0, 0)) (Zp2 BK199.out) hg (Kd.R_away HO_4.out (fun _ hk => hk.2))); replace HB := Aside0.mk (hb); clear HO_4; clear ho hb hg hat))
        go_roundg k1
        case measure => have := HK1.out; omega
        case rel => exact ⟨(y200), (wrap64 (x9_1 + 1)), (Zs), H', ⟨by have := HK1.out; omega⟩, ⟨by (with_reducible repeat (first | apply Kd.R_alloc | apply Kd.R_drewN | apply Kd.R_drew)); exact Kd.R_mono HO202.out (fun _ hk => trivial)⟩, ⟨Zu BK197.out⟩, ⟨Zc2 GE197.out GE199.out⟩⟩
       rw [if_neg c12] at H
       exact absurd H (by simp)
      rw [if_neg c11] at H
      have c11b0 : ((((rd_T46 l0 x9_1).f0.f0).toList) == a1_0.toList && ((((rd_T46 l0 x9_1).f0.f1).toList) == a1_1.toList)) = false := by simpa using c11
      (try (have c11b1 : decide ((((rd_T46 l0 x9_1).f0.f0).toList) = a1_0.toList && ((((rd_T46 l0 x9_1).f0.f1).toList) == a1_1.toList)) = false := by simpa using c11))
      (try (have c11b2 : ((((rd_T46 l0 x9_1).f0.f0).toList) == a1_0.toList && ((((rd_T46 l0 x9_1).f0.f1).toList) == a1_1.toList)) = false := by simpa using c11))
      (try (have c11b3 : ¬ ((((rd_T46 l0 x9_1).f0.f0).toList) = a1_0.toList && ((((rd_T46 l0 x9_1).f0.f1).toList) == a1_1.toList)) := by simpa using c11))
      clear c11
      (try simp only [c11b0])
      have H' := Aside0.mk H
      clear H
      go_wp2
      go_roundg k1
      case measure => have := HK1.out; omega
      case rel => exact ⟨(x4_1), (wrap64 (x9_1 + 1)), (Zs), H', ⟨by have := HK1.out; omega⟩, ⟨by (with_reducible repeat (first | apply Kd.R_alloc | apply Kd.R_drewN | apply Kd.R_drew)); exact Kd.R_mono (Zf gb199 3 (Zf gb199 2 (Zf gb199 1 (Zf gb199 0 (Kd.R_mono HO_4.out (fun k_ hk => (⟨hk, hk.2⟩ : _ ∧ k_ ≠ gb199))) (.string ((rd_T46 l0 x9_1).f0.f0))) (.string ((rd_T46 l0 x9_1).f0.f1))) (.string ((rd_T46 l0 x9_1).f1))) (.int .i64 ((rd_T46 l0 x9_1).f2))) (fun _ hk => trivial)⟩, ⟨Zg4 BK197.out NB197_199.out NB197_199.out NB197_199.out NB197_199.out⟩, ⟨Zc2 GE197.out GE199.out⟩⟩
     rw [if_neg c6] at H
     exact absurd H (by simp)
    rw [if_neg c5] at H
    exact absurd H (by simp)
   rw [if_neg c4] at H
   have c4b0 : decide (x9_1 < (l0.length : Int)) = false := decide_eq_false c4
   clear c4
   (try simp only [c4b0])
   obtain rfl := Option.some.inj H
   go_wp2
   go_ret
   exact ⟨_, Zq, Zr HO_4.out, Zc1 GE197.out⟩
end Go.Proofs.Ytfcaaefdmabkhaa.Pr
