/- Functions' values and contracts, as the print wrote them. -/
import Derived.Test.YtfcaaefdmabkhaaQ283P0
namespace Go.Proofs.Ytfcaaefdmabkhaa.Pr
open Bool renaming true → T
open Go.RowKit Go.Proofs.YtfcaaefdmabkhaaW.PrintWords Go.Proofs.YtfcaaefdmabkhaaW.PrintLast Go.Proofs.YtfcaaefdmabkhaaW.PrintMore
attribute [local go_sem] QaS QaU Qa2 Qa3 QaK QaL QaT QaV   -- for this text's walks alone
set_option linter.unusedVariables false
set_option linter.unusedSimpArgs false
set_option maxRecDepth 100000
set_option maxHeartbeats 8000000
attribute [local go_sem high] eqA44
def QaI.l0 : Nat → List (S46) → List (S46) → Int → ByteArray → ByteArray → Option ((List (S46)))
 | 0, _, _, _, _, _ => none
 | k + 1, x0, x5, x6, x330000, x330001 => if x6 < (x0.length : Int) then (if 0 ≤ x6 then (if ((((rd_T46 x0 x6).f0.f0).toList) == x330000.toList && ((((rd_T46 x0 x6).f0.f1).toList) == x330001.toList)) = T then (if x5.length < 2513169434916 then (QaI.l0 k x0 (x5 ++ [(⟨(⟨(rd_T46 x0 x6).f0.f0, (rd_T46 x0 x6).f0.f1⟩ : S44), (rd_T46 x0 x6).f1, (rd_T46 x0 x6).f2⟩ : S46)]) (wrap64 (x6 + 1)) x330000 x330001) else (none)) else (QaI.l0 k x0 x5 (wrap64 (x6 + 1)) x330000 x330001)) else (none)) else (some x5)
def QaI.f (k : Nat) (l0 : List (S46)) (a1_0 : ByteArray) (a1_1 : ByteArray) : Option ((List (S46))) := QaI.l0 k l0 (([] : List (S46))) 0 a1_0 a1_1
theorem QaI.mono_l : ∀ k, (∀ y0 y1 y2 y3 y4, LeO (QaI.l0 k y0 y1 y2 y3 y4) (QaI.l0 (k + 1) y0 y1 y2 y3 y4))
 | 0 => fun _ _ _ _ _ r h => by simp [QaI.l0] at h
 | k + 1 => by
  have ih0 := QaI.mono_l k
  intro y0 y1 y2 y3 y4
  unfold QaI.l0
  exact ZM1 ih0
theorem QaI.mono : ∀ a0 a1 a2 k, LeO (QaI.f k a0 a1 a2) (QaI.f (k + 1) a0 a1 a2) := by
 intro a0 a1 a2 k
 have ih0 := QaI.mono_l k
 unfold QaI.f
 exact ZM1 ih0
theorem QaI.calls (k : Nat) (A0 : Option Addr) (c0 : Nat) (l0 : List (S46)) (a1_0 : ByteArray) (a1_1 : ByteArray) (r : List (S46)) (w : World) (hr0 : Kd.C k46 w A0 l0.length l0) (hc0 : l0.length ≤ c0) (h : QaI.f k l0 a1_0 a1_1 = some r) :
  Calls Try.prog 40 #[.slice A0 l0.length c0, .agg #[.string a1_0, .string a1_1]] w fun e w' => ∃ v0_ : Value, e = .returned (v0_) ∧ Kd.R k46 46 w' w.heap.size (fun _ => True) v0_ r ∧ Below w.heap.size w w' := by
 have hu44 := Try.underlying44
 have hu46 := Try.underlying46
 have HR0 := Aside0.mk hr0
 have HC0 := Aside0.mk hc0
 clear hr0 hc0
 have HB := Aside0.mk (Below.refl w.heap.size w)
 have H : (QaI.l0 k l0 (([] : List (S46))) 0 a1_0 a1_1) = some r := h
 clear h
 obtain ⟨y330, hy330⟩ : ∃ y_ : List (S46), y_ = (([] : List (S46))) := ⟨_, rfl⟩
 replace H : (QaI.l0 k l0 y330 0 a1_0 a1_1) = some r := by first | (rw [hy330]; with_reducible exact H) | (have H2_ := (Option.bind_some _ _).symm.trans H; rw [hy330]; with_reducible exact H2_) | (have H2_ := (Option.bind_some _ _).symm.trans H; with_reducible exact H2_) | with_reducible exact H | (rw [hy330]; exact H) | exact H
 have Ny330 := Aside0.mk hy330
 clear hy330
 have H' := Aside0.mk H
 clear H
 go_enter Try.func40, Try.ntmps40
 go_wp2_with (first | ((with_reducible refine QaJ (N := 3) rfl ?_); refine Zbx (N := 3) (cs := #[.string a1_0, .string a1_1]) (t := 44) ?_; intro gb329 hg w3 hbox hb; have BK329 := Aside0.mk (hbox); have GW329 := Aside0.mk (Zt w hg (Zb)); have GE329 := GW329; replace HB := Aside0.mk (Qao (Zb) hb); clear hb hbox hg) | ((with_reducible refine QaJ (N := 7) rfl ?_); refine Kd.R_lit k46 _ 46 ?hg (N := 7) ?hd (xs := ([] : List (S46))) (inner := []) (ok := fun _ => True) (okp := fun _ => True) ?hr ?hp (fun _ hk => hk) trivial (Below.refl _ _) (Nat.le_refl _) (by simp) ?_; (case hd => rfl); (case hg => rfl); (case hr => first | (go_simp; done) | (go_simp; rfl)); (case hp => exact (Reps.none _ _)); intro v331 w4 ho5 hb hg_ hnew_; clear hg_ hnew_; (first | rw [← Ny330.out] at ho5 | (simp only [Int.reduceToNat] at ho5; rw [← Ny330.out] at ho5)); have HO332 := Aside0.mk (Kd.R_lower ho5 (Qam (Zc1 GE329.out))); replace BK329 := Aside0.mk (Zi BK329.out hb); replace HB := Aside0.mk (Qao (Zc1 GE329.out) hb); clear hb ho5))
 repeat (go_quiet (first | ((with_reducible refine QaJ (N := 3) rfl ?_); refine Zbx (N := 3) (cs := #[.string a1_0, .string a1_1]) (t := 44) ?_; intro gb329 hg w3 hbox hb; have BK329 := Aside0.mk (hbox); have GW329 := Aside0.mk (Zt w hg (Zb)); have GE329 := GW329; replace HB := Aside0.mk (Qao (Zb) hb); clear hb hbox hg) | ((with_reducible refine QaJ (N := 7) rfl ?_); refine Kd.R_lit k46 _ 46 ?hg (N := 7) ?hd (xs := ([] : List (S46))) (inner := []) (ok := fun _ => True) (okp := fun _ => True) ?hr ?hp (fun _ hk => hk) trivial (Below.refl _ _) (Nat.le_refl _) (by simp) ?_; (case hd => rfl); (case hg => rfl); (case hr => first | (go_simp; done) | (go_simp; rfl)); (case hp => exact (Reps.none _ _)); intro v331 w4 ho5 hb hg_ hnew_; clear hg_ hnew_; (first | rw [← Ny330.out] at ho5 | (simp only [Int.reduceToNat] at ho5; rw [← Ny330.out] at ho5)); have HO332 := Aside0.mk (Kd.R_lower ho5 (Qam (Zc1 GE329.out))); replace BK329 := Aside0.mk (Zi BK329.out hb); replace HB := Aside0.mk (Qao (Zc1 GE329.out) hb); clear hb ho5)); try go_wp2_with (first | ((with_reducible refine QaJ (N := 3) rfl ?_); refine Zbx (N := 3) (cs := #[.string a1_0, .string a1_1]) (t := 44) ?_; intro gb329 hg w3 hbox hb; have BK329 := Aside0.mk (hbox); have GW329 := Aside0.mk (Zt w hg (Zb)); have GE329 := GW329; replace HB := Aside0.mk (Qao (Zb) hb); clear hb hbox hg) | ((with_reducible refine QaJ (N := 7) rfl ?_); refine Kd.R_lit k46 _ 46 ?hg (N := 7) ?hd (xs := ([] : List (S46))) (inner := []) (ok := fun _ => True) (okp := fun _ => True) ?hr ?hp (fun _ hk => hk) trivial (Below.refl _ _) (Nat.le_refl _) (by simp) ?_; (case hd => rfl); (case hg => rfl); (case hr => first | (go_simp; done) | (go_simp; rfl)); (case hp => exact (Reps.none _ _)); intro v331 w4 ho5 hb hg_ hnew_; clear hg_ hnew_; (first | rw [← Ny330.out] at ho5 | (simp only [Int.reduceToNat] at ho5; rw [← Ny330.out] at ho5)); have HO332 := Aside0.mk (Kd.R_lower ho5 (Qam (Zc1 GE329.out))); replace BK329 := Aside0.mk (Zi BK329.out hb); replace HB := Aside0.mk (Qao (Zc1 GE329.out) hb); clear hb ho5)))
 go_loopg [5, 6] k (fun kq v5 v6 w' => ∃ (x5_1 : List (S46)) (x6_1 : Int), v6 = .int .i64 x6_1 ∧ Aside0 (QaI.l0 kq l0 x5_1 x6_1 a1_0 a1_1 = some r) ∧ Aside0 (kq ≤ k) ∧ Aside0 (Kd.R k46 46 w' w.heap.size (fun _ => True) v5 x5_1) ∧ Aside0 (w'.heap[gb329]? = some (.cells #[.string a1_0, .string a1_1] 44 (0, 0))) ∧ Aside0 (Below w.heap.size w w'))
 case atStart => exact ⟨(y330), (0), (Zs), H', ⟨Nat.le_refl _⟩, ⟨Zr HO332.out⟩, ⟨Zu BK329.out⟩, ⟨Zc1 GE329.out⟩⟩
 case round =>
  clear H'
  try clear p2
  try clear c4
  obtain ⟨x5_1, x6_1, rfl, HA, HK1, HO_5, BK329, HB⟩ := hrel
  cases gk with
  | zero => exact absurd HA.out (by simp [QaI.l0])
  | succ k1 =>
   have H := HA.out
   clear HA
   simp only [QaI.l0] at H
   by_cases c6 : x6_1 < (l0.length : Int)
   ·rw [if_pos c6] at H
    have c6b0 : decide (x6_1 < (l0.length : Int)) = T := decide_eq_true c6
    clear c6
    (try simp only [c6b0])
    by_cases c7 : 0 ≤ x6_1
    ·rw [if_pos c7] at H
     have c7b0 : decide (0 ≤ x6_1) = T := decide_eq_true c7
     clear c7
     have p333 : 0 ≤ (x6_1 : Int) := Ze
     have q333 : x6_1 < (l0.length : Int) := Ze
     obtain ⟨ad333, e333, hx333_0, hx333_1, hx333_2, hx333_3⟩ := at_T46 HR0.out x6_1 p333 q333
     cases e333
     replace hx333_0 := Zx HB.out hx333_0
     replace hx333_1 := Zx HB.out hx333_1
     replace hx333_2 := Zx HB.out hx333_2
     replace hx333_3 := Zx HB.out hx333_3
     replace p333 := eq_true p333
     replace q333 := eq_true q333
     obtain ⟨hcz8_0, hfz8_0⟩ := Zy (v := (.string a1_0)) BK329.out 0
     obtain ⟨hcz8_1, hfz8_1⟩ := Zy (v := (.string a1_1)) BK329.out 1
     go_upto_if 20 with (fail)
     repeat (go_quiet (fail); go_upto_if 20 with (fail))
     by_cases c9 : ((((rd_T46 l0 x6_1).f0.f0).toList) == a1_0.toList && ((((rd_T46 l0 x6_1).f0.f1).toList) == a1_1.toList)) = T
     ·rw [if_pos c9] at H
      have c9b0 : ((((rd_T46 l0 x6_1).f0.f0).toList) == a1_0.toList && ((((rd_T46 l0 x6_1).f0.f1).toList) == a1_1.toList)) = T := c9
      (try (have c9b1 : decide ((((rd_T46 l0 x6_1).f0.f0).toList) = a1_0.toList && ((((rd_T46 l0 x6_1).f0.f1).toList) == a1_1.toList)) = T := by simpa using c9))
      (try (have c9b2 : ((((rd_T46 l0 x6_1).f0.f0).toList) == a1_0.toList && ((((rd_T46 l0 x6_1).f0.f1).toList) == a1_1.toList)) = T := by simpa using c9))
      clear c9
      (try simp only [c9b0])
      by_cases c10 : x5_1.length < 2513169434916
      ·rw [if_pos c10] at H
       have LMc10 := Aside0.mk c10
       clear c10
       obtain ⟨y335, hy335⟩ : ∃ y_ : List (S46), y_ = (x5_1 ++ [(⟨(⟨(rd_T46 l0 x6_1).f0.f0, (rd_T46 l0 x6_1).f0.f1⟩ : S44), (rd_T46 l0 x6_1).f1, (rd_T46 l0 x6_1).f2⟩ : S46)]) := ⟨_, rfl⟩
       replace H : (QaI.l0 k1 l0 y335 (wrap64 (x6_1 + 1)) a1_0 a1_1) = some r := by first | (rw [hy335]; with_reducible exact H) | (have H2_ := (Option.bind_some _ _).symm.trans H; rw [hy335]; with_reducible exact H2_) | (have H2_ := (Option.bind_some _ _).symm.trans H; with_reducible exact H2_) | with_reducible exact H | (rw [hy335]; exact H) | exact H
       have Ny335 := Aside0.mk hy335
       clear hy335
       have H' := Aside0.mk H
       clear H
       have p334 : 0 ≤ (x6_1 : Int) := Ze
       have q334 : x6_1 < (l0.length : Int) := Ze
       obtain ⟨ad334, e334, hx334_0, hx334_1, hx334_2, hx334_3⟩ := at_T46 HR0.out x6_1 p334 q334
       obtain rfl : ad333 = ad334 := (by injection e334)
       replace hx334_0 := Zx HB.out hx334_0
       replace hx334_1 := Zx HB.out hx334_1
       replace hx334_2 := Zx HB.out hx334_2
       replace hx334_3 := Zx HB.out hx334_3
       replace p334 := eq_true p334
       replace q334 := eq_true q334
       go_wp2_with (first | ((with_reducible refine QbT (b := .append) (xs := #[.tmp 21, .tmp 26]) rfl ?_); at_builtin; refine Kd.R_append k46 (w0 := w) w.heap.size rfl (.tmp 21) (.tmp 26) 30 46 (.agg #[(.string ⟨#[]⟩), (.string ⟨#[]⟩), (.string ⟨#[]⟩), (.int .i64 0)]) 56 rfl Try.underlying30 info46 rfl (by decide) (by omega) u5 x5_1 (⟨(⟨(rd_T46 l0 x6_1).f0.f0, (rd_T46 l0 x6_1).f0.f1⟩ : S44), (rd_T46 l0 x6_1).f1, (rd_T46 l0 x6_1).f2⟩ : S46) [.string ((rd_T46 l0 x6_1).f0.f0), .string ((rd_T46 l0 x6_1).f0.f1), .string ((rd_T46 l0 x6_1).f1), .int .i64 ((rd_T46 l0 x6_1).f2)] (fun _ => True) (fun _ => False) rfl rfl ?aP (fun _ hk => hk.elim) ?aF ?aO ?aB ?aS ?aL ?_; (case aP => exact Qcq _ _ _ (⟨(⟨(rd_T46 l0 x6_1).f0.f0, (rd_T46 l0 x6_1).f0.f1⟩ : S44), (rd_T46 l0 x6_1).f1, (rd_T46 l0 x6_1).f2⟩ : S46)); (case aB => exact (Zc1 GE329.out)); (case aF => exact (fun _ _ => trivial)); (case aO => exact (Zr HO_5.out)); (case aS => exact (Qam (Zc1 GE329.out))); (case aL => have := LMc10.out; omega); intro v336 w11 ho hb hg hat; rw [← Ny335.out] at ho; have HO337 := Aside0.mk (ho); replace BK329 := Aside0.mk (Qbk (g := gb329) (o := .cells #[.string a1_0, .string a1_1] 44 (0, 0)) (Zu BK329.out) hg (Kd.R_ne HO_5.out BK329.out (by decide))); replace HB := Aside0.mk (hb); clear HO_5; clear ho hb hg hat))
       repeat (go_quiet (first | ((with_reducible refine QbT (b := .append) (xs := #[.tmp 21, .tmp 26]) rfl ?_); at_builtin; refine Kd.R_append k46 (w0 := w) w.heap.size rfl (.tmp 21) (.tmp 26) 30 46 (.agg #[(.string ⟨#[]⟩), (.string ⟨#[]⟩), (.string ⟨#[]⟩), (.int .i64 0)]) 56 rfl Try.underlying30 info46 rfl (by decide) (by omega) u5 x5_1 (⟨(⟨(rd_T46 l0 x6_1).f0.f0, (rd_T46 l0 x6_1).f0.f1⟩ : S44), (rd_T46 l0 x6_1).f1, (rd_T46 l0 x6_1).f2⟩ : S46) [.string ((rd_T46 l0 x6_1).f0.f0), .string ((rd_T46 l0 x6_1).f0.f1), .string ((rd_T46 l0 x6_1).f1), .int .i64 ((rd_T46 l0 x6_1).f2)] (fun _ => True) (fun _ => False) rfl rfl ?aP (fun _ hk => hk.elim) ?aF ?aO ?aB ?aS ?aL ?_; (case aP => exact Qcq _ _ _ (⟨(⟨(rd_T46 l0 x6_1).f0.f0, (rd_T46 l0 x6_1).f0.f1⟩ : S44), (rd_T46 l0 x6_1).f1, (rd_T46 l0 x6_1).f2⟩ : S46)); (case aB => exact (Zc1 GE329.out)); (case aF => exact (fun _ _ => trivial)); (case aO => exact (Zr HO_5.out)); (case aS => exact (Qam (Zc1 GE329.out))); (case aL => have := LMc10.out; omega); intro v336 w11 ho hb hg hat; rw [← Ny335.out] at ho; have HO337 := Aside0.mk (ho); replace BK329 := Aside0.mk (Qbk (g := gb329) (o := .cells #[.string a1_0, .string a1_1] 44 (0, 0)) (Zu BK329.out) hg (Kd.R_ne HO_5.out BK329.out (by decide))); replace HB := Aside0.mk (hb); clear HO_5; clear ho hb hg hat)); try go_wp2_with (first | ((with_reducible refine QbT (b := .append) (xs := #[.tmp 21, .tmp 26]) rfl ?_); at_builtin; refine Kd.R_append k46 (w0 := w) w.heap.size rfl (.tmp 21) (.tmp 26) 30 46 (.agg #[(.string ⟨#[]⟩), (.string ⟨#[]⟩), (.string ⟨#[]⟩), (.int .i64 0)]) 56 rfl Try.underlying30 info46 rfl (by decide) (by omega) u5 x5_1 (⟨(⟨(rd_T46 l0 x6_1).f0.f0, (rd_T46 l0 x6_1).f0.f1⟩ : S44), (rd_T46 l0 x6_1).f1, (rd_T46 l0 x6_1).f2⟩ : S46) [.string ((rd_T46 l0 x6_1).f0.f0), .string ((rd_T46 l0 x6_1).f0.f1), .string ((rd_T46 l0 x6_1).f1), .int .i64 ((rd_T46 l0 x6_1).f2)] (fun _ => True) (fun _ => False) rfl rfl ?aP (fun _ hk => hk.elim) ?aF ?aO ?aB ?aS ?aL ?_; (case aP => exact Qcq _ _ _ (⟨(⟨(rd_T46 l0 x6_1).f0.f0, (rd_T46 l0 x6_1).f0.f1⟩ : S44), (rd_T46 l0 x6_1).f1, (rd_T46 l0 x6_1).f2⟩ : S46)); (case aB => exact (Zc1 GE329.out)); (case aF => exact (fun _ _ => trivial)); (case aO => exact (Zr HO_5.out)); (case aS => exact (Qam (Zc1 GE329.out))); (case aL => have := LMc10.out; omega); intro v336 w11 ho hb hg hat; rw [← Ny335.out] at ho; have HO337 := Aside0.mk (ho); replace BK329 := Aside0.mk (Qbk (g := gb329) (o := .cells #[.string a1_0, .string a1_1] 44 (0, 0)) (Zu BK329.out) hg (Kd.R_ne HO_5.out BK329.out (by decide))); replace HB := Aside0.mk (hb); clear HO_5; clear ho hb hg hat)))
       go_roundg k1
       case measure => have := HK1.out; omega
       case rel => exact ⟨(y335), (wrap64 (x6_1 + 1)), (Zs), H', ⟨by have := HK1.out; omega⟩, ⟨Zr HO337.out⟩, ⟨Zu BK329.out⟩, ⟨Zc1 GE329.out⟩⟩
      rw [if_neg c10] at H
      exact absurd H (by simp)
     rw [if_neg c9] at H
     have c9b0 : ((((rd_T46 l0 x6_1).f0.f0).toList) == a1_0.toList && ((((rd_T46 l0 x6_1).f0.f1).toList) == a1_1.toList)) = false := by simpa using c9
     (try (have c9b1 : decide ((((rd_T46 l0 x6_1).f0.f0).toList) = a1_0.toList && ((((rd_T46 l0 x6_1).f0.f1).toList) == a1_1.toList)) = false := by simpa using c9))
     (try (have c9b2 : ((((rd_T46 l0 x6_1).f0.f0).toList) == a1_0.toList && ((((rd_T46 l0 x6_1).f0.f1).toList) == a1_1.toList)) = false := by simpa using c9))
     (try (have c9b3 : ¬ ((((rd_T46 l0 x6_1).f0.f0).toList) = a1_0.toList && ((((rd_T46 l0 x6_1).f0.f1).toList) == a1_1.toList)) := by simpa using c9))
     clear c9
     (try simp only [c9b0])
     have H' := Aside0.mk H
     clear H
     go_wp2
     repeat (go_quiet (fail); try go_wp2)
     go_roundg k1
     case measure => have := HK1.out; omega
     case rel => exact ⟨(x5_1), (wrap64 (x6_1 + 1)), (Zs), H', ⟨by have := HK1.out; omega⟩, ⟨Zr HO_5.out⟩, ⟨Zu BK329.out⟩, ⟨Zc1 GE329.out⟩⟩
    rw [if_neg c7] at H
    exact absurd H (by simp)
   rw [if_neg c6] at H
   have c6b0 : decide (x6_1 < (l0.length : Int)) = false := decide_eq_false c6
   clear c6
   (try simp only [c6b0])
   obtain rfl := Option.some.inj H
   go_wp2
   repeat (go_quiet (fail); try go_wp2)
   go_ret
   exact ⟨_, Zq, Zr HO_5.out, Zc1 GE329.out⟩
def Qa6.l0 : Nat → List (S46) → List (S46) → Int → Int → ByteArray → ByteArray → Option ((List (S46)))
 | 0, _, _, _, _, _, _ => none
 | k + 1, x4, x7, x8, x9, x198000, x198001 => if x9 < x8 then (if 0 ≤ x9 then (if x9 < (x7.length : Int) then (if ((((rd_T46 x7 x9).f0.f0).toList) == x198000.toList && ((((rd_T46 x7 x9).f0.f1).toList) == x198001.toList)) = T then (if x4.length < 2513169434916 then (Qa6.l0 k (x4 ++ [(⟨(⟨(rd_T46 x7 x9).f0.f0, (rd_T46 x7 x9).f0.f1⟩ : S44), (rd_T46 x7 x9).f1, (rd_T46 x7 x9).f2⟩ : S46)]) x7 x8 (wrap64 (x9 + 1)) x198000 x198001) else (none)) else (Qa6.l0 k x4 x7 x8 (wrap64 (x9 + 1)) x198000 x198001)) else (none)) else (none)) else (some x4)
def Qa6.f (k : Nat) (l0 : List (S46)) (a1_0 : ByteArray) (a1_1 : ByteArray) : Option ((List (S46))) := Qa6.l0 k ([] : List (S46)) l0 (l0.length : Int) 0 a1_0 a1_1
theorem Qa6.mono_l : ∀ k, (∀ y0 y1 y2 y3 y4 y5, LeO (Qa6.l0 k y0 y1 y2 y3 y4 y5) (Qa6.l0 (k + 1) y0 y1 y2 y3 y4 y5))
 | 0 => fun _ _ _ _ _ _ r h => by simp [Qa6.l0] at h
 | k + 1 => by
  have ih0 := Qa6.mono_l k
  intro y0 y1 y2 y3 y4 y5
  unfold Qa6.l0
  exact ZM1 ih0
theorem Qa6.mono : ∀ a0 a1 a2 k, LeO (Qa6.f k a0 a1 a2) (Qa6.f (k + 1) a0 a1 a2) := by
 intro a0 a1 a2 k
 have ih0 := Qa6.mono_l k
 unfold Qa6.f
 exact ZM1 ih0
theorem Qa6.calls (k : Nat) (A0 : Option Addr) (c0 : Nat) (l0 : List (S46)) (a1_0 : ByteArray) (a1_1 : ByteArray) (r : List (S46)) (w : World) (hr0 : Kd.C k46 w A0 l0.length l0) (hc0 : l0.length ≤ c0) (h : Qa6.f k l0 a1_0 a1_1 = some r) :
  Calls Try.prog 86 #[.slice A0 l0.length c0, .agg #[.string a1_0, .string a1_1]] w fun e w' => ∃ v0_ : Value, e = .returned (v0_) ∧ Kd.R k46 46 w' w.heap.size (fun _ => True) v0_ r ∧ Below w.heap.size w w' := by
 have hu44 := Try.underlying44
 have hu46 := Try.underlying46
 have HR0 := Aside0.mk hr0
 have HC0 := Aside0.mk hc0
 clear hr0 hc0
 have HB := Aside0.mk (Below.refl w.heap.size w)
 have H : (Qa6.l0 k ([] : List (S46)) l0 (l0.length : Int) 0 a1_0 a1_1) = some r := h
 clear h
 have H' := Aside0.mk H
 clear H
 go_enter Try.func86, Try.ntmps86
 go_wp2_with (first | ((with_reducible refine QaJ (N := 3) rfl ?_); refine Zbx (N := 3) (cs := #[.string a1_0, .string a1_1]) (t := 44) ?_; intro gb197 hg w3 hbox hb; have BK197 := Aside0.mk (hbox); have GW197 := Aside0.mk (Zt w hg (Zb)); have GE197 := GW197; replace HB := Aside0.mk (Qao (Zb) hb); clear hb hbox hg))
 go_loopg [4, 9] k (fun kq v4 v9 w' => ∃ (x4_1 : List (S46)) (x9_1 : Int), v9 = .int .i64 x9_1 ∧ Aside0 (Qa6.l0 kq x4_1 l0 (l0.length : Int) x9_1 a1_0 a1_1 = some r) ∧ Aside0 (kq ≤ k) ∧ Aside0 (Kd.R k46 46 w' w.heap.size (fun _ => True) v4 x4_1) ∧ Aside0 (w'.heap[gb197]? = some (.cells #[.string a1_0, .string a1_1] 44 (0, 0))) ∧ Aside0 (Below w.heap.size w w'))
 case atStart => exact ⟨(([] : List (S46))), (0), (Zs), H', ⟨Nat.le_refl _⟩, ⟨by first | exact Kd.R_nil _ _ _ _ _ | exact Kd.N_nil _ _ _ _ _ | exact Kd.V_nil _ _ _ _ _ | exact Kd.Q_nil _ _ _ _ _ | exact Kd.S_nil _ _ _ _ _⟩, ⟨Zu BK197.out⟩, ⟨Zc1 GE197.out⟩⟩
 case round =>
  clear H'
  try clear p2
  obtain ⟨x4_1, x9_1, rfl, HA, HK1, HO_4, BK197, HB⟩ := hrel
  cases gk with
  | zero => exact absurd HA.out (by simp [Qa6.l0])
  | succ k1 =>
   have H := HA.out
   clear HA
   simp only [Qa6.l0] at H
   by_cases c4 : x9_1 < (l0.length : Int)
   ·rw [if_pos c4] at H
    have c4b0 : decide (x9_1 < (l0.length : Int)) = T := decide_eq_true c4
    clear c4
    (try simp only [c4b0])
    by_cases c5 : 0 ≤ x9_1
    ·rw [if_pos c5] at H
     have c5b0 : decide (0 ≤ x9_1) = T := decide_eq_true c5
     clear c5
     by_cases c6 : x9_1 < (l0.length : Int)
     ·rw [if_pos c6] at H
      have c6b0 : decide (x9_1 < (l0.length : Int)) = T := decide_eq_true c6
      clear c6
      have p198 : 0 ≤ (x9_1 : Int) := Ze
      have q198 : x9_1 < (l0.length : Int) := Ze
      obtain ⟨ad198, e198, hx198_0, hx198_1, hx198_2, hx198_3⟩ := at_T46 HR0.out x9_1 p198 q198
      cases e198
      replace hx198_0 := Zx HB.out hx198_0
      replace hx198_1 := Zx HB.out hx198_1
      replace hx198_2 := Zx HB.out hx198_2
      replace hx198_3 := Zx HB.out hx198_3
      replace p198 := eq_true p198
      replace q198 := eq_true q198
      go_upto_if 16 with (first | ((with_reducible refine QaJ (N := 6) rfl ?_); refine Zbx (N := 6) (cs := #[.string (⟨#[]⟩ : ByteArray), .string (⟨#[]⟩ : ByteArray), .string (⟨#[]⟩ : ByteArray), .int .i64 0]) (t := 46) ?_; intro gb199 hg w7 hbox hb; have BK199 := Aside0.mk (hbox); have GW199 := Aside0.mk (Zt w hg (Zc1 GE197.out)); have GE199 := GW199; have NB197_199 := Aside0.mk (Zn hg BK197.out); have NB199_197 := Aside0.mk NB197_199.out.symm; replace HO_4 := Aside0.mk (Kd.R_below (Kd.R_elderB (Zr HO_4.out) gb199 (Nat.le_of_eq hg.symm)) hb); replace BK197 := Aside0.mk (Zi BK197.out hb); replace HB := Aside0.mk (Qao (Zc1 GE197.out) hb); clear hb hbox hg; have hnb8 := NB199_197.out; have hnc8 := NB197_199.out; obtain ⟨hcz9_0, hfz9_0⟩ := Zy (v := (.string (⟨#[]⟩ : ByteArray))) BK199.out 0; obtain ⟨hcz9_1, hfz9_1⟩ := Zy (v := (.string (⟨#[]⟩ : ByteArray))) BK199.out 1; obtain ⟨hcz9_2, hfz9_2⟩ := Zy (v := (.string (⟨#[]⟩ : ByteArray))) BK199.out 2; obtain ⟨hcz9_3, hfz9_3⟩ := Zy (v := (.int .i64 0)) BK199.out 3; obtain ⟨hcz10_0, hfz10_0⟩ := Zy (v := (.string a1_0)) BK197.out 0; obtain ⟨hcz10_1, hfz10_1⟩ := Zy (v := (.string a1_1)) BK197.out 1))
      (try simp only [Act.put, Zj, Zk, Zm])
      by_cases c11 : ((((rd_T46 l0 x9_1).f0.f0).toList) == a1_0.toList && ((((rd_T46 l0 x9_1).f0.f1).toList) == a1_1.toList)) = T
      ·rw [if_pos c11] at H
       have c11b0 : ((((rd_T46 l0 x9_1).f0.f0).toList) == a1_0.toList && ((((rd_T46 l0 x9_1).f0.f1).toList) == a1_1.toList)) = T := c11
       (try (have c11b1 : decide ((((rd_T46 l0 x9_1).f0.f0).toList) = a1_0.toList && ((((rd_T46 l0 x9_1).f0.f1).toList) == a1_1.toList)) = T := by simpa using c11))
       (try (have c11b2 : ((((rd_T46 l0 x9_1).f0.f0).toList) == a1_0.toList && ((((rd_T46 l0 x9_1).f0.f1).toList) == a1_1.toList)) = T := by simpa using c11))
       clear c11
       (try simp only [c11b0])
       by_cases c12 : x4_1.length < 2513169434916
       ·rw [if_pos c12] at H
        have LMc12 := Aside0.mk c12
        clear c12
        obtain ⟨y200, hy200⟩ : ∃ y_ : List (S46), y_ = (x4_1 ++ [(⟨(⟨(rd_T46 l0 x9_1).f0.f0, (rd_T46 l0 x9_1).f0.f1⟩ : S44), (rd_T46 l0 x9_1).f1, (rd_T46 l0 x9_1).f2⟩ : S46)]) := ⟨_, rfl⟩
        replace H : (Qa6.l0 k1 y200 l0 (l0.length : Int) (wrap64 (x9_1 + 1)) a1_0 a1_1) = some r := by first | (rw [hy200]; with_reducible exact H) | (have H2_ := (Option.bind_some _ _).symm.trans H; rw [hy200]; with_reducible exact H2_) | (have H2_ := (Option.bind_some _ _).symm.trans H; with_reducible exact H2_) | with_reducible exact H | (rw [hy200]; exact H) | exact H
        have Ny200 := Aside0.mk hy200
        clear hy200
        have H' := Aside0.mk H
        clear H
        have hnb13 := NB199_197.out
        have hnc13 := NB197_199.out
        obtain ⟨hcz14_0, hfz14_0⟩ := Zy (v := (.string (⟨#[]⟩ : ByteArray))) BK199.out 0
        obtain ⟨hcz14_1, hfz14_1⟩ := Zy (v := (.string (⟨#[]⟩ : ByteArray))) BK199.out 1
        obtain ⟨hcz14_2, hfz14_2⟩ := Zy (v := (.string (⟨#[]⟩ : ByteArray))) BK199.out 2
        obtain ⟨hcz14_3, hfz14_3⟩ := Zy (v := (.int .i64 0)) BK199.out 3
        go_wp2_with (first | ((with_reducible refine QbT (b := .append) (xs := #[.tmp 17, .tmp 19]) rfl ?_); at_builtin; refine Kd.R_append k46 (w0 := w) w.heap.size rfl (.tmp 17) (.tmp 19) 30 46 (.agg #[(.string ⟨#[]⟩), (.string ⟨#[]⟩), (.string ⟨#[]⟩), (.int .i64 0)]) 56 rfl Try.underlying30 info46 rfl (by decide) (by omega) u4 x4_1 (⟨(⟨(rd_T46 l0 x9_1).f0.f0, (rd_T46 l0 x9_1).f0.f1⟩ : S44), (rd_T46 l0 x9_1).f1, (rd_T46 l0 x9_1).f2⟩ : S46) [.string ((rd_T46 l0 x9_1).f0.f0), .string ((rd_T46 l0 x9_1).f0.f1), .string ((rd_T46 l0 x9_1).f1), .int .i64 ((rd_T46 l0 x9_1).f2)] (fun k_ => k_ ≠ gb199) (fun _ => False) rfl (by first | (go_simp; done) | (go_simp; rfl)) ?aP (fun _ hk => hk.elim) ?aF ?aO ?aB ?aS ?aL ?_; (case aP => exact Qcq _ _ _ (⟨(⟨(rd_T46 l0 x9_1).f0.f0, (rd_T46 l0 x9_1).f0.f1⟩ : S44), (rd_T46 l0 x9_1).f1, (rd_T46 l0 x9_1).f2⟩ : S46)); (case aB => exact (Zc2 GE197.out GE199.out)); (case aF => exact (fun k_ hk => Kd.freshB (g := gb199) (o := .cells #[.string ((rd_T46 l0 x9_1).f0.f0), .string ((rd_T46 l0 x9_1).f0.f1), .string ((rd_T46 l0 x9_1).f1), .int .i64 ((rd_T46 l0 x9_1).f2)] 46 (0, 0)) (Zp2 BK199.out) k_ hk)); (case aO => exact (by (with_reducible repeat (first | apply Kd.R_alloc | apply Kd.R_drewN | apply Kd.R_drew)); exact Kd.R_mono (Zf gb199 3 (Zf gb199 2 (Zf gb199 1 (Zf gb199 0 (Kd.R_mono HO_4.out (fun k_ hk => (⟨hk, hk.2⟩ : _ ∧ k_ ≠ gb199))) (.string ((rd_T46 l0 x9_1).f0.f0))) (.string ((rd_T46 l0 x9_1).f0.f1))) (.string ((rd_T46 l0 x9_1).f1))) (.int .i64 ((rd_T46 l0 x9_1).f2))) (fun _ hk => hk.1.2))); (case aS => exact (Qam (Zc2 GE197.out GE199.out))); (case aL => have := LMc12.out; omega); intro v201 w15 ho hb hg hat; rw [← Ny200.out] at ho; have HO202 := Aside0.mk (ho); replace BK197 := Aside0.mk (Qbk (g := gb197) (o := .cells #[.string a1_0, .string a1_1] 44 (0, 0)) (Zg4 BK197.out NB197_199.out NB197_199.out NB197_199.out NB197_199.out) hg (Kd.R_ne HO_4.out BK197.out (by decide))); replace BK199 := Aside0.mk (Qbk (g := gb199) (o := .cells #[.string ((rd_T46 l0 x9_1).f0.f0), .string ((rd_T46 l0 x9_1).f0.f1), .string ((rd_T46 l0 x9_1).f1), .int .i64 ((rd_T46 l0 x9_1).f2)] 46 (0, 0)) (Zp2 BK199.out) hg (Kd.R_away HO_4.out (fun _ hk => hk.2))); replace HB := Aside0.mk (hb); clear HO_4; clear ho hb hg hat))
        go_roundg k1
        case measure => have := HK1.out; omega
        case rel => exact ⟨(y200), (wrap64 (x9_1 + 1)), (Zs), H', ⟨by have := HK1.out; omega⟩, ⟨by (with_reducible repeat (first | apply Kd.R_alloc | apply Kd.R_drewN | apply Kd.R_drew)); exact Kd.R_mono HO202.out (fun _ hk => trivial)⟩, ⟨Zu BK197.out⟩, ⟨Zc2 GE197.out GE199.out⟩⟩
       rw [if_neg c12] at H
       exact absurd H (by simp)
      rw [if_neg c11] at H
      have c11b0 : ((((rd_T46 l0 x9_1).f0.f0).toList) == a1_0.toList && ((((rd_T46 l0 x9_1).f0.f1).toList) == a1_1.toList)) = false := by simpa using c11
      (try (have c11b1 : decide ((((rd_T46 l0 x9_1).f0.f0).toList) = a1_0.toList && ((((rd_T46 l0 x9_1).f0.f1).toList) == a1_1.toList)) = false := by simpa using c11))
      (try (have c11b2 : ((((rd_T46 l0 x9_1).f0.f0).toList) == a1_0.toList && ((((rd_T46 l0 x9_1).f0.f1).toList) == a1_1.toList)) = false := by simpa using c11))
      (try (have c11b3 : ¬ ((((rd_T46 l0 x9_1).f0.f0).toList) = a1_0.toList && ((((rd_T46 l0 x9_1).f0.f1).toList) == a1_1.toList)) := by simpa using c11))
      clear c11
      (try simp only [c11b0])
      have H' := Aside0.mk H
      clear H
      go_wp2
      go_roundg k1
      case measure => have := HK1.out; omega
      case rel => exact ⟨(x4_1), (wrap64 (x9_1 + 1)), (Zs), H', ⟨by have := HK1.out; omega⟩, ⟨by (with_reducible repeat (first | apply Kd.R_alloc | apply Kd.R_drewN | apply Kd.R_drew)); exact Kd.R_mono (Zf gb199 3 (Zf gb199 2 (Zf gb199 1 (Zf gb199 0 (Kd.R_mono HO_4.out (fun k_ hk => (⟨hk, hk.2⟩ : _ ∧ k_ ≠ gb199))) (.string ((rd_T46 l0 x9_1).f0.f0))) (.string ((rd_T46 l0 x9_1).f0.f1))) (.string ((rd_T46 l0 x9_1).f1))) (.int .i64 ((rd_T46 l0 x9_1).f2))) (fun _ hk => trivial)⟩, ⟨Zg4 BK197.out NB197_199.out NB197_199.out NB197_199.out NB197_199.out⟩, ⟨Zc2 GE197.out GE199.out⟩⟩
     rw [if_neg c6] at H
     exact absurd H (by simp)
    rw [if_neg c5] at H
    exact absurd H (by simp)
   rw [if_neg c4] at H
   have c4b0 : decide (x9_1 < (l0.length : Int)) = false := decide_eq_false c4
   clear c4
   (try simp only [c4b0])
   obtain rfl := Option.some.inj H
   go_wp2
   go_ret
   exact ⟨_, Zq, Zr HO_4.out, Zc1 GE197.out⟩
def Qbn.l0 : Nat → ByteArray → List (S46) → Int → Int → ByteArray → ByteArray → Option (Int)
 | 0, _, _, _, _, _, _ => none
 | k + 1, x2, x9, x10, x11, x609000, x609001 => if x11 < x10 then (if 0 ≤ x11 then (if x11 < (x9.length : Int) then (if ((((rd_T46 x9 x11).f0.f0).toList) == x609000.toList && ((((rd_T46 x9 x11).f0.f1).toList) == x609001.toList)) = T then (if ((rd_T46 x9 x11).f1).toList = x2.toList then (some ((rd_T46 x9 x11).f2)) else (Qbn.l0 k x2 x9 x10 (wrap64 (x11 + 1)) x609000 x609001)) else (Qbn.l0 k x2 x9 x10 (wrap64 (x11 + 1)) x609000 x609001)) else (none)) else (none)) else (some 0)
def Qbn.f (k : Nat) (l0 : List (S46)) (a1_0 : ByteArray) (a1_1 : ByteArray) (a2 : ByteArray) : Option (Int) := Qbn.l0 k a2 l0 (l0.length : Int) 0 a1_0 a1_1
theorem Qbn.mono_l : ∀ k, (∀ y0 y1 y2 y3 y4 y5, LeO (Qbn.l0 k y0 y1 y2 y3 y4 y5) (Qbn.l0 (k + 1) y0 y1 y2 y3 y4 y5))
 | 0 => fun _ _ _ _ _ _ r h => by simp [Qbn.l0] at h
 | k + 1 => by
  have ih0 := Qbn.mono_l k
  intro y0 y1 y2 y3 y4 y5
  unfold Qbn.l0
  exact ZM1 ih0
theorem Qbn.mono : ∀ a0 a1 a2 a3 k, LeO (Qbn.f k a0 a1 a2 a3) (Qbn.f (k + 1) a0 a1 a2 a3) := by
 intro a0 a1 a2 a3 k
 have ih0 := Qbn.mono_l k
 unfold Qbn.f
 exact ZM1 ih0
theorem Qbn.calls (k : Nat) (A0 : Option Addr) (c0 : Nat) (l0 : List (S46)) (a1_0 : ByteArray) (a1_1 : ByteArray) (a2 : ByteArray) (r : Int) (w : World) (hr0 : Kd.C k46 w A0 l0.length l0) (hc0 : l0.length ≤ c0) (h : Qbn.f k l0 a1_0 a1_1 a2 = some r) :
  Calls Try.prog 46 #[.slice A0 l0.length c0, .agg #[.string a1_0, .string a1_1], .string a2] w fun e w' => e = .returned (.int .i64 r) ∧ Below w.heap.size w w' := by
 have hu44 := Try.underlying44
 have hu46 := Try.underlying46
 have HR0 := Aside0.mk hr0
 have HC0 := Aside0.mk hc0
 clear hr0 hc0
 have HB := Aside0.mk (Below.refl w.heap.size w)
 have H : (Qbn.l0 k a2 l0 (l0.length : Int) 0 a1_0 a1_1) = some r := h
 clear h
 have H' := Aside0.mk H
 clear H
 go_enter Try.func46, Try.ntmps46
 go_wp2_with (first | ((with_reducible refine QaJ (N := 4) rfl ?_); refine Zbx (N := 4) (cs := #[.string a1_0, .string a1_1]) (t := 44) ?_; intro gb608 hg w4 hbox hb; have BK608 := Aside0.mk (hbox); have GW608 := Aside0.mk (Zt w hg (Zb)); have GE608 := GW608; replace HB := Aside0.mk (Qao (Zb) hb); clear hb hbox hg))
 go_loopg [11] k (fun kq v11 w' => ∃ (x11_1 : Int), v11 = .int .i64 x11_1 ∧ Aside0 (Qbn.l0 kq a2 l0 (l0.length : Int) x11_1 a1_0 a1_1 = some r) ∧ Aside0 (kq ≤ k) ∧ Aside0 (w'.heap[gb608]? = some (.cells #[.string a1_0, .string a1_1] 44 (0, 0))) ∧ Aside0 (Below w.heap.size w w'))
 case atStart => exact ⟨(0), (Zs), H', ⟨Nat.le_refl _⟩, ⟨Zu BK608.out⟩, ⟨Zc1 GE608.out⟩⟩
 case round =>
  clear H'
  try clear p2
  try clear c4
  obtain ⟨x11_1, rfl, HA, HK1, BK608, HB⟩ := hrel
  cases gk with
  | zero => exact absurd HA.out (by simp [Qbn.l0])
  | succ k1 =>
   have H := HA.out
   clear HA
   simp only [Qbn.l0] at H
   by_cases c5 : x11_1 < (l0.length : Int)
   ·rw [if_pos c5] at H
    have c5b0 : decide (x11_1 < (l0.length : Int)) = T := decide_eq_true c5
    clear c5
    (try simp only [c5b0])
    by_cases c6 : 0 ≤ x11_1
    ·rw [if_pos c6] at H
     have c6b0 : decide (0 ≤ x11_1) = T := decide_eq_true c6
     clear c6
     by_cases c7 : x11_1 < (l0.length : Int)
     ·rw [if_pos c7] at H
      have c7b0 : decide (x11_1 < (l0.length : Int)) = T := decide_eq_true c7
      clear c7
      have p609 : 0 ≤ (x11_1 : Int) := Ze
      have q609 : x11_1 < (l0.length : Int) := Ze
      obtain ⟨ad609, e609, hx609_0, hx609_1, hx609_2, hx609_3⟩ := at_T46 HR0.out x11_1 p609 q609
      cases e609
      replace hx609_0 := Zx HB.out hx609_0
      replace hx609_1 := Zx HB.out hx609_1
      replace hx609_2 := Zx HB.out hx609_2
      replace hx609_3 := Zx HB.out hx609_3
      replace p609 := eq_true p609
      replace q609 := eq_true q609
      go_upto_region 4 with (first | ((with_reducible refine QaJ (N := 8) rfl ?_); refine Zbx (N := 8) (cs := #[.string (⟨#[]⟩ : ByteArray), .string (⟨#[]⟩ : ByteArray), .string (⟨#[]⟩ : ByteArray), .int .i64 0]) (t := 46) ?_; intro gb610 hg w8 hbox hb; have BK610 := Aside0.mk (hbox); have GW610 := Aside0.mk (Zt w hg (Zc1 GE608.out)); have GE610 := GW610; have NB608_610 := Aside0.mk (Zn hg BK608.out); have NB610_608 := Aside0.mk NB608_610.out.symm; replace BK608 := Aside0.mk (Zi BK608.out hb); replace HB := Aside0.mk (Qao (Zc1 GE608.out) hb); clear hb hbox hg; have hnb9 := NB610_608.out; have hnc9 := NB608_610.out; obtain ⟨hcz10_0, hfz10_0⟩ := Zy (v := (.string (⟨#[]⟩ : ByteArray))) BK610.out 0; obtain ⟨hcz10_1, hfz10_1⟩ := Zy (v := (.string (⟨#[]⟩ : ByteArray))) BK610.out 1; obtain ⟨hcz10_2, hfz10_2⟩ := Zy (v := (.string (⟨#[]⟩ : ByteArray))) BK610.out 2; obtain ⟨hcz10_3, hfz10_3⟩ := Zy (v := (.int .i64 0)) BK610.out 3))
      (try simp only [Act.put, Zj, Zk, Zm])
      by_cases c11 : ((((rd_T46 l0 x11_1).f0.f0).toList) == a1_0.toList && ((((rd_T46 l0 x11_1).f0.f1).toList) == a1_1.toList)) = T
      ·rw [if_pos c11] at H
       have c11b0 : ((((rd_T46 l0 x11_1).f0.f0).toList) == a1_0.toList && ((((rd_T46 l0 x11_1).f0.f1).toList) == a1_1.toList)) = T := c11
       (try (have c11b1 : decide ((((rd_T46 l0 x11_1).f0.f0).toList) = a1_0.toList && ((((rd_T46 l0 x11_1).f0.f1).toList) == a1_1.toList)) = T := by simpa using c11))
       (try (have c11b2 : ((((rd_T46 l0 x11_1).f0.f0).toList) == a1_0.toList && ((((rd_T46 l0 x11_1).f0.f1).toList) == a1_1.toList)) = T := by simpa using c11))
       clear c11
       (try simp only [c11b0])
       have hnb12 := NB610_608.out
       have hnc12 := NB608_610.out
       obtain ⟨hcz13_0, hfz13_0⟩ := Zy (v := (.string (⟨#[]⟩ : ByteArray))) BK610.out 0
       obtain ⟨hcz13_1, hfz13_1⟩ := Zy (v := (.string (⟨#[]⟩ : ByteArray))) BK610.out 1
       obtain ⟨hcz13_2, hfz13_2⟩ := Zy (v := (.string (⟨#[]⟩ : ByteArray))) BK610.out 2
       obtain ⟨hcz13_3, hfz13_3⟩ := Zy (v := (.int .i64 0)) BK610.out 3
       obtain ⟨hcz14_0, hfz14_0⟩ := Zy (v := (.string a1_0)) BK608.out 0
       obtain ⟨hcz14_1, hfz14_1⟩ := Zy (v := (.string a1_1)) BK608.out 1
       go_upto_if 24 with (fail)
       by_cases c15 : ((rd_T46 l0 x11_1).f1).toList = a2.toList
       ·rw [if_pos c15] at H
        have c15b0 : (((rd_T46 l0 x11_1).f1).toList == a2.toList) = T := beq_iff_eq.mpr c15
        have c15b1 : (((rd_T46 l0 x11_1).f1).toList != a2.toList) = false := bne_eq_false_iff_eq.mpr c15
        clear c15
        (try simp only [c15b0, c15b1])
        obtain rfl := Option.some.inj H
        have hnb16 := NB610_608.out
        have hnc16 := NB608_610.out
        obtain ⟨hcz17_0, hfz17_0⟩ := Zy (v := (.string (⟨#[]⟩ : ByteArray))) BK610.out 0
        obtain ⟨hcz17_1, hfz17_1⟩ := Zy (v := (.string (⟨#[]⟩ : ByteArray))) BK610.out 1
        obtain ⟨hcz17_2, hfz17_2⟩ := Zy (v := (.string (⟨#[]⟩ : ByteArray))) BK610.out 2
        obtain ⟨hcz17_3, hfz17_3⟩ := Zy (v := (.int .i64 0)) BK610.out 3
        go_wp2
        go_ret
        exact ⟨Zq, Zc2 GE608.out GE610.out⟩
       rw [if_neg c15] at H
       have c15b0 : (((rd_T46 l0 x11_1).f1).toList == a2.toList) = false := beq_eq_false_iff_ne.mpr c15
       have c15b1 : (((rd_T46 l0 x11_1).f1).toList != a2.toList) = T := bne_iff_ne.mpr c15
       (try simp only [c15b0, c15b1])
       have H' := Aside0.mk H
       clear H
       go_wp2
       go_roundg k1
       case measure => have := HK1.out; omega
       case rel => exact ⟨(wrap64 (x11_1 + 1)), (Zs), H', ⟨by have := HK1.out; omega⟩, ⟨Zg4 BK608.out NB608_610.out NB608_610.out NB608_610.out NB608_610.out⟩, ⟨Zc2 GE608.out GE610.out⟩⟩
      rw [if_neg c11] at H
      have c11b0 : ((((rd_T46 l0 x11_1).f0.f0).toList) == a1_0.toList && ((((rd_T46 l0 x11_1).f0.f1).toList) == a1_1.toList)) = false := by simpa using c11
      (try (have c11b1 : decide ((((rd_T46 l0 x11_1).f0.f0).toList) = a1_0.toList && ((((rd_T46 l0 x11_1).f0.f1).toList) == a1_1.toList)) = false := by simpa using c11))
      (try (have c11b2 : ((((rd_T46 l0 x11_1).f0.f0).toList) == a1_0.toList && ((((rd_T46 l0 x11_1).f0.f1).toList) == a1_1.toList)) = false := by simpa using c11))
      (try (have c11b3 : ¬ ((((rd_T46 l0 x11_1).f0.f0).toList) = a1_0.toList && ((((rd_T46 l0 x11_1).f0.f1).toList) == a1_1.toList)) := by simpa using c11))
      clear c11
      (try simp only [c11b0])
      have H' := Aside0.mk H
      clear H
      have hnb18 := NB610_608.out
      have hnc18 := NB608_610.out
      obtain ⟨hcz19_0, hfz19_0⟩ := Zy (v := (.string (⟨#[]⟩ : ByteArray))) BK610.out 0
      obtain ⟨hcz19_1, hfz19_1⟩ := Zy (v := (.string (⟨#[]⟩ : ByteArray))) BK610.out 1
      obtain ⟨hcz19_2, hfz19_2⟩ := Zy (v := (.string (⟨#[]⟩ : ByteArray))) BK610.out 2
      obtain ⟨hcz19_3, hfz19_3⟩ := Zy (v := (.int .i64 0)) BK610.out 3
      obtain ⟨hcz20_0, hfz20_0⟩ := Zy (v := (.string a1_0)) BK608.out 0
      obtain ⟨hcz20_1, hfz20_1⟩ := Zy (v := (.string a1_1)) BK608.out 1
      go_wp2
      go_roundg k1
      case measure => have := HK1.out; omega
      case rel => exact ⟨(wrap64 (x11_1 + 1)), (Zs), H', ⟨by have := HK1.out; omega⟩, ⟨Zg4 BK608.out NB608_610.out NB608_610.out NB608_610.out NB608_610.out⟩, ⟨Zc2 GE608.out GE610.out⟩⟩
     rw [if_neg c7] at H
     exact absurd H (by simp)
    rw [if_neg c6] at H
    exact absurd H (by simp)
   rw [if_neg c5] at H
   have c5b0 : decide (x11_1 < (l0.length : Int)) = false := decide_eq_false c5
   clear c5
   (try simp only [c5b0])
   obtain rfl := Option.some.inj H
   go_wp2
   go_ret
   exact ⟨Zq, Zc1 GE608.out⟩
end Go.Proofs.Ytfcaaefdmabkhaa.Pr
