/- Functions' values and contracts, as the print wrote them. -/
import Derived.Test.YtaembbndjpebhaaQBF7P0
namespace Go.Proofs.Ytaembbndjpebhaa.Pr
open Bool renaming true → T
open Bool renaming false → F
open Go.RowKit Go.Proofs.YtaembbndjpebhaaW.PrintWords Go.Proofs.YtaembbndjpebhaaW.PrintLast Go.Proofs.YtaembbndjpebhaaW.PrintMore
attribute [local go_sem] QaK QaM QaQ QaR QaI QaJ QaL QaN   -- for this text's walks alone
set_option linter.unusedVariables false
set_option linter.unusedSimpArgs false
set_option maxRecDepth 100000
set_option maxHeartbeats 8000000
def QaC.f (k : Nat) (l0 : List (S56)) (a1 : Int) (a2 : Int) : Option (Int × Int) := (QaT.f k l0 a2).bind fun t256 => (if t256 = 0 then (if a1 < 0 then (some (0, 15)) else (if a1 > 73048 then (some (0, 15)) else ((QaA.f k l0 a1 a2).bind fun t257 => (some (t257, 0))))) else (some (0, t256)))
theorem QaC.mono : ∀ a0 a1 a2 k, LeO (QaC.f k a0 a1 a2) (QaC.f (k + 1) a0 a1 a2) := by
 intro a0 a1 a2 k
 unfold QaC.f
 exact ZM2 QaT.mono QaA.mono
theorem QaC.calls (k : Nat) (A0 : Option Addr) (c0 : Nat) (l0 : List (S56)) (a1 : Int) (a2 : Int) (r1 : Int) (r2 : Int) (w : World) (hr0 : Kd.C k56 w A0 l0.length l0) (hc0 : l0.length ≤ c0) (h : QaC.f k l0 a1 a2 = some (r1, r2)) :
  Calls Try.prog 29 #[.slice A0 l0.length c0, .int .i64 a1, .int .i64 a2] w fun e w' => e = .returned (.tuple #[.int .i64 r1, .int .i64 r2]) ∧ Below w.heap.size w w' := by
 have HR0 := Aside0.mk hr0
 have HC0 := Aside0.mk hc0
 clear hr0 hc0
 have HB := Aside0.mk (Below.refl w.heap.size w)
 have H : ((QaT.f k l0 a2).bind fun t256 => (if t256 = 0 then (if a1 < 0 then (some (0, 15)) else (if a1 > 73048 then (some (0, 15)) else ((QaA.f k l0 a1 a2).bind fun t257 => (some (t257, 0))))) else (some (0, t256)))) = some (r1, r2) := h
 clear h
 replace H := Option.bind_eq_some_iff.mp H
 obtain ⟨t256, A40, H⟩ := H
 replace H : (if t256 = 0 then (if a1 < 0 then (some (0, 15)) else (if a1 > 73048 then (some (0, 15)) else ((QaA.f k l0 a1 a2).bind fun t257 => (some (t257, 0))))) else (some (0, t256))) = some (r1, r2) := H
 have A4 := Aside0.mk A40
 clear A40
 go_enter Try.func29, Try.ntmps29
 go_upto_if 12 with (first | ((with_reducible refine QaD (f := 57) rfl ?_); refine goesL_ (some 10) rfl rfl Try.func57 (by kernel_rfl) rfl #[.slice A0 l0.length c0, .int .i64 a2] rfl (Zl) ?_; (with_reducible refine (QaT.calls k _ _ l0 a2 t256 _ ?side1 ?side2 A4.out).mono ?_); (case side1 => exact Zv HR0.out); (case side2 => exact HC0.out); rintro e w5 ⟨rfl, hb⟩; refine ⟨_, rfl, ?_⟩; replace HB := Aside0.mk (Qat (Zb) hb); (try clear hb); (try clear hb2); (try clear hk); (try clear hi)))
 (try simp only [Act.put, Zj, Zk, Zm])
 by_cases c6 : t256 = 0
 ·rw [if_pos c6] at H
  have c6b0 : (t256 == 0) = T := beq_iff_eq.mpr c6
  have c6b1 : (t256 != 0) = F := bne_eq_false_iff_eq.mpr c6
  clear c6
  (try simp only [c6b0, c6b1])
  by_cases c7 : a1 < 0
  ·rw [if_pos c7] at H
   have c7b0 : decide (a1 < 0) = T := decide_eq_true c7
   clear c7
   simp only [Option.some.injEq, Prod.mk.injEq] at H
   obtain ⟨rfl, rfl⟩ := H
   go_wp2
   go_ret2
   exact ⟨Zq, Zb⟩
  rw [if_neg c7] at H
  have c7b0 : decide (a1 < 0) = F := decide_eq_false c7
  clear c7
  by_cases c8 : a1 > 73048
  ·rw [if_pos c8] at H
   have c8b0 : decide (73048 < a1) = T := decide_eq_true c8
   clear c8
   (try simp only [c8b0])
   simp only [Option.some.injEq, Prod.mk.injEq] at H
   obtain ⟨rfl, rfl⟩ := H
   go_wp2
   go_ret2
   exact ⟨Zq, Zb⟩
  rw [if_neg c8] at H
  have c8b0 : decide (73048 < a1) = F := decide_eq_false c8
  clear c8
  (try simp only [c8b0])
  replace H := Option.bind_eq_some_iff.mp H
  obtain ⟨t257, A90, H⟩ := H
  replace H : (some (t257, 0)) = some (r1, r2) := H
  have A9 := Aside0.mk A90
  clear A90
  simp only [Option.some.injEq, Prod.mk.injEq] at H
  obtain ⟨rfl, rfl⟩ := H
  go_wp2_with (first | ((with_reducible refine QaD (f := 58) rfl ?_); refine goesL_ (some 23) rfl rfl Try.func58 (by kernel_rfl) rfl #[.slice A0 l0.length c0, .int .i64 a1, .int .i64 a2] rfl (Zl) ?_; (with_reducible refine (QaA.calls k _ _ l0 a1 a2 t257 _ ?side1 ?side2 A9.out).mono ?_); (case side1 => exact Zv (Kd.C_below HR0.out HB.out)); (case side2 => exact HC0.out); rintro e w10 ⟨rfl, hb⟩; refine ⟨_, rfl, ?_⟩; replace HB := Aside0.mk (Qat (Zb) hb); (try clear hb); (try clear hb2); (try clear hk); (try clear hi)))
  go_ret2
  exact ⟨Zq, Zb⟩
 rw [if_neg c6] at H
 have c6b0 : (t256 == 0) = F := beq_eq_false_iff_ne.mpr c6
 have c6b1 : (t256 != 0) = T := bne_iff_ne.mpr c6
 (try simp only [c6b0, c6b1])
 simp only [Option.some.injEq, Prod.mk.injEq] at H
 obtain ⟨rfl, rfl⟩ := H
 go_wp2
 go_ret2
 exact ⟨Zq, Zb⟩
def Qau.l0 : Nat → List (S56) → Int → List (S56) → List (S56) → Int → Int → Option ((List (S56)) × Int)
 | 0, _, _, _, _, _, _ => none
 | k + 1, x0, x1, x4, x14, x15, x16 => if x16 < x15 then (if 0 ≤ x16 then (if x16 < (x14.length : Int) then (if ((rd_T56 x14 x16).f2 = T) then (if x4.length < 5864062014805 then (Qau.l0 k x0 x1 (x4 ++ [(⟨(rd_T56 x14 x16).f0, (rd_T56 x14 x16).f1, (rd_T56 x14 x16).f2⟩ : S56)]) x14 x15 (wrap64 (x16 + 1))) else (none)) else ((QaA.f k x0 ((rd_T56 x14 x16).f0) x1).bind fun t264 => (if x4.length < 5864062014805 then (Qau.l0 k x0 x1 (x4 ++ [(⟨(rd_T56 x14 x16).f0, t264, T⟩ : S56)]) x14 x15 (wrap64 (x16 + 1))) else (none)))) else (none)) else (none)) else (some (x4, 0))
def Qau.f (k : Nat) (l0 : List (S56)) (a1 : Int) : Option ((List (S56)) × Int) := (QaT.f k l0 a1).bind fun t258 => (if t258 = 0 then (Qau.l0 k l0 a1 ([] : List (S56)) l0 (l0.length : Int) 0) else (some (([] : List (S56)), t258)))
theorem Qau.mono_l : ∀ k, (∀ y0 y1 y2 y3 y4 y5, LeO (Qau.l0 k y0 y1 y2 y3 y4 y5) (Qau.l0 (k + 1) y0 y1 y2 y3 y4 y5))
 | 0 => fun _ _ _ _ _ _ r h => by simp [Qau.l0] at h
 | k + 1 => by
  have ih0 := Qau.mono_l k
  intro y0 y1 y2 y3 y4 y5
  unfold Qau.l0
  exact ZM3 ih0 QaT.mono QaA.mono
theorem Qau.mono : ∀ a0 a1 k, LeO (Qau.f k a0 a1) (Qau.f (k + 1) a0 a1) := by
 intro a0 a1 k
 have ih0 := Qau.mono_l k
 unfold Qau.f
 exact ZM3 ih0 QaT.mono QaA.mono
theorem Qau.calls (k : Nat) (A0 : Option Addr) (c0 : Nat) (l0 : List (S56)) (a1 : Int) (r1 : List (S56)) (r2 : Int) (w : World) (hr0 : Kd.C k56 w A0 l0.length l0) (hc0 : l0.length ≤ c0) (h : Qau.f k l0 a1 = some (r1, r2)) :
  Calls Try.prog 35 #[.slice A0 l0.length c0, .int .i64 a1] w fun e w' => ∃ v0_ : Value, e = .returned (.tuple #[v0_, .int .i64 r2]) ∧ Kd.R k56 56 w' w.heap.size (fun _ => True) v0_ r1 ∧ Below w.heap.size w w' := by
 have hu56 := Try.underlying56
 have HR0 := Aside0.mk hr0
 have HC0 := Aside0.mk hc0
 clear hr0 hc0
 have HB := Aside0.mk (Below.refl w.heap.size w)
 have H : ((QaT.f k l0 a1).bind fun t258 => (if t258 = 0 then (Qau.l0 k l0 a1 ([] : List (S56)) l0 (l0.length : Int) 0) else (some (([] : List (S56)), t258)))) = some (r1, r2) := h
 clear h
 replace H := Option.bind_eq_some_iff.mp H
 obtain ⟨t258, A30, H⟩ := H
 replace H : (if t258 = 0 then (Qau.l0 k l0 a1 ([] : List (S56)) l0 (l0.length : Int) 0) else (some (([] : List (S56)), t258))) = some (r1, r2) := H
 have A3 := Aside0.mk A30
 clear A30
 go_enter Try.func35, Try.ntmps35
 go_upto_if 12 with (first | ((with_reducible refine QaD (f := 57) rfl ?_); refine goesL_ (some 10) rfl rfl Try.func57 (by kernel_rfl) rfl #[.slice A0 l0.length c0, .int .i64 a1] rfl (Zl) ?_; (with_reducible refine (QaT.calls k _ _ l0 a1 t258 _ ?side1 ?side2 A3.out).mono ?_); (case side1 => exact Zv HR0.out); (case side2 => exact HC0.out); rintro e w4 ⟨rfl, hb⟩; refine ⟨_, rfl, ?_⟩; replace HB := Aside0.mk (Qat (Zb) hb); (try clear hb); (try clear hb2); (try clear hk); (try clear hi)))
 (try simp only [Act.put, Zj, Zk, Zm])
 by_cases c5 : t258 = 0
 ·rw [if_pos c5] at H
  have c5b0 : (t258 == 0) = T := beq_iff_eq.mpr c5
  have c5b1 : (t258 != 0) = F := bne_eq_false_iff_eq.mpr c5
  clear c5
  (try simp only [c5b0, c5b1])
  have H' := Aside0.mk H
  clear H
  go_wp2
  go_loopg [4, 16] k (fun kq v4 v16 w' => ∃ (x4_1 : List (S56)) (x16_1 : Int), v16 = .int .i64 x16_1 ∧ Aside0 (Qau.l0 kq l0 a1 x4_1 l0 (l0.length : Int) x16_1 = some (r1, r2)) ∧ Aside0 (kq ≤ k) ∧ Aside0 (Kd.R k56 56 w' w.heap.size (fun _ => True) v4 x4_1) ∧ Aside0 (Below w.heap.size w w'))
  case atStart => exact ⟨(([] : List (S56))), (0), (Zs), H', ⟨Nat.le_refl _⟩, ⟨by first | exact Kd.R_nil _ _ _ _ _ | exact Kd.N_nil _ _ _ _ _ | exact Kd.V_nil _ _ _ _ _ | exact Kd.Q_nil _ _ _ _ _ | exact Kd.S_nil _ _ _ _ _⟩, ⟨Zb⟩⟩
  case round =>
   clear H'
   try clear p2
   try clear c3
   try clear c5
   try clear c5b0
   try clear c5b1
   obtain ⟨x4_1, x16_1, rfl, HA, HK1, HO_4, HB⟩ := hrel
   cases gk with
   | zero => exact absurd HA.out (by simp [Qau.l0])
   | succ k1 =>
    have H := HA.out
    clear HA
    simp only [Qau.l0] at H
    by_cases c6 : x16_1 < (l0.length : Int)
    ·rw [if_pos c6] at H
     have c6b0 : decide (x16_1 < (l0.length : Int)) = T := decide_eq_true c6
     clear c6
     (try simp only [c6b0])
     by_cases c7 : 0 ≤ x16_1
     ·rw [if_pos c7] at H
      have c7b0 : decide (0 ≤ x16_1) = T := decide_eq_true c7
      clear c7
      by_cases c8 : x16_1 < (l0.length : Int)
      ·rw [if_pos c8] at H
       have c8b0 : decide (x16_1 < (l0.length : Int)) = T := decide_eq_true c8
       clear c8
       have p259 : 0 ≤ (x16_1 : Int) := Ze
       have q259 : x16_1 < (l0.length : Int) := Ze
       obtain ⟨ad259, e259, hx259_0, hx259_1, hx259_2⟩ := at_T56 HR0.out x16_1 p259 q259
       cases e259
       replace hx259_0 := Zx HB.out hx259_0
       replace hx259_1 := Zx HB.out hx259_1
       replace hx259_2 := Zx HB.out hx259_2
       replace p259 := eq_true p259
       replace q259 := eq_true q259
       go_upto_if 22 with (first | ((with_reducible refine QaZ (N := 7) rfl ?_); refine Zbx (N := 7) (cs := #[.int .i64 0, .int .i64 0, .bool F]) (t := 56) ?_; intro gb260 hg w9 hbox hb; have BK260 := Aside0.mk (hbox); have GW260 := Aside0.mk (Zt w hg (Zb)); have GE260 := GW260; replace HO_4 := Aside0.mk (Kd.R_below (Kd.R_elderB (Zr HO_4.out) gb260 (Nat.le_of_eq hg.symm)) hb); replace HB := Aside0.mk (Qat (Zb) hb); clear hb hbox hg; have hcz10_0 : w9.cell? ⟨gb260, 0, none⟩ = some (.int .i64 0) := (Qap BK260.out 0).trans (by first | rfl | (rw [← Nbq11.out]; rfl)); have hcz10_1 : w9.cell? ⟨gb260, 1, none⟩ = some (.int .i64 0) := (Qap BK260.out 1).trans (by first | rfl | (rw [← Nbq11.out]; rfl)); have hcz10_2 : w9.cell? ⟨gb260, 2, none⟩ = some (.bool F) := (Qap BK260.out 2).trans (by first | rfl | (rw [← Nbq11.out]; rfl)); have hfz10_0 := Qaj BK260.out 0; have hfz10_1 := Qaj BK260.out 1; have hfz10_2 := Qaj BK260.out 2))
       (try simp only [Act.put, Zj, Zk, Zm])
       obtain ⟨bq11, hbq11⟩ : ∃ b_ : Bool, b_ = ((rd_T56 l0 x16_1).f2) := ⟨_, rfl⟩
       replace H : (if (bq11 = T) then (if x4_1.length < 5864062014805 then (Qau.l0 k1 l0 a1 (x4_1 ++ [(⟨(rd_T56 l0 x16_1).f0, (rd_T56 l0 x16_1).f1, bq11⟩ : S56)]) l0 (l0.length : Int) (wrap64 (x16_1 + 1))) else (none)) else ((QaA.f k1 l0 ((rd_T56 l0 x16_1).f0) a1).bind fun t264 => (if x4_1.length < 5864062014805 then (Qau.l0 k1 l0 a1 (x4_1 ++ [(⟨(rd_T56 l0 x16_1).f0, t264, T⟩ : S56)]) l0 (l0.length : Int) (wrap64 (x16_1 + 1))) else (none)))) = some (r1, r2) := by rw [← hbq11] at H; exact H
       have Nbq11 := Aside0.mk hbq11
       clear hbq11
       (try rw [← Nbq11.out])
       (try rw [← Nbq11.out] at hx259_0)
       (try rw [← Nbq11.out] at hx259_1)
       (try rw [← Nbq11.out] at hx259_2)
       (try rw [← Nbq11.out] at BK260)
       (try rw [← Nbq11.out] at hcz10_0)
       (try rw [← Nbq11.out] at hcz10_1)
       (try rw [← Nbq11.out] at hcz10_2)
       by_cases c12 : (bq11 = T)
       ·subst c12
        have H1 : (if x4_1.length < 5864062014805 then (Qau.l0 k1 l0 a1 (x4_1 ++ [(⟨(rd_T56 l0 x16_1).f0, (rd_T56 l0 x16_1).f1, T⟩ : S56)]) l0 (l0.length : Int) (wrap64 (x16_1 + 1))) else (none)) = some (r1, r2) := by rw [if_pos rfl] at H; exact H
        clear H
        have H := H1
        clear H1
        by_cases c13 : x4_1.length < 5864062014805
        ·rw [if_pos c13] at H
         have LMc13 := Aside0.mk c13
         clear c13
         obtain ⟨y261, hy261⟩ : ∃ y_ : List (S56), y_ = (x4_1 ++ [(⟨(rd_T56 l0 x16_1).f0, (rd_T56 l0 x16_1).f1, T⟩ : S56)]) := ⟨_, rfl⟩
         replace H : (Qau.l0 k1 l0 a1 y261 l0 (l0.length : Int) (wrap64 (x16_1 + 1))) = some (r1, r2) := by first | (rw [hy261]; with_reducible exact H) | (have H2_ := (Option.bind_some _ _).symm.trans H; rw [hy261]; with_reducible exact H2_) | (have H2_ := (Option.bind_some _ _).symm.trans H; with_reducible exact H2_) | with_reducible exact H | (rw [hy261]; exact H) | exact H
         have Ny261 := Aside0.mk hy261
         clear hy261
         have H' := Aside0.mk H
         clear H
         have hcz14_0 : w9.cell? ⟨gb260, 0, none⟩ = some (.int .i64 0) := (Qap BK260.out 0).trans (by first | rfl | (rw [← Nbq11.out]; rfl))
         have hcz14_1 : w9.cell? ⟨gb260, 1, none⟩ = some (.int .i64 0) := (Qap BK260.out 1).trans (by first | rfl | (rw [← Nbq11.out]; rfl))
         have hcz14_2 : w9.cell? ⟨gb260, 2, none⟩ = some (.bool F) := (Qap BK260.out 2).trans (by first | rfl | (rw [← Nbq11.out]; rfl))
         have hfz14_0 := Qaj BK260.out 0
         have hfz14_1 := Qaj BK260.out 1
         have hfz14_2 := Qaj BK260.out 2
         go_wp2_with (first | ((with_reducible refine Qa5 (b := .append) (xs := #[.tmp 30, .tmp 32]) rfl ?_); at_builtin; refine Kd.R_append k56 (w0 := w) w.heap.size rfl (.tmp 30) (.tmp 32) 48 56 (.agg #[(.int .i64 0), (.int .i64 0), (.bool F)]) 24 rfl Try.underlying48 info56 rfl (by decide) (by omega) u4 x4_1 (⟨(rd_T56 l0 x16_1).f0, (rd_T56 l0 x16_1).f1, T⟩ : S56) [.int .i64 ((rd_T56 l0 x16_1).f0), .int .i64 ((rd_T56 l0 x16_1).f1), .bool T] (fun k_ => k_ ≠ gb260) (fun _ => False) rfl (by first | (go_simp; done) | (go_simp; rfl)) ?aP (fun _ hk => hk.elim) ?aF ?aO ?aB ?aS ?aL ?_; (case aP => exact Qa9 _ _ _ (⟨(rd_T56 l0 x16_1).f0, (rd_T56 l0 x16_1).f1, T⟩ : S56)); (case aB => exact (Zc1 GE260.out)); (case aF => exact (fun k_ hk => Kd.freshB (g := gb260) (o := .cells #[.int .i64 ((rd_T56 l0 x16_1).f0), .int .i64 ((rd_T56 l0 x16_1).f1), .bool T] 56 (0, 0)) (Zp2 BK260.out) k_ hk)); (case aO => exact (by (with_reducible repeat (first | apply Kd.R_alloc | apply Kd.R_drewN | apply Kd.R_drew)); exact Kd.R_mono (Zf gb260 2 (Zf gb260 1 (Zf gb260 0 (Kd.R_mono HO_4.out (fun k_ hk => (⟨hk, hk.2⟩ : _ ∧ k_ ≠ gb260))) (.int .i64 ((rd_T56 l0 x16_1).f0))) (.int .i64 ((rd_T56 l0 x16_1).f1))) (.bool (T))) (fun _ hk => hk.1.2))); (case aS => exact (Qay (Zc1 GE260.out))); (case aL => have := LMc13.out; omega); intro v262 w15 ho hb hg hat; (first | rw [← Ny261.out] at ho | rw [Nbq11.out, ← Ny261.out] at ho); have HO263 := Aside0.mk (ho); replace BK260 := Aside0.mk (Qbh (g := gb260) (o := .cells #[.int .i64 ((rd_T56 l0 x16_1).f0), .int .i64 ((rd_T56 l0 x16_1).f1), .bool T] 56 (0, 0)) (Zp2 BK260.out) hg (Kd.R_away HO_4.out (fun _ hk => hk.2))); replace HB := Aside0.mk (hb); clear HO_4; clear ho hb hg hat))
         go_roundg k1
         case measure => have := HK1.out; omega
         case rel => exact ⟨(y261), (wrap64 (x16_1 + 1)), (Zs), H', ⟨by have := HK1.out; omega⟩, ⟨by (with_reducible repeat (first | apply Kd.R_alloc | apply Kd.R_drewN | apply Kd.R_drew)); exact Kd.R_mono HO263.out (fun _ hk => trivial)⟩, ⟨Zc1 GE260.out⟩⟩
        rw [if_neg c13] at H
        exact absurd H (by simp)
       replace c12 := Bool.eq_false_iff.mpr c12
       subst c12
       have H1 : ((QaA.f k1 l0 ((rd_T56 l0 x16_1).f0) a1).bind fun t264 => (if x4_1.length < 5864062014805 then (Qau.l0 k1 l0 a1 (x4_1 ++ [(⟨(rd_T56 l0 x16_1).f0, t264, T⟩ : S56)]) l0 (l0.length : Int) (wrap64 (x16_1 + 1))) else (none))) = some (r1, r2) := by rw [if_neg (show ¬ (F = T) by decide)] at H; exact H
       clear H
       have H := H1
       clear H1
       replace H := Option.bind_eq_some_iff.mp H
       obtain ⟨t264, A160, H⟩ := H
       replace H : (if x4_1.length < 5864062014805 then (Qau.l0 k1 l0 a1 (x4_1 ++ [(⟨(rd_T56 l0 x16_1).f0, t264, T⟩ : S56)]) l0 (l0.length : Int) (wrap64 (x16_1 + 1))) else (none)) = some (r1, r2) := H
       have A16 := Aside0.mk A160
       clear A160
       by_cases c17 : x4_1.length < 5864062014805
       ·rw [if_pos c17] at H
        have LMc17 := Aside0.mk c17
        clear c17
        obtain ⟨y265, hy265⟩ : ∃ y_ : List (S56), y_ = (x4_1 ++ [(⟨(rd_T56 l0 x16_1).f0, t264, T⟩ : S56)]) := ⟨_, rfl⟩
        replace H : (Qau.l0 k1 l0 a1 y265 l0 (l0.length : Int) (wrap64 (x16_1 + 1))) = some (r1, r2) := by first | (rw [hy265]; with_reducible exact H) | (have H2_ := (Option.bind_some _ _).symm.trans H; rw [hy265]; with_reducible exact H2_) | (have H2_ := (Option.bind_some _ _).symm.trans H; with_reducible exact H2_) | with_reducible exact H | (rw [hy265]; exact H) | exact H
        have Ny265 := Aside0.mk hy265
        clear hy265
        have H' := Aside0.mk H
        clear H
        have hcz18_0 : w9.cell? ⟨gb260, 0, none⟩ = some (.int .i64 0) := (Qap BK260.out 0).trans (by first | rfl | (rw [← Nbq11.out]; rfl))
        have hcz18_1 : w9.cell? ⟨gb260, 1, none⟩ = some (.int .i64 0) := (Qap BK260.out 1).trans (by first | rfl | (rw [← Nbq11.out]; rfl))
        have hcz18_2 : w9.cell? ⟨gb260, 2, none⟩ = some (.bool F) := (Qap BK260.out 2).trans (by first | rfl | (rw [← Nbq11.out]; rfl))
        have hfz18_0 := Qaj BK260.out 0
        have hfz18_1 := Qaj BK260.out 1
        have hfz18_2 := Qaj BK260.out 2
        go_wp2_with (first | ((with_reducible refine QaD (f := 58) rfl ?_); refine goesL_ (some 27) rfl rfl Try.func58 (by kernel_rfl) rfl #[.slice (some ad259) l0.length c0, .int .i64 ((rd_T56 l0 x16_1).f0), .int .i64 a1] rfl (Zl) ?_; (with_reducible refine (QaA.calls k1 _ _ l0 ((rd_T56 l0 x16_1).f0) a1 t264 _ ?side1 ?side2 A16.out).mono ?_); (case side1 => exact Kd.C_below HR0.out (Zc1 GE260.out)); (case side2 => exact HC0.out); rintro e w19 ⟨rfl, hb⟩; refine ⟨_, rfl, ?_⟩; replace HO_4 := Aside0.mk (Kd.R_below (by (with_reducible repeat (first | apply Kd.R_alloc | apply Kd.R_drewN | apply Kd.R_drew)); exact (Kd.R_mono (Zf gb260 2 (Zf gb260 1 (Zf gb260 0 (Kd.R_mono HO_4.out (fun k_ hk => (⟨hk, hk.2⟩ : _ ∧ k_ ≠ gb260))) (.int .i64 ((rd_T56 l0 x16_1).f0))) (.int .i64 ((rd_T56 l0 x16_1).f1))) (.bool (F))) (fun _ h_ => h_.1))) hb); replace BK260 := Aside0.mk (Zpi #[.int .i64 ((rd_T56 l0 x16_1).f0), .int .i64 ((rd_T56 l0 x16_1).f1), .bool F] BK260.out hb); replace HB := Aside0.mk (Qat (Zc1 GE260.out) hb); (try clear hb); (try clear hb2); (try clear hk); (try clear hi); have hcz20_0 : w19.cell? ⟨gb260, 0, none⟩ = some (.int .i64 ((rd_T56 l0 x16_1).f0)) := (Qap BK260.out 0).trans (by first | rfl | (rw [← Nbq11.out]; rfl)); have hcz20_1 : w19.cell? ⟨gb260, 1, none⟩ = some (.int .i64 ((rd_T56 l0 x16_1).f1)) := (Qap BK260.out 1).trans (by first | rfl | (rw [← Nbq11.out]; rfl)); have hcz20_2 : w19.cell? ⟨gb260, 2, none⟩ = some (.bool F) := (Qap BK260.out 2).trans (by first | rfl | (rw [← Nbq11.out]; rfl)); have hfz20_0 := Qaj BK260.out 0; have hfz20_1 := Qaj BK260.out 1; have hfz20_2 := Qaj BK260.out 2) | ((with_reducible refine Qa5 (b := .append) (xs := #[.tmp 30, .tmp 32]) rfl ?_); at_builtin; refine Kd.R_append k56 (w0 := w) w.heap.size rfl (.tmp 30) (.tmp 32) 48 56 (.agg #[(.int .i64 0), (.int .i64 0), (.bool F)]) 24 rfl Try.underlying48 info56 rfl (by decide) (by omega) u4 x4_1 (⟨(rd_T56 l0 x16_1).f0, t264, T⟩ : S56) [.int .i64 ((rd_T56 l0 x16_1).f0), .int .i64 t264, .bool T] (fun k_ => k_ ≠ gb260) (fun _ => False) rfl (by first | (go_simp; done) | (go_simp; rfl)) ?aP (fun _ hk => hk.elim) ?aF ?aO ?aB ?aS ?aL ?_; (case aP => exact Qa9 _ _ _ (⟨(rd_T56 l0 x16_1).f0, t264, T⟩ : S56)); (case aB => exact (Zc1 GE260.out)); (case aF => exact (fun k_ hk => Kd.freshB (g := gb260) (o := .cells #[.int .i64 ((rd_T56 l0 x16_1).f0), .int .i64 t264, .bool T] 56 (0, 0)) (Zp2 BK260.out) k_ hk)); (case aO => exact (by (with_reducible repeat (first | apply Kd.R_alloc | apply Kd.R_drewN | apply Kd.R_drew)); exact Kd.R_mono (Zf gb260 2 (Zf gb260 1 (Kd.R_mono HO_4.out (fun k_ hk => (⟨hk, hk.2⟩ : _ ∧ k_ ≠ gb260))) (.int .i64 t264)) (.bool T)) (fun _ hk => hk.1.2))); (case aS => exact (Qay (Zc1 GE260.out))); (case aL => have := LMc17.out; omega); intro v266 w21 ho hb hg hat; (first | rw [← Ny265.out] at ho | rw [Nbq11.out, ← Ny265.out] at ho); have HO267 := Aside0.mk (ho); replace BK260 := Aside0.mk (Qbh (g := gb260) (o := .cells #[.int .i64 ((rd_T56 l0 x16_1).f0), .int .i64 t264, .bool T] 56 (0, 0)) (Zp2 BK260.out) hg (Kd.R_away HO_4.out (fun _ hk => hk.2))); replace HB := Aside0.mk (hb); clear HO_4; clear ho hb hg hat))
        go_roundg k1
        case measure => have := HK1.out; omega
        case rel => exact ⟨(y265), (wrap64 (x16_1 + 1)), (Zs), H', ⟨by have := HK1.out; omega⟩, ⟨by (with_reducible repeat (first | apply Kd.R_alloc | apply Kd.R_drewN | apply Kd.R_drew)); exact Kd.R_mono HO267.out (fun _ hk => trivial)⟩, ⟨Zc1 GE260.out⟩⟩
       rw [if_neg c17] at H
       exact absurd H (by simp)
      rw [if_neg c8] at H
      exact absurd H (by simp)
     rw [if_neg c7] at H
     exact absurd H (by simp)
    rw [if_neg c6] at H
    have c6b0 : decide (x16_1 < (l0.length : Int)) = F := decide_eq_false c6
    clear c6
    (try simp only [c6b0])
    simp only [Option.some.injEq, Prod.mk.injEq] at H
    obtain ⟨rfl, rfl⟩ := H
    go_wp2
    go_ret2
    exact ⟨_, Zq, Zr HO_4.out, Zb⟩
 rw [if_neg c5] at H
 have c5b0 : (t258 == 0) = F := beq_eq_false_iff_ne.mpr c5
 have c5b1 : (t258 != 0) = T := bne_iff_ne.mpr c5
 (try simp only [c5b0, c5b1])
 simp only [Option.some.injEq, Prod.mk.injEq] at H
 obtain ⟨rfl, rfl⟩ := H
 go_wp2
 go_ret2
 exact ⟨_, Zq, by first | exact Kd.R_nil _ _ _ _ _ | exact Kd.N_nil _ _ _ _ _ | exact Kd.V_nil _ _ _ _ _ | exact Kd.Q_nil _ _ _ _ _ | exact Kd.S_nil _ _ _ _ _, Zb⟩
mutual
def Qad.j0 : Nat → List (S56) → Bool → Option (Int)
 | 0, _, _ => none
 | k + 1, x0, x12 => if x12 = T then (some 8) else (Qad.l0 k x0 F 0)
def Qad.l0 : Nat → List (S56) → Bool → Int → Option (Int)
 | 0, _, _, _ => none
 | k + 1, x0, x3, x4 => if x4 < (x0.length : Int) then (if 0 ≤ x4 then (if ((rd_T56 x0 x4).f0) < 0 then (Qad.j2 k x0 x3 x4 T) else (if ((rd_T56 x0 x4).f0) > 73048 then (Qad.j2 k x0 x3 x4 T) else (if x4 > 0 then (if 0 ≤ (wrap64 (x4 - 1)) then (if (wrap64 (x4 - 1)) < (x0.length : Int) then (Qad.j2 k x0 x3 x4 (decide (((rd_T56 x0 x4).f0) ≤ ((rd_T56 x0 (wrap64 (x4 - 1))).f0)))) else (none)) else (none)) else (Qad.j2 k x0 x3 x4 F)))) else (none)) else (if x3 = T then (some 0) else (some 11))
def Qad.j2 : Nat → List (S56) → Bool → Int → Bool → Option (Int)
 | 0, _, _, _, _ => none
 | k + 1, x0, x3, x4, x50 => if x50 = T then (some 15) else (if 0 ≤ x4 then (if x4 < (x0.length : Int) then (if (rd_T56 x0 x4).f2 = T then (if ((rd_T56 x0 x4).f1) < (-16777216) then (some 17) else (if ((rd_T56 x0 x4).f1) > 16777216 then (some 17) else (if x3 = T then (Qad.l0 k x0 T (wrap64 (x4 + 1))) else (Qad.l0 k x0 ((rd_T56 x0 x4).f2) (wrap64 (x4 + 1)))))) else (if x3 = T then (Qad.l0 k x0 T (wrap64 (x4 + 1))) else (Qad.l0 k x0 ((rd_T56 x0 x4).f2) (wrap64 (x4 + 1))))) else (none)) else (none))
end
def Qad.f (k : Nat) (l0 : List (S56)) : Option (Int) := if (l0.length : Int) < 1 then (Qad.j0 k l0 T) else (Qad.j0 k l0 (decide ((l0.length : Int) > 128)))
theorem Qad.mono_l : ∀ k, (∀ y0 y1, LeO (Qad.j0 k y0 y1) (Qad.j0 (k + 1) y0 y1)) ∧ (∀ y0 y1 y2, LeO (Qad.l0 k y0 y1 y2) (Qad.l0 (k + 1) y0 y1 y2)) ∧ (∀ y0 y1 y2 y3, LeO (Qad.j2 k y0 y1 y2 y3) (Qad.j2 (k + 1) y0 y1 y2 y3))
 | 0 => ⟨fun _ _ r h => by simp [Qad.j0] at h, fun _ _ _ r h => by simp [Qad.l0] at h, fun _ _ _ _ r h => by simp [Qad.j2] at h⟩
 | k + 1 => by
  obtain ⟨ih0, ih1, ih2⟩ := Qad.mono_l k
  refine ⟨?_, ?_, ?_⟩
  ·intro y0 y1
   unfold Qad.j0
   exact ZM3 ih0 ih1 ih2
  ·intro y0 y1 y2
   unfold Qad.l0
   exact ZM3 ih0 ih1 ih2
  intro y0 y1 y2 y3
  unfold Qad.j2
  exact ZM3 ih0 ih1 ih2
theorem Qad.mono : ∀ a0 k, LeO (Qad.f k a0) (Qad.f (k + 1) a0) := by
 intro a0 k
 obtain ⟨ih0, ih1, ih2⟩ := Qad.mono_l k
 unfold Qad.f
 exact ZM3 ih0 ih1 ih2
theorem Qad.calls (k : Nat) (A0 : Option Addr) (c0 : Nat) (l0 : List (S56)) (r : Int) (w : World) (hr0 : Kd.C k56 w A0 l0.length l0) (hc0 : l0.length ≤ c0) (h : Qad.f k l0 = some r) :
  Calls Try.prog 32 #[.slice A0 l0.length c0] w fun e w' => e = .returned (.int .i64 r) ∧ Drawn0 w w' := by
 have HR0 := Aside0.mk hr0
 have HC0 := Aside0.mk hc0
 clear hr0 hc0
 have H : (if (l0.length : Int) < 1 then (Qad.j0 k l0 T) else (Qad.j0 k l0 (decide ((l0.length : Int) > 128)))) = some r := h
 clear h
 have HC2 := Aside0.mk H
 clear H
 go_enter Try.func32, Try.ntmps32
 go_upto_region 1 with (fail)
 repeat (go_quiet (fail); go_upto_region 1 with (fail))
 go_cut [12] (fun v12 wc => ∃ (kq : Nat) (x12_1 : Bool), v12 = .bool x12_1 ∧ Aside0 (Qad.j0 kq l0 x12_1 = some r) ∧ Aside0 (kq ≤ k) ∧ Drawn0 w wc)
 case first =>
  have H := HC2.out
  clear HC2
  by_cases c3 : (l0.length : Int) < 1
  ·rw [if_pos c3] at H
   have c3b0 : decide ((l0.length : Int) < 1) = T := decide_eq_true c3
   have c3b1 : decide (l0.length < 1) = T := decide_eq_true (by omega)
   clear c3
   have H' := Aside0.mk H
   clear H
   go_wp2
   repeat (go_quiet (fail); try go_wp2)
   go_meet
   case rel => exact ⟨_, (T), (Zs), H', ⟨by first | omega | exact Nat.le_refl _⟩, Zd⟩
  rw [if_neg c3] at H
  have c3b0 : decide ((l0.length : Int) < 1) = F := decide_eq_false c3
  have c3b1 : decide (l0.length < 1) = F := decide_eq_false (by omega)
  clear c3
  have H' := Aside0.mk H
  clear H
  go_wp2
  repeat (go_quiet (fail); try go_wp2)
  go_meet
  case rel => exact ⟨_, (decide ((l0.length : Int) > 128)), (Zs), H', ⟨by first | omega | exact Nat.le_refl _⟩, Zd⟩
 case rest =>
  clear HC2
  try clear p2
  try clear c3
  try clear c3b0
  try clear c3b1
  obtain ⟨kq, x12_1, rfl, HA, HJ1, ⟨mc1, rfl⟩⟩ := hcut
  cases kq with
  | zero => exact absurd HA.out (by simp [Qad.j0])
  | succ kj1 =>
   have H := HA.out
   clear HA
   simp only [Qad.j0] at H
   by_cases c4 : x12_1 = T
   ·subst c4
    have H1 : (some 8) = some r := by rw [if_pos rfl] at H; exact H
    clear H
    have H := H1
    clear H1
    obtain rfl := Option.some.inj H
    go_wp2
    repeat (go_quiet (fail); try go_wp2)
    go_ret
    exact ⟨Zs, Zd⟩
   replace c4 := Bool.eq_false_iff.mpr c4
   subst c4
   have H1 : (Qad.l0 kj1 l0 F 0) = some r := by rw [if_neg (show ¬ (F = T) by decide)] at H; exact H
   clear H
   have H := H1
   clear H1
   have H' := Aside0.mk H
   clear H
   go_wp2
   repeat (go_quiet (fail); try go_wp2)
   go_loopg [3, 4] kj1 (fun kq v3 v4 w' => ∃ (x3_2 : Bool) (x4_2 : Int), v3 = .bool x3_2 ∧ v4 = .int .i64 x4_2 ∧ Aside0 (Qad.l0 kq l0 x3_2 x4_2 = some r) ∧ Aside0 (kq ≤ kj1) ∧ Drawn0 w w')
   case atStart => exact ⟨(F), (0), (Zs), (Zs), H', ⟨Nat.le_refl _⟩, Zd⟩
   case round =>
    clear H'
    try clear c1
    try clear p2
    try clear c3
    try clear c3b0
    try clear c3b1
    try clear c4
    try clear p2
    obtain ⟨x3_2, x4_2, rfl, rfl, HA, HK2, ⟨m2, rfl⟩⟩ := hrel
    cases gk with
    | zero => exact absurd HA.out (by simp [Qad.l0])
    | succ k2 =>
     have H := HA.out
     clear HA
     simp only [Qad.l0] at H
     by_cases c5 : x4_2 < (l0.length : Int)
     ·rw [if_pos c5] at H
      have c5b0 : decide (x4_2 < (l0.length : Int)) = T := decide_eq_true c5
      clear c5
      (try simp only [c5b0])
      have HC6 := Aside0.mk H
      clear H
      go_upto_region 7 with (fail)
      repeat (go_quiet (fail); go_upto_region 7 with (fail))
      go_cut [50] (fun v50 wc => ∃ (kq : Nat) (x50_5 : Bool), v50 = .bool x50_5 ∧ Aside0 (Qad.j2 kq l0 x3_2 x4_2 x50_5 = some r) ∧ Aside0 (kq ≤ k2) ∧ Drawn0 w wc)
      case first =>
       have H := HC6.out
       clear HC6
       by_cases c7 : 0 ≤ x4_2
       ·rw [if_pos c7] at H
        have c7b0 : decide (0 ≤ x4_2) = T := decide_eq_true c7
        clear c7
        by_cases c8 : ((rd_T56 l0 x4_2).f0) < 0
        ·rw [if_pos c8] at H
         have c8b0 : decide (((rd_T56 l0 x4_2).f0) < 0) = T := decide_eq_true c8
         clear c8
         have H' := Aside0.mk H
         clear H
         have p282 : 0 ≤ (x4_2 : Int) := Ze
         have q282 : x4_2 < (l0.length : Int) := Ze
         obtain ⟨ad282, e282, hx282_0, hx282_1, hx282_2⟩ := at_T56 HR0.out x4_2 p282 q282
         cases e282
         replace p282 := eq_true p282
         replace q282 := eq_true q282
         go_wp2
         repeat (go_quiet (fail); try go_wp2)
         go_meet
         case rel => exact ⟨_, (T), (Zs), H', ⟨by have := HJ1.out; have := HK2.out; first | omega | exact Nat.le_refl _⟩, Zd⟩
        rw [if_neg c8] at H
        have c8b0 : decide (((rd_T56 l0 x4_2).f0) < 0) = F := decide_eq_false c8
        clear c8
        by_cases c9 : ((rd_T56 l0 x4_2).f0) > 73048
        ·rw [if_pos c9] at H
         have c9b0 : decide (73048 < ((rd_T56 l0 x4_2).f0)) = T := decide_eq_true c9
         clear c9
         have H' := Aside0.mk H
         clear H
         have p282 : 0 ≤ (x4_2 : Int) := Ze
         have q282 : x4_2 < (l0.length : Int) := Ze
         obtain ⟨ad282, e282, hx282_0, hx282_1, hx282_2⟩ := at_T56 HR0.out x4_2 p282 q282
         cases e282
         replace p282 := eq_true p282
         replace q282 := eq_true q282
         have p283 : 0 ≤ (x4_2 : Int) := Ze
         have q283 : x4_2 < (l0.length : Int) := Ze
         obtain ⟨ad283, e283, hx283_0, hx283_1, hx283_2⟩ := at_T56 HR0.out x4_2 p283 q283
         obtain rfl : ad282 = ad283 := (by injection e283)
         replace p283 := eq_true p283
         replace q283 := eq_true q283
         go_wp2
         repeat (go_quiet (fail); try go_wp2)
         go_meet
         case rel => exact ⟨_, (T), (Zs), H', ⟨by have := HJ1.out; have := HK2.out; first | omega | exact Nat.le_refl _⟩, Zd⟩
        rw [if_neg c9] at H
        have c9b0 : decide (73048 < ((rd_T56 l0 x4_2).f0)) = F := decide_eq_false c9
        clear c9
        by_cases c10 : x4_2 > 0
        ·rw [if_pos c10] at H
         have c10b0 : decide (0 < x4_2) = T := decide_eq_true c10
         clear c10
         obtain ⟨ji11, hji11⟩ : ∃ j_ : Int, (wrap64 (x4_2 - 1)) = j_ := ⟨_, rfl⟩
         replace H : (if 0 ≤ (ji11) then (if (ji11) < (l0.length : Int) then (Qad.j2 k2 l0 x3_2 x4_2 (decide (((rd_T56 l0 x4_2).f0) ≤ ((rd_T56 l0 (ji11)).f0)))) else (none)) else (none)) = some r := by first | (rw [hji11] at H; exact H) | (simp only [hji11] at H ⊢; exact H)
         have hji11w : (IntKind.i64.wrap (x4_2 - 1)) = ji11 := (i64_w _).trans hji11
         by_cases c12 : 0 ≤ (ji11)
         ·rw [if_pos c12] at H
          have c12b0 : decide (0 ≤ (ji11)) = T := decide_eq_true c12
          clear c12
          by_cases c13 : (ji11) < (l0.length : Int)
          ·rw [if_pos c13] at H
           have c13b0 : decide ((ji11) < (l0.length : Int)) = T := decide_eq_true c13
           clear c13
           have H' := Aside0.mk H
           clear H
           have p282 : 0 ≤ (x4_2 : Int) := Ze
           have q282 : x4_2 < (l0.length : Int) := Ze
           obtain ⟨ad282, e282, hx282_0, hx282_1, hx282_2⟩ := at_T56 HR0.out x4_2 p282 q282
           cases e282
           replace p282 := eq_true p282
           replace q282 := eq_true q282
           have p283 : 0 ≤ (x4_2 : Int) := Ze
           have q283 : x4_2 < (l0.length : Int) := Ze
           obtain ⟨ad283, e283, hx283_0, hx283_1, hx283_2⟩ := at_T56 HR0.out x4_2 p283 q283
           obtain rfl : ad282 = ad283 := (by injection e283)
           replace p283 := eq_true p283
           replace q283 := eq_true q283
           have p284 : 0 ≤ (x4_2 : Int) := Ze
           have q284 : x4_2 < (l0.length : Int) := Ze
           obtain ⟨ad284, e284, hx284_0, hx284_1, hx284_2⟩ := at_T56 HR0.out x4_2 p284 q284
           obtain rfl : ad282 = ad284 := (by injection e284)
           replace p284 := eq_true p284
           replace q284 := eq_true q284
           have p285 : 0 ≤ ((ji11) : Int) := Ze
           have q285 : (ji11) < (l0.length : Int) := Ze
           obtain ⟨ad285, e285, hx285_0, hx285_1, hx285_2⟩ := at_T56 HR0.out (ji11) p285 q285
           obtain rfl : ad282 = ad285 := (by injection e285)
           replace p285 := eq_true p285
           replace q285 := eq_true q285
           go_wp2
           repeat (go_quiet (fail); try go_wp2)
           go_meet
           case rel => exact ⟨_, (decide (((rd_T56 l0 x4_2).f0) ≤ ((rd_T56 l0 (ji11)).f0))), (by first | rfl | (simp; done) | (simp only [← hji11] <;> (first | rfl | simp)) | (simp [*]; done)), H', ⟨by have := HJ1.out; have := HK2.out; first | omega | exact Nat.le_refl _⟩, Zd⟩
          rw [if_neg c13] at H
          exact absurd H (by simp)
         rw [if_neg c12] at H
         exact absurd H (by simp)
        rw [if_neg c10] at H
        have c10b0 : decide (0 < x4_2) = F := decide_eq_false c10
        clear c10
        have H' := Aside0.mk H
        clear H
        have p282 : 0 ≤ (x4_2 : Int) := Ze
        have q282 : x4_2 < (l0.length : Int) := Ze
        obtain ⟨ad282, e282, hx282_0, hx282_1, hx282_2⟩ := at_T56 HR0.out x4_2 p282 q282
        cases e282
        replace p282 := eq_true p282
        replace q282 := eq_true q282
        have p283 : 0 ≤ (x4_2 : Int) := Ze
        have q283 : x4_2 < (l0.length : Int) := Ze
        obtain ⟨ad283, e283, hx283_0, hx283_1, hx283_2⟩ := at_T56 HR0.out x4_2 p283 q283
        obtain rfl : ad282 = ad283 := (by injection e283)
        replace p283 := eq_true p283
        replace q283 := eq_true q283
        go_wp2
        repeat (go_quiet (fail); try go_wp2)
        go_meet
        case rel => exact ⟨_, (F), (Zs), H', ⟨by have := HJ1.out; have := HK2.out; first | omega | exact Nat.le_refl _⟩, Zd⟩
       rw [if_neg c7] at H
       exact absurd H (by simp)
      case rest =>
       clear HC6
       try clear c1
       try clear p2
       try clear q2
       try clear hx2
       try clear c3
       try clear c3b0
       try clear c3b1
       try clear c4
       try clear c5
       try clear c5b0
       try clear p6
       try clear c7
       try clear c7b0
       try clear c8
       try clear c8b0
       try clear c9
       try clear c9b0
       try clear c10
       try clear c10b0
       try clear c12
       try clear c12b0
       try clear c13
       try clear c13b0
       try clear hx282_0
       try clear hx282_1
       try clear hx282_2
       try clear hx283_0
       try clear hx283_1
       try clear hx283_2
       try clear hx284_0
       try clear hx284_1
       try clear hx284_2
       try clear hx285_0
       try clear hx285_1
       try clear hx285_2
       try clear p2
       try clear p282
       try clear p283
       try clear p284
       try clear p285
       try clear q282
       try clear q283
       try clear q284
       try clear q285
       obtain ⟨kq, x50_5, rfl, HA, HJ5, ⟨mc5, rfl⟩⟩ := hcut
       cases kq with
       | zero => exact absurd HA.out (by simp [Qad.j2])
       | succ kj5 =>
        have H := HA.out
        clear HA
        simp only [Qad.j2] at H
        by_cases c14 : x50_5 = T
        ·subst c14
         have H1 : (some 15) = some r := by rw [if_pos rfl] at H; exact H
         clear H
         have H := H1
         clear H1
         obtain rfl := Option.some.inj H
         go_wp2
         repeat (go_quiet (fail); try go_wp2)
         go_ret
         exact ⟨Zs, Zd⟩
        replace c14 := Bool.eq_false_iff.mpr c14
        subst c14
        have H1 : (if 0 ≤ x4_2 then (if x4_2 < (l0.length : Int) then (if (rd_T56 l0 x4_2).f2 = T then (if ((rd_T56 l0 x4_2).f1) < (-16777216) then (some 17) else (if ((rd_T56 l0 x4_2).f1) > 16777216 then (some 17) else (if x3_2 = T then (Qad.l0 kj5 l0 T (wrap64 (x4_2 + 1))) else (Qad.l0 kj5 l0 ((rd_T56 l0 x4_2).f2) (wrap64 (x4_2 + 1)))))) else (if x3_2 = T then (Qad.l0 kj5 l0 T (wrap64 (x4_2 + 1))) else (Qad.l0 kj5 l0 ((rd_T56 l0 x4_2).f2) (wrap64 (x4_2 + 1))))) else (none)) else (none)) = some r := by rw [if_neg (show ¬ (F = T) by decide)] at H; exact H
        clear H
        have H := H1
        clear H1
        by_cases c15 : 0 ≤ x4_2
        ·rw [if_pos c15] at H
         have c15b0 : decide (0 ≤ x4_2) = T := decide_eq_true c15
         clear c15
         by_cases c16 : x4_2 < (l0.length : Int)
         ·rw [if_pos c16] at H
          have c16b0 : decide (x4_2 < (l0.length : Int)) = T := decide_eq_true c16
          clear c16
          obtain ⟨bq17, hbq17⟩ : ∃ b_ : Bool, b_ = ((rd_T56 l0 x4_2).f2) := ⟨_, rfl⟩
          replace H : (if bq17 = T then (if ((rd_T56 l0 x4_2).f1) < (-16777216) then (some 17) else (if ((rd_T56 l0 x4_2).f1) > 16777216 then (some 17) else (if x3_2 = T then (Qad.l0 kj5 l0 T (wrap64 (x4_2 + 1))) else (Qad.l0 kj5 l0 bq17 (wrap64 (x4_2 + 1)))))) else (if x3_2 = T then (Qad.l0 kj5 l0 T (wrap64 (x4_2 + 1))) else (Qad.l0 kj5 l0 bq17 (wrap64 (x4_2 + 1))))) = some r := by rw [← hbq17] at H; exact H
          have Nbq17 := Aside0.mk hbq17
          clear hbq17
          by_cases c18 : bq17 = T
          ·subst c18
           have H1 : (if ((rd_T56 l0 x4_2).f1) < (-16777216) then (some 17) else (if ((rd_T56 l0 x4_2).f1) > 16777216 then (some 17) else (if x3_2 = T then (Qad.l0 kj5 l0 T (wrap64 (x4_2 + 1))) else (Qad.l0 kj5 l0 T (wrap64 (x4_2 + 1)))))) = some r := by rw [if_pos rfl] at H; exact H
           clear H
           have H := H1
           clear H1
           by_cases c19 : ((rd_T56 l0 x4_2).f1) < (-16777216)
           ·rw [if_pos c19] at H
            have c19b0 : decide (((rd_T56 l0 x4_2).f1) < (-16777216)) = T := decide_eq_true c19
            clear c19
            obtain rfl := Option.some.inj H
            have p286 : 0 ≤ (x4_2 : Int) := Ze
            have q286 : x4_2 < (l0.length : Int) := Ze
            obtain ⟨ad286, e286, hx286_0, hx286_1, hx286_2⟩ := at_T56 HR0.out x4_2 p286 q286
            (try rw [← Nbq17.out] at hx286_2); (try rw [← Nbq17.out] at hw286_2)
            cases e286
            replace p286 := eq_true p286
            replace q286 := eq_true q286
            have p287 : 0 ≤ (x4_2 : Int) := Ze
            have q287 : x4_2 < (l0.length : Int) := Ze
            obtain ⟨ad287, e287, hx287_0, hx287_1, hx287_2⟩ := at_T56 HR0.out x4_2 p287 q287
            (try rw [← Nbq17.out] at hx287_2); (try rw [← Nbq17.out] at hw287_2)
            obtain rfl : ad286 = ad287 := (by injection e287)
            replace p287 := eq_true p287
            replace q287 := eq_true q287
            go_wp2
            repeat (go_quiet (fail); try go_wp2)
            go_ret
            exact ⟨Zs, Zd⟩
           rw [if_neg c19] at H
           have c19b0 : decide (((rd_T56 l0 x4_2).f1) < (-16777216)) = F := decide_eq_false c19
           clear c19
           have p286 : 0 ≤ (x4_2 : Int) := Ze
           have q286 : x4_2 < (l0.length : Int) := Ze
           obtain ⟨ad286, e286, hx286_0, hx286_1, hx286_2⟩ := at_T56 HR0.out x4_2 p286 q286
           (try rw [← Nbq17.out] at hx286_2); (try rw [← Nbq17.out] at hw286_2)
           cases e286
           replace p286 := eq_true p286
           replace q286 := eq_true q286
           have p287 : 0 ≤ (x4_2 : Int) := Ze
           have q287 : x4_2 < (l0.length : Int) := Ze
           obtain ⟨ad287, e287, hx287_0, hx287_1, hx287_2⟩ := at_T56 HR0.out x4_2 p287 q287
           (try rw [← Nbq17.out] at hx287_2); (try rw [← Nbq17.out] at hw287_2)
           obtain rfl : ad286 = ad287 := (by injection e287)
           replace p287 := eq_true p287
           replace q287 := eq_true q287
           have p288 : 0 ≤ (x4_2 : Int) := Ze
           have q288 : x4_2 < (l0.length : Int) := Ze
           obtain ⟨ad288, e288, hx288_0, hx288_1, hx288_2⟩ := at_T56 HR0.out x4_2 p288 q288
           (try rw [← Nbq17.out] at hx288_2); (try rw [← Nbq17.out] at hw288_2)
           obtain rfl : ad286 = ad288 := (by injection e288)
           replace p288 := eq_true p288
           replace q288 := eq_true q288
           go_upto_if 71 with (fail)
           repeat (go_quiet (fail); go_upto_if 71 with (fail))
           (try rw [← Nbq17.out])
           by_cases c20 : ((rd_T56 l0 x4_2).f1) > 16777216
           ·rw [if_pos c20] at H
            have c20b0 : decide (16777216 < ((rd_T56 l0 x4_2).f1)) = T := decide_eq_true c20
            clear c20
            (try simp only [c20b0])
            obtain rfl := Option.some.inj H
            go_wp2
            repeat (go_quiet (fail); try go_wp2)
            go_ret
            exact ⟨Zs, Zd⟩
           rw [if_neg c20] at H
           have c20b0 : decide (16777216 < ((rd_T56 l0 x4_2).f1)) = F := decide_eq_false c20
           clear c20
           (try simp only [c20b0])
           by_cases c21 : x3_2 = T
           ·subst c21
            have H1 : (Qad.l0 kj5 l0 T (wrap64 (x4_2 + 1))) = some r := by rw [if_pos rfl] at H; exact H
            clear H
            have H := H1
            clear H1
            have H' := Aside0.mk H
            clear H
            go_wp2
            repeat (go_quiet (fail); try go_wp2)
            go_roundg kj5
            case measure => have := HJ1.out; have := HK2.out; have := HJ5.out; omega
            case rel => exact ⟨(T), (wrap64 (x4_2 + 1)), (Zs), (Zs), H', ⟨by have := HJ1.out; have := HK2.out; have := HJ5.out; omega⟩, Zd⟩
           replace c21 := Bool.eq_false_iff.mpr c21
           subst c21
           have H1 : (Qad.l0 kj5 l0 T (wrap64 (x4_2 + 1))) = some r := by rw [if_neg (show ¬ (F = T) by decide)] at H; exact H
           clear H
           have H := H1
           clear H1
           have H' := Aside0.mk H
           clear H
           have p289 : 0 ≤ (x4_2 : Int) := Ze
           have q289 : x4_2 < (l0.length : Int) := Ze
           obtain ⟨ad289, e289, hx289_0, hx289_1, hx289_2⟩ := at_T56 HR0.out x4_2 p289 q289
           (try rw [← Nbq17.out] at hx289_2); (try rw [← Nbq17.out] at hw289_2)
           obtain rfl : ad286 = ad289 := (by injection e289)
           replace p289 := eq_true p289
           replace q289 := eq_true q289
           go_wp2
           repeat (go_quiet (fail); try go_wp2)
           go_roundg kj5
           case measure => have := HJ1.out; have := HK2.out; have := HJ5.out; omega
           case rel => exact ⟨(T), (wrap64 (x4_2 + 1)), (Zs), (Zs), H', ⟨by have := HJ1.out; have := HK2.out; have := HJ5.out; omega⟩, Zd⟩
          replace c18 := Bool.eq_false_iff.mpr c18
          subst c18
          have H1 : (if x3_2 = T then (Qad.l0 kj5 l0 T (wrap64 (x4_2 + 1))) else (Qad.l0 kj5 l0 F (wrap64 (x4_2 + 1)))) = some r := by rw [if_neg (show ¬ (F = T) by decide)] at H; exact H
          clear H
          have H := H1
          clear H1
          have p286 : 0 ≤ (x4_2 : Int) := Ze
          have q286 : x4_2 < (l0.length : Int) := Ze
          obtain ⟨ad286, e286, hx286_0, hx286_1, hx286_2⟩ := at_T56 HR0.out x4_2 p286 q286
          (try rw [← Nbq17.out] at hx286_2); (try rw [← Nbq17.out] at hw286_2)
          cases e286
          replace p286 := eq_true p286
          replace q286 := eq_true q286
          go_upto_region 11 with (fail)
          repeat (go_quiet (fail); go_upto_region 11 with (fail))
          (try rw [← Nbq17.out])
          by_cases c22 : x3_2 = T
          ·subst c22
           have H1 : (Qad.l0 kj5 l0 T (wrap64 (x4_2 + 1))) = some r := by rw [if_pos rfl] at H; exact H
           clear H
           have H := H1
           clear H1
           have H' := Aside0.mk H
           clear H
           go_wp2
           repeat (go_quiet (fail); try go_wp2)
           go_roundg kj5
           case measure => have := HJ1.out; have := HK2.out; have := HJ5.out; omega
           case rel => exact ⟨(T), (wrap64 (x4_2 + 1)), (Zs), (Zs), H', ⟨by have := HJ1.out; have := HK2.out; have := HJ5.out; omega⟩, Zd⟩
          replace c22 := Bool.eq_false_iff.mpr c22
          subst c22
          have H1 : (Qad.l0 kj5 l0 F (wrap64 (x4_2 + 1))) = some r := by rw [if_neg (show ¬ (F = T) by decide)] at H; exact H
          clear H
          have H := H1
          clear H1
          have H' := Aside0.mk H
          clear H
          have p290 : 0 ≤ (x4_2 : Int) := Ze
          have q290 : x4_2 < (l0.length : Int) := Ze
          obtain ⟨ad290, e290, hx290_0, hx290_1, hx290_2⟩ := at_T56 HR0.out x4_2 p290 q290
          (try rw [← Nbq17.out] at hx290_2); (try rw [← Nbq17.out] at hw290_2)
          obtain rfl : ad286 = ad290 := (by injection e290)
          replace p290 := eq_true p290
          replace q290 := eq_true q290
          go_wp2
          repeat (go_quiet (fail); try go_wp2)
          go_roundg kj5
          case measure => have := HJ1.out; have := HK2.out; have := HJ5.out; omega
          case rel => exact ⟨(F), (wrap64 (x4_2 + 1)), (Zs), (Zs), H', ⟨by have := HJ1.out; have := HK2.out; have := HJ5.out; omega⟩, Zd⟩
         rw [if_neg c16] at H
         exact absurd H (by simp)
        rw [if_neg c15] at H
        exact absurd H (by simp)
     rw [if_neg c5] at H
     have c5b0 : decide (x4_2 < (l0.length : Int)) = F := decide_eq_false c5
     clear c5
     (try simp only [c5b0])
     by_cases c23 : x3_2 = T
     ·subst c23
      have H1 : (some 0) = some r := by rw [if_pos rfl] at H; exact H
      clear H
      have H := H1
      clear H1
      obtain rfl := Option.some.inj H
      go_wp2
      repeat (go_quiet (fail); try go_wp2)
      go_ret
      exact ⟨Zs, Zd⟩
     replace c23 := Bool.eq_false_iff.mpr c23
     subst c23
     have H1 : (some 11) = some r := by rw [if_neg (show ¬ (F = T) by decide)] at H; exact H
     clear H
     have H := H1
     clear H1
     obtain rfl := Option.some.inj H
     go_wp2
     repeat (go_quiet (fail); try go_wp2)
     go_ret
     exact ⟨Zs, Zd⟩
def Qa0.f (a0 : Int) (a1 : Int) : Option (Int) := if a1 = 0 then (none) else (if (Int.tmod a0 a1) < 0 then (if (wrap64 (2 * (wrap64 ((Int.tmod a0 a1) + a1)))) > a1 then (some (wrap64 ((wrap64 ((wrap64 (Int.tdiv a0 a1)) - 1)) + 1))) else (if (wrap64 (2 * (wrap64 ((Int.tmod a0 a1) + a1)))) = a1 then (if (Int.tmod (wrap64 ((wrap64 (Int.tdiv a0 a1)) - 1)) 2) = 0 then (some (wrap64 ((wrap64 (Int.tdiv a0 a1)) - 1))) else (some (wrap64 ((wrap64 ((wrap64 (Int.tdiv a0 a1)) - 1)) + 1)))) else (some (wrap64 ((wrap64 (Int.tdiv a0 a1)) - 1))))) else (if (wrap64 (2 * (Int.tmod a0 a1))) > a1 then (some (wrap64 ((wrap64 (Int.tdiv a0 a1)) + 1))) else (if (wrap64 (2 * (Int.tmod a0 a1))) = a1 then (if (Int.tmod (wrap64 (Int.tdiv a0 a1)) 2) = 0 then (some (wrap64 (Int.tdiv a0 a1))) else (some (wrap64 ((wrap64 (Int.tdiv a0 a1)) + 1)))) else (some (wrap64 (Int.tdiv a0 a1))))))
theorem Qa0.calls (a0 : Int) (a1 : Int) (r : Int) (w : World) (h : Qa0.f a0 a1 = some r) :
  Calls Try.prog 81 #[.int .i64 a0, .int .i64 a1] w fun e w' => e = .returned (.int .i64 r) ∧ Drawn0 w w' := by
 have H : (if a1 = 0 then (none) else (if (Int.tmod a0 a1) < 0 then (if (wrap64 (2 * (wrap64 ((Int.tmod a0 a1) + a1)))) > a1 then (some (wrap64 ((wrap64 ((wrap64 (Int.tdiv a0 a1)) - 1)) + 1))) else (if (wrap64 (2 * (wrap64 ((Int.tmod a0 a1) + a1)))) = a1 then (if (Int.tmod (wrap64 ((wrap64 (Int.tdiv a0 a1)) - 1)) 2) = 0 then (some (wrap64 ((wrap64 (Int.tdiv a0 a1)) - 1))) else (some (wrap64 ((wrap64 ((wrap64 (Int.tdiv a0 a1)) - 1)) + 1)))) else (some (wrap64 ((wrap64 (Int.tdiv a0 a1)) - 1))))) else (if (wrap64 (2 * (Int.tmod a0 a1))) > a1 then (some (wrap64 ((wrap64 (Int.tdiv a0 a1)) + 1))) else (if (wrap64 (2 * (Int.tmod a0 a1))) = a1 then (if (Int.tmod (wrap64 (Int.tdiv a0 a1)) 2) = 0 then (some (wrap64 (Int.tdiv a0 a1))) else (some (wrap64 ((wrap64 (Int.tdiv a0 a1)) + 1)))) else (some (wrap64 (Int.tdiv a0 a1))))))) = some r := h
 clear h
 by_cases c3 : a1 = 0
 ·rw [if_pos c3] at H
  exact absurd H (by simp)
 rw [if_neg c3] at H
 have c3b0 : (a1 == 0) = F := beq_eq_false_iff_ne.mpr c3
 have c3b1 : (a1 != 0) = T := bne_iff_ne.mpr c3
 by_cases c4 : (Int.tmod a0 a1) < 0
 ·rw [if_pos c4] at H
  have c4b0 : decide ((Int.tmod a0 a1) < 0) = T := decide_eq_true c4
  clear c4
  by_cases c5 : (wrap64 (2 * (wrap64 ((Int.tmod a0 a1) + a1)))) > a1
  ·rw [if_pos c5] at H
   have c5b0 : decide (a1 < (wrap64 (2 * (wrap64 ((Int.tmod a0 a1) + a1))))) = T := decide_eq_true c5
   clear c5
   obtain rfl := Option.some.inj H
   go_enter Try.func81, Try.ntmps81
   go_wp2
   go_ret
   exact ⟨Zs, Zd⟩
  rw [if_neg c5] at H
  have c5b0 : decide (a1 < (wrap64 (2 * (wrap64 ((Int.tmod a0 a1) + a1))))) = F := decide_eq_false c5
  clear c5
  by_cases c6 : (wrap64 (2 * (wrap64 ((Int.tmod a0 a1) + a1)))) = a1
  ·rw [if_pos c6] at H
   have c6b0 : ((wrap64 (2 * (wrap64 ((Int.tmod a0 a1) + a1)))) == a1) = T := beq_iff_eq.mpr c6
   have c6b1 : ((wrap64 (2 * (wrap64 ((Int.tmod a0 a1) + a1)))) != a1) = F := bne_eq_false_iff_eq.mpr c6
   clear c6
   by_cases c7 : (Int.tmod (wrap64 ((wrap64 (Int.tdiv a0 a1)) - 1)) 2) = 0
   ·rw [if_pos c7] at H
    have c7b0 : ((Int.tmod (wrap64 ((wrap64 (Int.tdiv a0 a1)) - 1)) 2) == 0) = T := beq_iff_eq.mpr c7
    have c7b1 : ((Int.tmod (wrap64 ((wrap64 (Int.tdiv a0 a1)) - 1)) 2) != 0) = F := bne_eq_false_iff_eq.mpr c7
    clear c7
    obtain rfl := Option.some.inj H
    go_enter Try.func81, Try.ntmps81
    go_wp2
    go_ret
    exact ⟨Zs, Zd⟩
   rw [if_neg c7] at H
   have c7b0 : ((Int.tmod (wrap64 ((wrap64 (Int.tdiv a0 a1)) - 1)) 2) == 0) = F := beq_eq_false_iff_ne.mpr c7
   have c7b1 : ((Int.tmod (wrap64 ((wrap64 (Int.tdiv a0 a1)) - 1)) 2) != 0) = T := bne_iff_ne.mpr c7
   obtain rfl := Option.some.inj H
   go_enter Try.func81, Try.ntmps81
   go_wp2
   go_ret
   exact ⟨Zs, Zd⟩
  rw [if_neg c6] at H
  have c6b0 : ((wrap64 (2 * (wrap64 ((Int.tmod a0 a1) + a1)))) == a1) = F := beq_eq_false_iff_ne.mpr c6
  have c6b1 : ((wrap64 (2 * (wrap64 ((Int.tmod a0 a1) + a1)))) != a1) = T := bne_iff_ne.mpr c6
  obtain rfl := Option.some.inj H
  go_enter Try.func81, Try.ntmps81
  go_wp2
  go_ret
  exact ⟨Zs, Zd⟩
 rw [if_neg c4] at H
 have c4b0 : decide ((Int.tmod a0 a1) < 0) = F := decide_eq_false c4
 clear c4
 by_cases c8 : (wrap64 (2 * (Int.tmod a0 a1))) > a1
 ·rw [if_pos c8] at H
  have c8b0 : decide (a1 < (wrap64 (2 * (Int.tmod a0 a1)))) = T := decide_eq_true c8
  clear c8
  obtain rfl := Option.some.inj H
  go_enter Try.func81, Try.ntmps81
  go_wp2
  go_ret
  exact ⟨Zs, Zd⟩
 rw [if_neg c8] at H
 have c8b0 : decide (a1 < (wrap64 (2 * (Int.tmod a0 a1)))) = F := decide_eq_false c8
 clear c8
 by_cases c9 : (wrap64 (2 * (Int.tmod a0 a1))) = a1
 ·rw [if_pos c9] at H
  have c9b0 : ((wrap64 (2 * (Int.tmod a0 a1))) == a1) = T := beq_iff_eq.mpr c9
  have c9b1 : ((wrap64 (2 * (Int.tmod a0 a1))) != a1) = F := bne_eq_false_iff_eq.mpr c9
  clear c9
  by_cases c10 : (Int.tmod (wrap64 (Int.tdiv a0 a1)) 2) = 0
  ·rw [if_pos c10] at H
   have c10b0 : ((Int.tmod (wrap64 (Int.tdiv a0 a1)) 2) == 0) = T := beq_iff_eq.mpr c10
   have c10b1 : ((Int.tmod (wrap64 (Int.tdiv a0 a1)) 2) != 0) = F := bne_eq_false_iff_eq.mpr c10
   clear c10
   obtain rfl := Option.some.inj H
   go_enter Try.func81, Try.ntmps81
   go_wp2
   go_ret
   exact ⟨Zs, Zd⟩
  rw [if_neg c10] at H
  have c10b0 : ((Int.tmod (wrap64 (Int.tdiv a0 a1)) 2) == 0) = F := beq_eq_false_iff_ne.mpr c10
  have c10b1 : ((Int.tmod (wrap64 (Int.tdiv a0 a1)) 2) != 0) = T := bne_iff_ne.mpr c10
  obtain rfl := Option.some.inj H
  go_enter Try.func81, Try.ntmps81
  go_wp2
  go_ret
  exact ⟨Zs, Zd⟩
 rw [if_neg c9] at H
 have c9b0 : ((wrap64 (2 * (Int.tmod a0 a1))) == a1) = F := beq_eq_false_iff_ne.mpr c9
 have c9b1 : ((wrap64 (2 * (Int.tmod a0 a1))) != a1) = T := bne_iff_ne.mpr c9
 obtain rfl := Option.some.inj H
 go_enter Try.func81, Try.ntmps81
 go_wp2
 go_ret
 exact ⟨Zs, Zd⟩
mutual
def Qai.l0 : Nat → List (S56) → Int → Int → Int → Int → Int → Option (Int)
 | 0, _, _, _, _, _, _ => none
 | k + 1, x0, x1, x2, x7, x8, x9 => if x9 ≥ 0 then (if 0 ≤ x9 then (if x9 < (x0.length : Int) then (if (rd_T56 x0 x9).f2 = T then (if ((rd_T56 x0 x9).f0) ≥ x1 then (Qai.l0 k x0 x1 x2 x7 x9 (wrap64 (x9 - 1))) else (Qai.l0 k x0 x1 x2 x7 x8 (wrap64 (x9 - 1)))) else (Qai.l0 k x0 x1 x2 x7 x8 (wrap64 (x9 - 1)))) else (none)) else (none)) else (Qai.l1 k x0 x1 x2 x7 x8 0)
def Qai.l1 : Nat → List (S56) → Int → Int → Int → Int → Int → Option (Int)
 | 0, _, _, _, _, _, _ => none
 | k + 1, x0, x1, x2, x7, x8, x10 => if x10 < (x0.length : Int) then (if 0 ≤ x10 then (if (rd_T56 x0 x10).f2 = T then (if ((rd_T56 x0 x10).f0) ≤ x1 then (Qai.l1 k x0 x1 x2 x10 x8 (wrap64 (x10 + 1))) else (Qai.l1 k x0 x1 x2 x7 x8 (wrap64 (x10 + 1)))) else (Qai.l1 k x0 x1 x2 x7 x8 (wrap64 (x10 + 1)))) else (none)) else (if x7 < 0 then (if 0 ≤ x8 then (if x8 < (x0.length : Int) then (some ((rd_T56 x0 x8).f1)) else (none)) else (none)) else (if x8 < 0 then (if 0 ≤ x7 then (if x7 < (x0.length : Int) then (some ((rd_T56 x0 x7).f1)) else (none)) else (none)) else (if x7 = x8 then (if 0 ≤ x7 then (if x7 < (x0.length : Int) then (some ((rd_T56 x0 x7).f1)) else (none)) else (none)) else (if 0 ≤ x8 then (if x8 < (x0.length : Int) then (if 0 ≤ x7 then (if x7 < (x0.length : Int) then ((Qa0.f (wrap64 ((wrap64 (((rd_T56 x0 x7).f1) * (wrap64 (((rd_T56 x0 x8).f0) - ((rd_T56 x0 x7).f0))))) + (wrap64 ((wrap64 (((rd_T56 x0 x8).f1) - ((rd_T56 x0 x7).f1))) * (wrap64 (x1 - ((rd_T56 x0 x7).f0))))))) (wrap64 ((wrap64 (((rd_T56 x0 x8).f0) - ((rd_T56 x0 x7).f0))) * x2))).bind fun t304 => (some (wrap64 (t304 * x2)))) else (none)) else (none)) else (none)) else (none)))))
end
def Qai.f (k : Nat) (l0 : List (S56)) (a1 : Int) (a2 : Int) : Option (Int) := Qai.l0 k l0 a1 a2 (-1) (-1) (wrap64 ((l0.length : Int) - 1))
theorem Qai.mono_l : ∀ k, (∀ y0 y1 y2 y3 y4 y5, LeO (Qai.l0 k y0 y1 y2 y3 y4 y5) (Qai.l0 (k + 1) y0 y1 y2 y3 y4 y5)) ∧ (∀ y0 y1 y2 y3 y4 y5, LeO (Qai.l1 k y0 y1 y2 y3 y4 y5) (Qai.l1 (k + 1) y0 y1 y2 y3 y4 y5))
 | 0 => ⟨fun _ _ _ _ _ _ r h => by simp [Qai.l0] at h, fun _ _ _ _ _ _ r h => by simp [Qai.l1] at h⟩
 | k + 1 => by
  obtain ⟨ih0, ih1⟩ := Qai.mono_l k
  refine ⟨?_, ?_⟩
  ·intro y0 y1 y2 y3 y4 y5
   unfold Qai.l0
   exact ZM2 ih0 ih1
  intro y0 y1 y2 y3 y4 y5
  unfold Qai.l1
  exact ZM2 ih0 ih1
theorem Qai.mono : ∀ a0 a1 a2 k, LeO (Qai.f k a0 a1 a2) (Qai.f (k + 1) a0 a1 a2) := by
 intro a0 a1 a2 k
 obtain ⟨ih0, ih1⟩ := Qai.mono_l k
 unfold Qai.f
 exact ZM2 ih0 ih1
theorem Qai.calls (k : Nat) (A0 : Option Addr) (c0 : Nat) (l0 : List (S56)) (a1 : Int) (a2 : Int) (r : Int) (w : World) (hr0 : Kd.C k56 w A0 l0.length l0) (hc0 : l0.length ≤ c0) (h : Qai.f k l0 a1 a2 = some r) :
  Calls Try.prog 59 #[.slice A0 l0.length c0, .int .i64 a1, .int .i64 a2] w fun e w' => e = .returned (.int .i64 r) ∧ Drawn0 w w' := by
 have HR0 := Aside0.mk hr0
 have HC0 := Aside0.mk hc0
 clear hr0 hc0
 have H : (Qai.l0 k l0 a1 a2 (-1) (-1) (wrap64 ((l0.length : Int) - 1))) = some r := h
 clear h
 have H' := Aside0.mk H
 clear H
 go_enter Try.func59, Try.ntmps59
 go_wp2
 repeat (go_quiet (fail); try go_wp2)
 go_loopg [8, 9] k (fun kq v8 v9 w' => ∃ (x8_1 : Int) (x9_1 : Int), v8 = .int .i64 x8_1 ∧ v9 = .int .i64 x9_1 ∧ Aside0 (Qai.l0 kq l0 a1 a2 (-1) x8_1 x9_1 = some r) ∧ Aside0 (kq ≤ k) ∧ Drawn0 w w')
 case atStart => exact ⟨((-1)), (wrap64 ((l0.length : Int) - 1)), (Zs), (Zs), H', ⟨Nat.le_refl _⟩, Zd⟩
 case round =>
  clear H'
  try clear p2
  obtain ⟨x8_1, x9_1, rfl, rfl, HA, HK1, ⟨m1, rfl⟩⟩ := hrel
  cases gk with
  | zero => exact absurd HA.out (by simp [Qai.l0])
  | succ k1 =>
   have H := HA.out
   clear HA
   simp only [Qai.l0] at H
   by_cases c4 : x9_1 ≥ 0
   ·rw [if_pos c4] at H
    have c4b0 : decide (0 ≤ x9_1) = T := decide_eq_true c4
    clear c4
    (try simp only [c4b0])
    by_cases c5 : 0 ≤ x9_1
    ·rw [if_pos c5] at H
     have c5b0 : decide (0 ≤ x9_1) = T := decide_eq_true c5
     clear c5
     by_cases c6 : x9_1 < (l0.length : Int)
     ·rw [if_pos c6] at H
      have c6b0 : decide (x9_1 < (l0.length : Int)) = T := decide_eq_true c6
      clear c6
      obtain ⟨bq7, hbq7⟩ : ∃ b_ : Bool, b_ = ((rd_T56 l0 x9_1).f2) := ⟨_, rfl⟩
      replace H : (if bq7 = T then (if ((rd_T56 l0 x9_1).f0) ≥ a1 then (Qai.l0 k1 l0 a1 a2 (-1) x9_1 (wrap64 (x9_1 - 1))) else (Qai.l0 k1 l0 a1 a2 (-1) x8_1 (wrap64 (x9_1 - 1)))) else (Qai.l0 k1 l0 a1 a2 (-1) x8_1 (wrap64 (x9_1 - 1)))) = some r := by rw [← hbq7] at H; exact H
      have Nbq7 := Aside0.mk hbq7
      clear hbq7
      by_cases c8 : bq7 = T
      ·subst c8
       have H1 : (if ((rd_T56 l0 x9_1).f0) ≥ a1 then (Qai.l0 k1 l0 a1 a2 (-1) x9_1 (wrap64 (x9_1 - 1))) else (Qai.l0 k1 l0 a1 a2 (-1) x8_1 (wrap64 (x9_1 - 1)))) = some r := by rw [if_pos rfl] at H; exact H
       clear H
       have H := H1
       clear H1
       have p291 : 0 ≤ (x9_1 : Int) := Ze
       have q291 : x9_1 < (l0.length : Int) := Ze
       obtain ⟨ad291, e291, hx291_0, hx291_1, hx291_2⟩ := at_T56 HR0.out x9_1 p291 q291
       (try rw [← Nbq7.out] at hx291_2); (try rw [← Nbq7.out] at hw291_2)
       cases e291
       replace p291 := eq_true p291
       replace q291 := eq_true q291
       have p292 : 0 ≤ (x9_1 : Int) := Ze
       have q292 : x9_1 < (l0.length : Int) := Ze
       obtain ⟨ad292, e292, hx292_0, hx292_1, hx292_2⟩ := at_T56 HR0.out x9_1 p292 q292
       (try rw [← Nbq7.out] at hx292_2); (try rw [← Nbq7.out] at hw292_2)
       obtain rfl : ad291 = ad292 := (by injection e292)
       replace p292 := eq_true p292
       replace q292 := eq_true q292
       go_upto_if 33 with (fail)
       repeat (go_quiet (fail); go_upto_if 33 with (fail))
       (try rw [← Nbq7.out])
       by_cases c9 : ((rd_T56 l0 x9_1).f0) ≥ a1
       ·rw [if_pos c9] at H
        have c9b0 : decide (a1 ≤ ((rd_T56 l0 x9_1).f0)) = T := decide_eq_true c9
        clear c9
        (try simp only [c9b0])
        have H' := Aside0.mk H
        clear H
        go_wp2
        repeat (go_quiet (fail); try go_wp2)
        go_roundg k1
        case measure => have := HK1.out; omega
        case rel => exact ⟨(x9_1), (wrap64 (x9_1 - 1)), (Zs), (Zs), H', ⟨by have := HK1.out; omega⟩, Zd⟩
       rw [if_neg c9] at H
       have c9b0 : decide (a1 ≤ ((rd_T56 l0 x9_1).f0)) = F := decide_eq_false c9
       clear c9
       (try simp only [c9b0])
       have H' := Aside0.mk H
       clear H
       go_wp2
       repeat (go_quiet (fail); try go_wp2)
       go_roundg k1
       case measure => have := HK1.out; omega
       case rel => exact ⟨(x8_1), (wrap64 (x9_1 - 1)), (Zs), (Zs), H', ⟨by have := HK1.out; omega⟩, Zd⟩
      replace c8 := Bool.eq_false_iff.mpr c8
      subst c8
      have H1 : (Qai.l0 k1 l0 a1 a2 (-1) x8_1 (wrap64 (x9_1 - 1))) = some r := by rw [if_neg (show ¬ (F = T) by decide)] at H; exact H
      clear H
      have H := H1
      clear H1
      have H' := Aside0.mk H
      clear H
      have p291 : 0 ≤ (x9_1 : Int) := Ze
      have q291 : x9_1 < (l0.length : Int) := Ze
      obtain ⟨ad291, e291, hx291_0, hx291_1, hx291_2⟩ := at_T56 HR0.out x9_1 p291 q291
      (try rw [← Nbq7.out] at hx291_2); (try rw [← Nbq7.out] at hw291_2)
      cases e291
      replace p291 := eq_true p291
      replace q291 := eq_true q291
      go_wp2
      repeat (go_quiet (fail); try go_wp2)
      go_roundg k1
      case measure => have := HK1.out; omega
      case rel => exact ⟨(x8_1), (wrap64 (x9_1 - 1)), (Zs), (Zs), H', ⟨by have := HK1.out; omega⟩, Zd⟩
     rw [if_neg c6] at H
     exact absurd H (by simp)
    rw [if_neg c5] at H
    exact absurd H (by simp)
   rw [if_neg c4] at H
   have c4b0 : decide (0 ≤ x9_1) = F := decide_eq_false c4
   clear c4
   (try simp only [c4b0])
   have H' := Aside0.mk H
   clear H
   go_wp2
   repeat (go_quiet (fail); try go_wp2)
   go_loopg [7, 10] k1 (fun kq v7 v10 w' => ∃ (x7_2 : Int) (x10_2 : Int), v7 = .int .i64 x7_2 ∧ v10 = .int .i64 x10_2 ∧ Aside0 (Qai.l1 kq l0 a1 a2 x7_2 x8_1 x10_2 = some r) ∧ Aside0 (kq ≤ k1) ∧ Drawn0 w w')
   case atStart => exact ⟨((-1)), (0), (Zs), (Zs), H', ⟨Nat.le_refl _⟩, Zd⟩
   case round =>
    clear H'
    try clear p2
    try clear q2
    try clear hx2
    try clear c4
    try clear c4b0
    try clear c5
    try clear c5b0
    try clear c6
    try clear c6b0
    try clear p6
    try clear q7
    try clear c8
    try clear c9
    try clear c9b0
    try clear hx291_0
    try clear hx291_1
    try clear hx291_2
    try clear hx292_0
    try clear hx292_1
    try clear hx292_2
    try clear p2
    try clear p291
    try clear p292
    try clear q291
    try clear q292
    obtain ⟨x7_2, x10_2, rfl, rfl, HA, HK2, ⟨m2, rfl⟩⟩ := hrel
    cases gk with
    | zero => exact absurd HA.out (by simp [Qai.l1])
    | succ k2 =>
     have H := HA.out
     clear HA
     simp only [Qai.l1] at H
     by_cases c10 : x10_2 < (l0.length : Int)
     ·rw [if_pos c10] at H
      have c10b0 : decide (x10_2 < (l0.length : Int)) = T := decide_eq_true c10
      clear c10
      (try simp only [c10b0])
      by_cases c11 : 0 ≤ x10_2
      ·rw [if_pos c11] at H
       have c11b0 : decide (0 ≤ x10_2) = T := decide_eq_true c11
       clear c11
       obtain ⟨bq12, hbq12⟩ : ∃ b_ : Bool, b_ = ((rd_T56 l0 x10_2).f2) := ⟨_, rfl⟩
       replace H : (if bq12 = T then (if ((rd_T56 l0 x10_2).f0) ≤ a1 then (Qai.l1 k2 l0 a1 a2 x10_2 x8_1 (wrap64 (x10_2 + 1))) else (Qai.l1 k2 l0 a1 a2 x7_2 x8_1 (wrap64 (x10_2 + 1)))) else (Qai.l1 k2 l0 a1 a2 x7_2 x8_1 (wrap64 (x10_2 + 1)))) = some r := by rw [← hbq12] at H; exact H
       have Nbq12 := Aside0.mk hbq12
       clear hbq12
       by_cases c13 : bq12 = T
       ·subst c13
        have H1 : (if ((rd_T56 l0 x10_2).f0) ≤ a1 then (Qai.l1 k2 l0 a1 a2 x10_2 x8_1 (wrap64 (x10_2 + 1))) else (Qai.l1 k2 l0 a1 a2 x7_2 x8_1 (wrap64 (x10_2 + 1)))) = some r := by rw [if_pos rfl] at H; exact H
        clear H
        have H := H1
        clear H1
        have p293 : 0 ≤ (x10_2 : Int) := Ze
        have q293 : x10_2 < (l0.length : Int) := Ze
        obtain ⟨ad293, e293, hx293_0, hx293_1, hx293_2⟩ := at_T56 HR0.out x10_2 p293 q293
        (try rw [← Nbq12.out] at hx293_2); (try rw [← Nbq12.out] at hw293_2)
        cases e293
        replace p293 := eq_true p293
        replace q293 := eq_true q293
        have p294 : 0 ≤ (x10_2 : Int) := Ze
        have q294 : x10_2 < (l0.length : Int) := Ze
        obtain ⟨ad294, e294, hx294_0, hx294_1, hx294_2⟩ := at_T56 HR0.out x10_2 p294 q294
        (try rw [← Nbq12.out] at hx294_2); (try rw [← Nbq12.out] at hw294_2)
        obtain rfl : ad293 = ad294 := (by injection e294)
        replace p294 := eq_true p294
        replace q294 := eq_true q294
        go_upto_if 54 with (fail)
        repeat (go_quiet (fail); go_upto_if 54 with (fail))
        (try rw [← Nbq12.out])
        by_cases c14 : ((rd_T56 l0 x10_2).f0) ≤ a1
        ·rw [if_pos c14] at H
         have c14b0 : decide (((rd_T56 l0 x10_2).f0) ≤ a1) = T := decide_eq_true c14
         clear c14
         (try simp only [c14b0])
         have H' := Aside0.mk H
         clear H
         go_wp2
         repeat (go_quiet (fail); try go_wp2)
         go_roundg k2
         case measure => have := HK1.out; have := HK2.out; omega
         case rel => exact ⟨(x10_2), (wrap64 (x10_2 + 1)), (Zs), (Zs), H', ⟨by have := HK1.out; have := HK2.out; omega⟩, Zd⟩
        rw [if_neg c14] at H
        have c14b0 : decide (((rd_T56 l0 x10_2).f0) ≤ a1) = F := decide_eq_false c14
        clear c14
        (try simp only [c14b0])
        have H' := Aside0.mk H
        clear H
        go_wp2
        repeat (go_quiet (fail); try go_wp2)
        go_roundg k2
        case measure => have := HK1.out; have := HK2.out; omega
        case rel => exact ⟨(x7_2), (wrap64 (x10_2 + 1)), (Zs), (Zs), H', ⟨by have := HK1.out; have := HK2.out; omega⟩, Zd⟩
       replace c13 := Bool.eq_false_iff.mpr c13
       subst c13
       have H1 : (Qai.l1 k2 l0 a1 a2 x7_2 x8_1 (wrap64 (x10_2 + 1))) = some r := by rw [if_neg (show ¬ (F = T) by decide)] at H; exact H
       clear H
       have H := H1
       clear H1
       have H' := Aside0.mk H
       clear H
       have p293 : 0 ≤ (x10_2 : Int) := Ze
       have q293 : x10_2 < (l0.length : Int) := Ze
       obtain ⟨ad293, e293, hx293_0, hx293_1, hx293_2⟩ := at_T56 HR0.out x10_2 p293 q293
       (try rw [← Nbq12.out] at hx293_2); (try rw [← Nbq12.out] at hw293_2)
       cases e293
       replace p293 := eq_true p293
       replace q293 := eq_true q293
       go_wp2
       repeat (go_quiet (fail); try go_wp2)
       go_roundg k2
       case measure => have := HK1.out; have := HK2.out; omega
       case rel => exact ⟨(x7_2), (wrap64 (x10_2 + 1)), (Zs), (Zs), H', ⟨by have := HK1.out; have := HK2.out; omega⟩, Zd⟩
      rw [if_neg c11] at H
      exact absurd H (by simp)
     rw [if_neg c10] at H
     have c10b0 : decide (x10_2 < (l0.length : Int)) = F := decide_eq_false c10
     clear c10
     (try simp only [c10b0])
     by_cases c15 : x7_2 < 0
     ·rw [if_pos c15] at H
      have c15b0 : decide (x7_2 < 0) = T := decide_eq_true c15
      clear c15
      (try simp only [c15b0])
      by_cases c16 : 0 ≤ x8_1
      ·rw [if_pos c16] at H
       have c16b0 : decide (0 ≤ x8_1) = T := decide_eq_true c16
       clear c16
       by_cases c17 : x8_1 < (l0.length : Int)
       ·rw [if_pos c17] at H
        have c17b0 : decide (x8_1 < (l0.length : Int)) = T := decide_eq_true c17
        clear c17
        obtain rfl := Option.some.inj H
        have p295 : 0 ≤ (x8_1 : Int) := Ze
        have q295 : x8_1 < (l0.length : Int) := Ze
        obtain ⟨ad295, e295, hx295_0, hx295_1, hx295_2⟩ := at_T56 HR0.out x8_1 p295 q295
        cases e295
        replace p295 := eq_true p295
        replace q295 := eq_true q295
        go_wp2
        repeat (go_quiet (fail); try go_wp2)
        go_ret
        exact ⟨Zs, Zd⟩
       rw [if_neg c17] at H
       exact absurd H (by simp)
      rw [if_neg c16] at H
      exact absurd H (by simp)
     rw [if_neg c15] at H
     have c15b0 : decide (x7_2 < 0) = F := decide_eq_false c15
     clear c15
     (try simp only [c15b0])
     by_cases c18 : x8_1 < 0
     ·rw [if_pos c18] at H
      have c18b0 : decide (x8_1 < 0) = T := decide_eq_true c18
      clear c18
      by_cases c19 : 0 ≤ x7_2
      ·rw [if_pos c19] at H
       have c19b0 : decide (0 ≤ x7_2) = T := decide_eq_true c19
       clear c19
       (try simp only [c19b0])
       by_cases c20 : x7_2 < (l0.length : Int)
       ·rw [if_pos c20] at H
        have c20b0 : decide (x7_2 < (l0.length : Int)) = T := decide_eq_true c20
        clear c20
        obtain rfl := Option.some.inj H
        have p296 : 0 ≤ (x7_2 : Int) := Ze
        have q296 : x7_2 < (l0.length : Int) := Ze
        obtain ⟨ad296, e296, hx296_0, hx296_1, hx296_2⟩ := at_T56 HR0.out x7_2 p296 q296
        cases e296
        replace p296 := eq_true p296
        replace q296 := eq_true q296
        go_wp2
        repeat (go_quiet (fail); try go_wp2)
        go_ret
        exact ⟨Zs, Zd⟩
       rw [if_neg c20] at H
       exact absurd H (by simp)
      rw [if_neg c19] at H
      exact absurd H (by simp)
     rw [if_neg c18] at H
     have c18b0 : decide (x8_1 < 0) = F := decide_eq_false c18
     clear c18
     by_cases c21 : x7_2 = x8_1
     ·rw [if_pos c21] at H
      have c21b0 : (x7_2 == x8_1) = T := beq_iff_eq.mpr c21
      have c21b1 : (x7_2 != x8_1) = F := bne_eq_false_iff_eq.mpr c21
      clear c21
      (try simp only [c21b0, c21b1])
      by_cases c22 : 0 ≤ x7_2
      ·rw [if_pos c22] at H
       have c22b0 : decide (0 ≤ x7_2) = T := decide_eq_true c22
       clear c22
       by_cases c23 : x7_2 < (l0.length : Int)
       ·rw [if_pos c23] at H
        have c23b0 : decide (x7_2 < (l0.length : Int)) = T := decide_eq_true c23
        clear c23
        obtain rfl := Option.some.inj H
        have p297 : 0 ≤ (x7_2 : Int) := Ze
        have q297 : x7_2 < (l0.length : Int) := Ze
        obtain ⟨ad297, e297, hx297_0, hx297_1, hx297_2⟩ := at_T56 HR0.out x7_2 p297 q297
        cases e297
        replace p297 := eq_true p297
        replace q297 := eq_true q297
        go_wp2
        repeat (go_quiet (fail); try go_wp2)
        go_ret
        exact ⟨Zs, Zd⟩
       rw [if_neg c23] at H
       exact absurd H (by simp)
      rw [if_neg c22] at H
      exact absurd H (by simp)
     rw [if_neg c21] at H
     have c21b0 : (x7_2 == x8_1) = F := beq_eq_false_iff_ne.mpr c21
     have c21b1 : (x7_2 != x8_1) = T := bne_iff_ne.mpr c21
     (try simp only [c21b0, c21b1])
     by_cases c24 : 0 ≤ x8_1
     ·rw [if_pos c24] at H
      have c24b0 : decide (0 ≤ x8_1) = T := decide_eq_true c24
      clear c24
      by_cases c25 : x8_1 < (l0.length : Int)
      ·rw [if_pos c25] at H
       have c25b0 : decide (x8_1 < (l0.length : Int)) = T := decide_eq_true c25
       clear c25
       by_cases c26 : 0 ≤ x7_2
       ·rw [if_pos c26] at H
        have c26b0 : decide (0 ≤ x7_2) = T := decide_eq_true c26
        clear c26
        by_cases c27 : x7_2 < (l0.length : Int)
        ·rw [if_pos c27] at H
         have c27b0 : decide (x7_2 < (l0.length : Int)) = T := decide_eq_true c27
         clear c27
         replace H := Option.bind_eq_some_iff.mp H
         obtain ⟨t304, A280, H⟩ := H
         replace H : (some (wrap64 (t304 * a2))) = some r := H
         have A28 := Aside0.mk A280
         clear A280
         obtain rfl := Option.some.inj H
         have p298 : 0 ≤ (x8_1 : Int) := Ze
         have q298 : x8_1 < (l0.length : Int) := Ze
         obtain ⟨ad298, e298, hx298_0, hx298_1, hx298_2⟩ := at_T56 HR0.out x8_1 p298 q298
         cases e298
         replace p298 := eq_true p298
         replace q298 := eq_true q298
         have p299 : 0 ≤ (x7_2 : Int) := Ze
         have q299 : x7_2 < (l0.length : Int) := Ze
         obtain ⟨ad299, e299, hx299_0, hx299_1, hx299_2⟩ := at_T56 HR0.out x7_2 p299 q299
         obtain rfl : ad298 = ad299 := (by injection e299)
         replace p299 := eq_true p299
         replace q299 := eq_true q299
         have p300 : 0 ≤ (x7_2 : Int) := Ze
         have q300 : x7_2 < (l0.length : Int) := Ze
         obtain ⟨ad300, e300, hx300_0, hx300_1, hx300_2⟩ := at_T56 HR0.out x7_2 p300 q300
         obtain rfl : ad298 = ad300 := (by injection e300)
         replace p300 := eq_true p300
         replace q300 := eq_true q300
         have p301 : 0 ≤ (x8_1 : Int) := Ze
         have q301 : x8_1 < (l0.length : Int) := Ze
         obtain ⟨ad301, e301, hx301_0, hx301_1, hx301_2⟩ := at_T56 HR0.out x8_1 p301 q301
         obtain rfl : ad298 = ad301 := (by injection e301)
         replace p301 := eq_true p301
         replace q301 := eq_true q301
         have p302 : 0 ≤ (x7_2 : Int) := Ze
         have q302 : x7_2 < (l0.length : Int) := Ze
         obtain ⟨ad302, e302, hx302_0, hx302_1, hx302_2⟩ := at_T56 HR0.out x7_2 p302 q302
         obtain rfl : ad298 = ad302 := (by injection e302)
         replace p302 := eq_true p302
         replace q302 := eq_true q302
         have p303 : 0 ≤ (x7_2 : Int) := Ze
         have q303 : x7_2 < (l0.length : Int) := Ze
         obtain ⟨ad303, e303, hx303_0, hx303_1, hx303_2⟩ := at_T56 HR0.out x7_2 p303 q303
         obtain rfl : ad298 = ad303 := (by injection e303)
         replace p303 := eq_true p303
         replace q303 := eq_true q303
         go_wp2_with (first | (go_at_call 81; (with_reducible refine (Qa0.calls (wrap64 ((wrap64 (((rd_T56 l0 x7_2).f1) * (wrap64 (((rd_T56 l0 x8_1).f0) - ((rd_T56 l0 x7_2).f0))))) + (wrap64 ((wrap64 (((rd_T56 l0 x8_1).f1) - ((rd_T56 l0 x7_2).f1))) * (wrap64 (a1 - ((rd_T56 l0 x7_2).f0))))))) (wrap64 ((wrap64 (((rd_T56 l0 x8_1).f0) - ((rd_T56 l0 x7_2).f0))) * a2)) t304 _ A28.out).mono ?_); rintro e w' ⟨rfl, ⟨nd, rfl⟩⟩; (try first | exact ⟨rfl, _, World.drewN_drewN _ _ _⟩ | exact ⟨rfl, _, Eq.trans (World.drewN_drewN _ _ _) (congrArg (World.drewN _) (Nat.add_assoc _ _ _))⟩)))
         repeat (go_quiet (first | (go_at_call 81; (with_reducible refine (Qa0.calls (wrap64 ((wrap64 (((rd_T56 l0 x7_2).f1) * (wrap64 (((rd_T56 l0 x8_1).f0) - ((rd_T56 l0 x7_2).f0))))) + (wrap64 ((wrap64 (((rd_T56 l0 x8_1).f1) - ((rd_T56 l0 x7_2).f1))) * (wrap64 (a1 - ((rd_T56 l0 x7_2).f0))))))) (wrap64 ((wrap64 (((rd_T56 l0 x8_1).f0) - ((rd_T56 l0 x7_2).f0))) * a2)) t304 _ A28.out).mono ?_); rintro e w' ⟨rfl, ⟨nd, rfl⟩⟩; (try first | exact ⟨rfl, _, World.drewN_drewN _ _ _⟩ | exact ⟨rfl, _, Eq.trans (World.drewN_drewN _ _ _) (congrArg (World.drewN _) (Nat.add_assoc _ _ _))⟩))); try go_wp2_with (first | (go_at_call 81; (with_reducible refine (Qa0.calls (wrap64 ((wrap64 (((rd_T56 l0 x7_2).f1) * (wrap64 (((rd_T56 l0 x8_1).f0) - ((rd_T56 l0 x7_2).f0))))) + (wrap64 ((wrap64 (((rd_T56 l0 x8_1).f1) - ((rd_T56 l0 x7_2).f1))) * (wrap64 (a1 - ((rd_T56 l0 x7_2).f0))))))) (wrap64 ((wrap64 (((rd_T56 l0 x8_1).f0) - ((rd_T56 l0 x7_2).f0))) * a2)) t304 _ A28.out).mono ?_); rintro e w' ⟨rfl, ⟨nd, rfl⟩⟩; (try first | exact ⟨rfl, _, World.drewN_drewN _ _ _⟩ | exact ⟨rfl, _, Eq.trans (World.drewN_drewN _ _ _) (congrArg (World.drewN _) (Nat.add_assoc _ _ _))⟩))))
         go_ret
         exact ⟨Zs, Zd⟩
        rw [if_neg c27] at H
        exact absurd H (by simp)
       rw [if_neg c26] at H
       exact absurd H (by simp)
      rw [if_neg c25] at H
      exact absurd H (by simp)
     rw [if_neg c24] at H
     exact absurd H (by simp)
def QaB.j0 : Nat → List (S56) → Int → Int → Bool → Option (Int × Int)
 | 0, _, _, _, _ => none
 | k + 1, x0, x1, x2, x19 => if x19 = T then (some (0, 16)) else (if x1 < 0 then (some (0, 15)) else (if x1 > 73048 then (some (0, 15)) else ((Qai.f k x0 x1 x2).bind fun t306 => (some (t306, 0)))))
def QaB.f (k : Nat) (l0 : List (S56)) (a1 : Int) (a2 : Int) : Option (Int × Int) := (Qad.f k l0).bind fun t305 => (if t305 = 0 then (if a2 < 1 then (QaB.j0 k l0 a1 a2 T) else (QaB.j0 k l0 a1 a2 (decide (a2 > 16777216)))) else (some (0, t305)))
theorem QaB.mono_l : ∀ k, (∀ y0 y1 y2 y3, LeO (QaB.j0 k y0 y1 y2 y3) (QaB.j0 (k + 1) y0 y1 y2 y3))
 | 0 => fun _ _ _ _ r h => by simp [QaB.j0] at h
 | k + 1 => by
  have ih0 := QaB.mono_l k
  intro y0 y1 y2 y3
  unfold QaB.j0
  exact ZM3 ih0 Qad.mono Qai.mono
theorem QaB.mono : ∀ a0 a1 a2 k, LeO (QaB.f k a0 a1 a2) (QaB.f (k + 1) a0 a1 a2) := by
 intro a0 a1 a2 k
 have ih0 := QaB.mono_l k
 unfold QaB.f
 exact ZM3 ih0 Qad.mono Qai.mono
theorem QaB.calls (k : Nat) (A0 : Option Addr) (c0 : Nat) (l0 : List (S56)) (a1 : Int) (a2 : Int) (r1 : Int) (r2 : Int) (w : World) (hr0 : Kd.C k56 w A0 l0.length l0) (hc0 : l0.length ≤ c0) (h : QaB.f k l0 a1 a2 = some (r1, r2)) :
  Calls Try.prog 30 #[.slice A0 l0.length c0, .int .i64 a1, .int .i64 a2] w fun e w' => e = .returned (.tuple #[.int .i64 r1, .int .i64 r2]) ∧ Drawn0 w w' := by
 have HR0 := Aside0.mk hr0
 have HC0 := Aside0.mk hc0
 clear hr0 hc0
 have H : ((Qad.f k l0).bind fun t305 => (if t305 = 0 then (if a2 < 1 then (QaB.j0 k l0 a1 a2 T) else (QaB.j0 k l0 a1 a2 (decide (a2 > 16777216)))) else (some (0, t305)))) = some (r1, r2) := h
 clear h
 replace H := Option.bind_eq_some_iff.mp H
 obtain ⟨t305, A40, H⟩ := H
 replace H : (if t305 = 0 then (if a2 < 1 then (QaB.j0 k l0 a1 a2 T) else (QaB.j0 k l0 a1 a2 (decide (a2 > 16777216)))) else (some (0, t305))) = some (r1, r2) := H
 have A4 := Aside0.mk A40
 clear A40
 go_enter Try.func30, Try.ntmps30
 go_upto_if 12 with (first | ((with_reducible refine QaD (f := 32) rfl ?_); refine goesL_ (some 10) rfl rfl Try.func32 (by kernel_rfl) rfl #[.slice A0 l0.length c0] rfl (Zl) ?_; (with_reducible refine (Qad.calls k _ _ l0 t305 _ ?side1 ?side2 A4.out).mono ?_); (case side1 => exact Zv HR0.out); (case side2 => exact HC0.out); rintro e w' ⟨rfl, ⟨nd, rfl⟩⟩; refine ⟨_, rfl, ?_⟩))
 (try simp only [Act.put, Zj, Zk, Zm])
 by_cases c5 : t305 = 0
 ·rw [if_pos c5] at H
  have c5b0 : (t305 == 0) = T := beq_iff_eq.mpr c5
  have c5b1 : (t305 != 0) = F := bne_eq_false_iff_eq.mpr c5
  clear c5
  (try simp only [c5b0, c5b1])
  have HC6 := Aside0.mk H
  clear H
  go_upto_region 4 with (fail)
  go_cut [19] (fun v19 wc => ∃ (kq : Nat) (x19_5 : Bool), v19 = .bool x19_5 ∧ Aside0 (QaB.j0 kq l0 a1 a2 x19_5 = some (r1, r2)) ∧ Aside0 (kq ≤ k) ∧ Drawn0 w wc)
  case first =>
   have H := HC6.out
   clear HC6
   by_cases c7 : a2 < 1
   ·rw [if_pos c7] at H
    have c7b0 : decide (a2 < 1) = T := decide_eq_true c7
    clear c7
    have H' := Aside0.mk H
    clear H
    go_wp2
    go_meet
    case rel => exact ⟨_, (T), (Zs), H', ⟨by first | omega | exact Nat.le_refl _⟩, Zd⟩
   rw [if_neg c7] at H
   have c7b0 : decide (a2 < 1) = F := decide_eq_false c7
   clear c7
   have H' := Aside0.mk H
   clear H
   go_wp2
   go_meet
   case rel => exact ⟨_, (decide (a2 > 16777216)), (Zs), H', ⟨by first | omega | exact Nat.le_refl _⟩, Zd⟩
  case rest =>
   clear HC6
   try clear p2
   try clear c3
   try clear c5
   try clear c5b0
   try clear c5b1
   try clear c7
   try clear c7b0
   obtain ⟨kq, x19_5, rfl, HA, HJ5, ⟨mc5, rfl⟩⟩ := hcut
   cases kq with
   | zero => exact absurd HA.out (by simp [QaB.j0])
   | succ kj5 =>
    have H := HA.out
    clear HA
    simp only [QaB.j0] at H
    by_cases c8 : x19_5 = T
    ·subst c8
     have H1 : (some (0, 16)) = some (r1, r2) := by rw [if_pos rfl] at H; exact H
     clear H
     have H := H1
     clear H1
     simp only [Option.some.injEq, Prod.mk.injEq] at H
     obtain ⟨rfl, rfl⟩ := H
     go_wp2
     go_ret2
     exact ⟨Zs, Zd⟩
    replace c8 := Bool.eq_false_iff.mpr c8
    subst c8
    have H1 : (if a1 < 0 then (some (0, 15)) else (if a1 > 73048 then (some (0, 15)) else ((Qai.f kj5 l0 a1 a2).bind fun t306 => (some (t306, 0))))) = some (r1, r2) := by rw [if_neg (show ¬ (F = T) by decide)] at H; exact H
    clear H
    have H := H1
    clear H1
    by_cases c9 : a1 < 0
    ·rw [if_pos c9] at H
     have c9b0 : decide (a1 < 0) = T := decide_eq_true c9
     clear c9
     simp only [Option.some.injEq, Prod.mk.injEq] at H
     obtain ⟨rfl, rfl⟩ := H
     go_wp2
     go_ret2
     exact ⟨Zs, Zd⟩
    rw [if_neg c9] at H
    have c9b0 : decide (a1 < 0) = F := decide_eq_false c9
    clear c9
    by_cases c10 : a1 > 73048
    ·rw [if_pos c10] at H
     have c10b0 : decide (73048 < a1) = T := decide_eq_true c10
     clear c10
     (try simp only [c10b0])
     simp only [Option.some.injEq, Prod.mk.injEq] at H
     obtain ⟨rfl, rfl⟩ := H
     go_wp2
     go_ret2
     exact ⟨Zs, Zd⟩
    rw [if_neg c10] at H
    have c10b0 : decide (73048 < a1) = F := decide_eq_false c10
    clear c10
    (try simp only [c10b0])
    replace H := Option.bind_eq_some_iff.mp H
    obtain ⟨t306, A110, H⟩ := H
    replace H : (some (t306, 0)) = some (r1, r2) := H
    have A11 := Aside0.mk A110
    clear A110
    simp only [Option.some.injEq, Prod.mk.injEq] at H
    obtain ⟨rfl, rfl⟩ := H
    go_wp2_with (first | ((with_reducible refine QaD (f := 59) rfl ?_); refine goesL_ (some 29) rfl rfl Try.func59 (by kernel_rfl) rfl #[.slice A0 l0.length c0, .int .i64 a1, .int .i64 a2] rfl (Zl) ?_; (with_reducible refine (Qai.calls kj5 _ _ l0 a1 a2 t306 _ ?side1 ?side2 A11.out).mono ?_); (case side1 => exact Zv HR0.out); (case side2 => exact HC0.out); rintro e w' ⟨rfl, ⟨nd, rfl⟩⟩; refine ⟨_, rfl, ?_⟩))
    go_ret2
    exact ⟨Zs, Zd⟩
 rw [if_neg c5] at H
 have c5b0 : (t305 == 0) = F := beq_eq_false_iff_ne.mpr c5
 have c5b1 : (t305 != 0) = T := bne_iff_ne.mpr c5
 (try simp only [c5b0, c5b1])
 simp only [Option.some.injEq, Prod.mk.injEq] at H
 obtain ⟨rfl, rfl⟩ := H
 go_wp2
 go_ret2
 exact ⟨Zs, Zd⟩
def QaG.j0 : Nat → Int → Int → Int → Bool → Option (Int)
 | 0, _, _, _, _ => none
 | k + 1, x0, x1, x2, x7 => if x7 = T then (some x1) else (if x0 > x2 then (some x2) else (some x0))
def QaG.f (k : Nat) (a0 : Int) (a1 : Int) (a2 : Int) : Option (Int) := if a1 > a2 then (QaG.j0 k a0 a1 a2 T) else (QaG.j0 k a0 a1 a2 (decide (a0 < a1)))
theorem QaG.mono_l : ∀ k, (∀ y0 y1 y2 y3, LeO (QaG.j0 k y0 y1 y2 y3) (QaG.j0 (k + 1) y0 y1 y2 y3))
 | 0 => fun _ _ _ _ r h => by simp [QaG.j0] at h
 | k + 1 => by
  have ih0 := QaG.mono_l k
  intro y0 y1 y2 y3
  unfold QaG.j0
  exact ZM1 ih0
theorem QaG.mono : ∀ a0 a1 a2 k, LeO (QaG.f k a0 a1 a2) (QaG.f (k + 1) a0 a1 a2) := by
 intro a0 a1 a2 k
 have ih0 := QaG.mono_l k
 unfold QaG.f
 exact ZM1 ih0
theorem QaG.calls (k : Nat) (a0 : Int) (a1 : Int) (a2 : Int) (r : Int) (w : World) (h : QaG.f k a0 a1 a2 = some r) :
  Calls Try.prog 61 #[.int .i64 a0, .int .i64 a1, .int .i64 a2] w fun e w' => e = .returned (.int .i64 r) ∧ Drawn0 w w' := by
 have H : (if a1 > a2 then (QaG.j0 k a0 a1 a2 T) else (QaG.j0 k a0 a1 a2 (decide (a0 < a1)))) = some r := h
 clear h
 have HC4 := Aside0.mk H
 clear H
 go_enter Try.func61, Try.ntmps61
 go_upto_region 1 with (fail)
 go_cut [7] (fun v7 wc => ∃ (kq : Nat) (x7_3 : Bool), v7 = .bool x7_3 ∧ Aside0 (QaG.j0 kq a0 a1 a2 x7_3 = some r) ∧ Aside0 (kq ≤ k) ∧ Drawn0 w wc)
 case first =>
  have H := HC4.out
  clear HC4
  by_cases c5 : a1 > a2
  ·rw [if_pos c5] at H
   have c5b0 : decide (a2 < a1) = T := decide_eq_true c5
   clear c5
   have H' := Aside0.mk H
   clear H
   go_wp2
   go_meet
   case rel => exact ⟨_, (T), (Zs), H', ⟨by first | omega | exact Nat.le_refl _⟩, Zd⟩
  rw [if_neg c5] at H
  have c5b0 : decide (a2 < a1) = F := decide_eq_false c5
  clear c5
  have H' := Aside0.mk H
  clear H
  go_wp2
  go_meet
  case rel => exact ⟨_, (decide (a0 < a1)), (Zs), H', ⟨by first | omega | exact Nat.le_refl _⟩, Zd⟩
 case rest =>
  clear HC4
  try clear p2
  try clear c5
  try clear c5b0
  obtain ⟨kq, x7_3, rfl, HA, HJ3, ⟨mc3, rfl⟩⟩ := hcut
  cases kq with
  | zero => exact absurd HA.out (by simp [QaG.j0])
  | succ kj3 =>
   have H := HA.out
   clear HA
   simp only [QaG.j0] at H
   by_cases c6 : x7_3 = T
   ·subst c6
    have H1 : (some a1) = some r := by rw [if_pos rfl] at H; exact H
    clear H
    have H := H1
    clear H1
    obtain rfl := Option.some.inj H
    go_wp2
    go_ret
    exact ⟨Zs, Zd⟩
   replace c6 := Bool.eq_false_iff.mpr c6
   subst c6
   have H1 : (if a0 > a2 then (some a2) else (some a0)) = some r := by rw [if_neg (show ¬ (F = T) by decide)] at H; exact H
   clear H
   have H := H1
   clear H1
   by_cases c7 : a0 > a2
   ·rw [if_pos c7] at H
    have c7b0 : decide (a2 < a0) = T := decide_eq_true c7
    clear c7
    (try simp only [c7b0])
    obtain rfl := Option.some.inj H
    go_wp2
    go_ret
    exact ⟨Zs, Zd⟩
   rw [if_neg c7] at H
   have c7b0 : decide (a2 < a0) = F := decide_eq_false c7
   clear c7
   (try simp only [c7b0])
   obtain rfl := Option.some.inj H
   go_wp2
   go_ret
   exact ⟨Zs, Zd⟩
mutual
def Qah.j0 : Nat → List (S56) → Int → Bool → Option ((List (S56)) × Int)
 | 0, _, _, _ => none
 | k + 1, x0, x1, x19 => if x19 = T then (some (([] : List (S56)), 16)) else (Qah.l0 k x0 x1 (([] : List (S56))) 0)
def Qah.l0 : Nat → List (S56) → Int → List (S56) → Int → Option ((List (S56)) × Int)
 | 0, _, _, _, _ => none
 | k + 1, x0, x1, x7, x8 => if x8 < (x0.length : Int) then (if 0 ≤ x8 then (if (rd_T56 x0 x8).f2 = T then (if x7.length < 5864062014805 then (Qah.l0 k x0 x1 (x7 ++ [(⟨(rd_T56 x0 x8).f0, (rd_T56 x0 x8).f1, (rd_T56 x0 x8).f2⟩ : S56)]) (wrap64 (x8 + 1))) else (none)) else ((Qai.f k x0 ((rd_T56 x0 x8).f0) x1).bind fun t384 => (if x7.length < 5864062014805 then (Qah.l0 k x0 x1 (x7 ++ [(⟨(rd_T56 x0 x8).f0, t384, T⟩ : S56)]) (wrap64 (x8 + 1))) else (none)))) else (none)) else (some (x7, 0))
end
def Qah.f (k : Nat) (l0 : List (S56)) (a1 : Int) : Option ((List (S56)) × Int) := (Qad.f k l0).bind fun t373 => (if t373 = 0 then (if a1 < 1 then (Qah.j0 k l0 a1 T) else (Qah.j0 k l0 a1 (decide (a1 > 16777216)))) else (some (([] : List (S56)), t373)))
theorem Qah.mono_l : ∀ k, (∀ y0 y1 y2, LeO (Qah.j0 k y0 y1 y2) (Qah.j0 (k + 1) y0 y1 y2)) ∧ (∀ y0 y1 y2 y3, LeO (Qah.l0 k y0 y1 y2 y3) (Qah.l0 (k + 1) y0 y1 y2 y3))
 | 0 => ⟨fun _ _ _ r h => by simp [Qah.j0] at h, fun _ _ _ _ r h => by simp [Qah.l0] at h⟩
 | k + 1 => by
  obtain ⟨ih0, ih1⟩ := Qah.mono_l k
  refine ⟨?_, ?_⟩
  ·intro y0 y1 y2
   unfold Qah.j0
   exact ZM4 ih0 ih1 Qad.mono Qai.mono
  intro y0 y1 y2 y3
  unfold Qah.l0
  exact ZM4 ih0 ih1 Qad.mono Qai.mono
theorem Qah.mono : ∀ a0 a1 k, LeO (Qah.f k a0 a1) (Qah.f (k + 1) a0 a1) := by
 intro a0 a1 k
 obtain ⟨ih0, ih1⟩ := Qah.mono_l k
 unfold Qah.f
 exact ZM4 ih0 ih1 Qad.mono Qai.mono
def Qah.T12 : Bool × List (List Nat × List Nat) := (T, [([], []), ([], []), ([], []), ([1, 2], [1, 2]), ([3], [3]), ([4], [4]), ([], []), ([], []), ([], []), ([7, 8], [7, 8]), ([9], [9]), ([10], [10]), ([], []), ([6, 11, 12], [6, 11, 12]), ([5, 13], [5, 13]), ([14], [14]), ([0, 15, 13], [0, 15]), ([16, 16, 0, 1, 2, 3, 4, 5, 6, 7, 8, 9, 10, 11, 12, 13, 14, 15, 16], [0, 16])])
def Qah.B12 : List Nat := [0, 0, 0, 6, 14, 30, 0, 0, 0, 384, 896, 1920, 0, 8128, 16382, 32766, 65535, 131071]
theorem Qah.tab12 : rtab .any (opsOf Try.f36 12) = Qah.T12 := by kernel_rfl
theorem Qah.bits12 : QbD Qah.T12.2 Qah.B12 = T := by kernel_rfl
theorem Qah.calls (k : Nat) (A0 : Option Addr) (c0 : Nat) (l0 : List (S56)) (a1 : Int) (r1 : List (S56)) (r2 : Int) (w : World) (hr0 : Kd.C k56 w A0 l0.length l0) (hc0 : l0.length ≤ c0) (h : Qah.f k l0 a1 = some (r1, r2)) :
  Calls Try.prog 36 #[.slice A0 l0.length c0, .int .i64 a1] w fun e w' => ∃ v0_ : Value, e = .returned (.tuple #[v0_, .int .i64 r2]) ∧ Kd.R k56 56 w' w.heap.size (fun _ => True) v0_ r1 ∧ Below w.heap.size w w' := by
 have hu56 := Try.underlying56
 have HR0 := Aside0.mk hr0
 have HC0 := Aside0.mk hc0
 clear hr0 hc0
 have HB := Aside0.mk (Below.refl w.heap.size w)
 have H : ((Qad.f k l0).bind fun t373 => (if t373 = 0 then (if a1 < 1 then (Qah.j0 k l0 a1 T) else (Qah.j0 k l0 a1 (decide (a1 > 16777216)))) else (some (([] : List (S56)), t373)))) = some (r1, r2) := h
 clear h
 replace H := Option.bind_eq_some_iff.mp H
 obtain ⟨t373, A30, H⟩ := H
 replace H : (if t373 = 0 then (if a1 < 1 then (Qah.j0 k l0 a1 T) else (Qah.j0 k l0 a1 (decide (a1 > 16777216)))) else (some (([] : List (S56)), t373))) = some (r1, r2) := H
 have A3 := Aside0.mk A30
 clear A30
 go_enter Try.func36, Try.ntmps36
 go_upto_if 12 with (first | ((with_reducible refine QaD (f := 32) rfl ?_); refine goesL_ (some 10) rfl rfl Try.func32 (by kernel_rfl) rfl #[.slice A0 l0.length c0] rfl (Zl) ?_; (with_reducible refine (Qad.calls k _ _ l0 t373 _ ?side1 ?side2 A3.out).mono ?_); (case side1 => exact Zv HR0.out); (case side2 => exact HC0.out); rintro e w' ⟨rfl, ⟨nd, rfl⟩⟩; refine ⟨_, rfl, ?_⟩))
 (try simp only [Act.put, Zj, Zk, Zm])
 by_cases c4 : t373 = 0
 ·rw [if_pos c4] at H
  have c4b0 : (t373 == 0) = T := beq_iff_eq.mpr c4
  have c4b1 : (t373 != 0) = F := bne_eq_false_iff_eq.mpr c4
  clear c4
  (try simp only [c4b0, c4b1])
  have HC5 := Aside0.mk H
  clear H
  go_upto_region 4 with (fail)
  go_cut [19] (fun v19 wc => ∃ (kq : Nat) (x19_4 : Bool), v19 = .bool x19_4 ∧ Aside0 (Qah.j0 kq l0 a1 x19_4 = some (r1, r2)) ∧ Aside0 (kq ≤ k) ∧ Aside0 (Below w.heap.size w wc))
  case first =>
   have H := HC5.out
   clear HC5
   by_cases c6 : a1 < 1
   ·rw [if_pos c6] at H
    have c6b0 : decide (a1 < 1) = T := decide_eq_true c6
    clear c6
    have H' := Aside0.mk H
    clear H
    go_wp2
    go_meet
    case rel => exact ⟨_, (T), (Zs), H', ⟨by first | omega | exact Nat.le_refl _⟩, ⟨Zb⟩⟩
   rw [if_neg c6] at H
   have c6b0 : decide (a1 < 1) = F := decide_eq_false c6
   clear c6
   have H' := Aside0.mk H
   clear H
   go_wp2
   go_meet
   case rel => exact ⟨_, (decide (a1 > 16777216)), (Zs), H', ⟨by first | omega | exact Nat.le_refl _⟩, ⟨Zb⟩⟩
  case rest =>
   clear HC5
   try clear p2
   try clear c3
   try clear c4
   try clear c4b0
   try clear c4b1
   try clear c6
   try clear c6b0
   obtain ⟨kq, x19_4, rfl, HA, HJ4, HB⟩ := hcut
   cases kq with
   | zero => exact absurd HA.out (by simp [Qah.j0])
   | succ kj4 =>
    have H := HA.out
    clear HA
    simp only [Qah.j0] at H
    by_cases c7 : x19_4 = T
    ·subst c7
     have H1 : (some (([] : List (S56)), 16)) = some (r1, r2) := by rw [if_pos rfl] at H; exact H
     clear H
     have H := H1
     clear H1
     simp only [Option.some.injEq, Prod.mk.injEq] at H
     obtain ⟨rfl, rfl⟩ := H
     go_wp2
     go_ret2
     exact ⟨_, Zq, by first | exact Kd.R_nil _ _ _ _ _ | exact Kd.N_nil _ _ _ _ _ | exact Kd.V_nil _ _ _ _ _ | exact Kd.Q_nil _ _ _ _ _ | exact Kd.S_nil _ _ _ _ _, Zb⟩
    replace c7 := Bool.eq_false_iff.mpr c7
    subst c7
    have H1 : (Qah.l0 kj4 l0 a1 (([] : List (S56))) 0) = some (r1, r2) := by rw [if_neg (show ¬ (F = T) by decide)] at H; exact H
    clear H
    have H := H1
    clear H1
    obtain ⟨y374, hy374⟩ : ∃ y_ : List (S56), y_ = (([] : List (S56))) := ⟨_, rfl⟩
    replace H : (Qah.l0 kj4 l0 a1 y374 0) = some (r1, r2) := by first | (rw [hy374]; with_reducible exact H) | (have H2_ := (Option.bind_some _ _).symm.trans H; rw [hy374]; with_reducible exact H2_) | (have H2_ := (Option.bind_some _ _).symm.trans H; with_reducible exact H2_) | with_reducible exact H | (rw [hy374]; exact H) | exact H
    have Ny374 := Aside0.mk hy374
    clear hy374
    have H' := Aside0.mk H
    clear H
    go_wp2_with (first | ((with_reducible refine QaZ (N := 20) rfl ?_); refine Kd.R_lit k56 _ 56 ?hg (N := 20) ?hd (xs := ([] : List (S56))) (inner := []) (ok := fun _ => True) (okp := fun _ => True) ?hr ?hp (fun _ hk => hk) trivial (Below.refl _ _) (Nat.le_refl _) (by simp) ?_; (case hd => rfl); (case hg => rfl); (case hr => first | (go_simp; done) | (go_simp; rfl)); (case hp => exact (Reps.none _ _)); intro v375 w8 ho9 hb hg_ hnew_; clear hg_ hnew_; (first | rw [← Ny374.out] at ho9 | (simp only [Int.reduceToNat] at ho9; rw [← Ny374.out] at ho9)); have HO376 := Aside0.mk (Kd.R_lower ho9 (Qay (Zb))); replace HB := Aside0.mk (Qat (Zb) hb); clear hb ho9))
    go_loopg [7, 8] kj4 (fun kq v7 v8 w' => ∃ (x7_2 : List (S56)) (x8_2 : Int), v8 = .int .i64 x8_2 ∧ Aside0 (Qah.l0 kq l0 a1 x7_2 x8_2 = some (r1, r2)) ∧ Aside0 (kq ≤ kj4) ∧ Aside0 (Kd.R k56 56 w' w.heap.size (fun _ => True) v7 x7_2) ∧ Aside0 (Below w.heap.size w w'))
    case atStart => exact ⟨(y374), (0), (Zs), H', ⟨Nat.le_refl _⟩, ⟨Zr HO376.out⟩, ⟨Zb⟩⟩
    case round =>
     clear H'
     try clear p2
     try clear c3
     try clear c4
     try clear c4b0
     try clear c4b1
     try clear c6
     try clear c6b0
     try clear c7
     try clear p2
     obtain ⟨x7_2, x8_2, rfl, HA, HK2, HO_7, HB⟩ := hrel
     cases gk with
     | zero => exact absurd HA.out (by simp [Qah.l0])
     | succ k2 =>
      have H := HA.out
      clear HA
      simp only [Qah.l0] at H
      by_cases c10 : x8_2 < (l0.length : Int)
      ·rw [if_pos c10] at H
       have c10b0 : decide (x8_2 < (l0.length : Int)) = T := decide_eq_true c10
       clear c10
       (try simp only [c10b0])
       by_cases c11 : 0 ≤ x8_2
       ·rw [if_pos c11] at H
        have c11b0 : decide (0 ≤ x8_2) = T := decide_eq_true c11
        clear c11
        have p377 : 0 ≤ (x8_2 : Int) := Ze
        have q377 : x8_2 < (l0.length : Int) := Ze
        obtain ⟨ad377, e377, hx377_0, hx377_1, hx377_2⟩ := at_T56 HR0.out x8_2 p377 q377
        cases e377
        replace hx377_0 := Zx HB.out hx377_0
        replace hx377_1 := Zx HB.out hx377_1
        replace hx377_2 := Zx HB.out hx377_2
        replace p377 := eq_true p377
        replace q377 := eq_true q377
        go_upto_if 31 with (fail)
        obtain ⟨bq12, hbq12⟩ : ∃ b_ : Bool, b_ = ((rd_T56 l0 x8_2).f2) := ⟨_, rfl⟩
        replace H : (if bq12 = T then (if x7_2.length < 5864062014805 then (Qah.l0 k2 l0 a1 (x7_2 ++ [(⟨(rd_T56 l0 x8_2).f0, (rd_T56 l0 x8_2).f1, bq12⟩ : S56)]) (wrap64 (x8_2 + 1))) else (none)) else ((Qai.f k2 l0 ((rd_T56 l0 x8_2).f0) a1).bind fun t384 => (if x7_2.length < 5864062014805 then (Qah.l0 k2 l0 a1 (x7_2 ++ [(⟨(rd_T56 l0 x8_2).f0, t384, T⟩ : S56)]) (wrap64 (x8_2 + 1))) else (none)))) = some (r1, r2) := by rw [← hbq12] at H; exact H
        have Nbq12 := Aside0.mk hbq12
        clear hbq12
        (try rw [← Nbq12.out])
        (try rw [← Nbq12.out] at hx377_0)
        (try rw [← Nbq12.out] at hx377_1)
        (try rw [← Nbq12.out] at hx377_2)
        by_cases c13 : bq12 = T
        ·subst c13
         have H1 : (if x7_2.length < 5864062014805 then (Qah.l0 k2 l0 a1 (x7_2 ++ [(⟨(rd_T56 l0 x8_2).f0, (rd_T56 l0 x8_2).f1, T⟩ : S56)]) (wrap64 (x8_2 + 1))) else (none)) = some (r1, r2) := by rw [if_pos rfl] at H; exact H
         clear H
         have H := H1
         clear H1
         by_cases c14 : x7_2.length < 5864062014805
         ·rw [if_pos c14] at H
          have LMc14 := Aside0.mk c14
          clear c14
          obtain ⟨y379, hy379⟩ : ∃ y_ : List (S56), y_ = (x7_2 ++ [(⟨(rd_T56 l0 x8_2).f0, (rd_T56 l0 x8_2).f1, T⟩ : S56)]) := ⟨_, rfl⟩
          replace H : (Qah.l0 k2 l0 a1 y379 (wrap64 (x8_2 + 1))) = some (r1, r2) := by first | (rw [hy379]; with_reducible exact H) | (have H2_ := (Option.bind_some _ _).symm.trans H; rw [hy379]; with_reducible exact H2_) | (have H2_ := (Option.bind_some _ _).symm.trans H; with_reducible exact H2_) | with_reducible exact H | (rw [hy379]; exact H) | exact H
          have Ny379 := Aside0.mk hy379
          clear hy379
          have H' := Aside0.mk H
          clear H
          have p378 : 0 ≤ (x8_2 : Int) := Ze
          have q378 : x8_2 < (l0.length : Int) := Ze
          obtain ⟨ad378, e378, hx378_0, hx378_1, hx378_2⟩ := at_T56 HR0.out x8_2 p378 q378
          (try rw [← Nbq12.out] at hx378_2); (try rw [← Nbq12.out] at hw378_2)
          obtain rfl : ad377 = ad378 := (by injection e378)
          replace hx378_0 := Zx HB.out hx378_0
          replace hx378_1 := Zx HB.out hx378_1
          replace hx378_2 := Zx HB.out hx378_2
          replace p378 := eq_true p378
          replace q378 := eq_true q378
          go_wp2_with (first | ((with_reducible refine Qa5 (b := .append) (xs := #[.tmp 32, .tmp 37]) rfl ?_); at_builtin; refine Kd.R_append k56 (w0 := w) w.heap.size rfl (.tmp 32) (.tmp 37) 48 56 (.agg #[(.int .i64 0), (.int .i64 0), (.bool F)]) 24 rfl Try.underlying48 info56 rfl (by decide) (by omega) u7 x7_2 (⟨(rd_T56 l0 x8_2).f0, (rd_T56 l0 x8_2).f1, T⟩ : S56) [.int .i64 ((rd_T56 l0 x8_2).f0), .int .i64 ((rd_T56 l0 x8_2).f1), .bool T] (fun _ => True) (fun _ => False) rfl rfl ?aP (fun _ hk => hk.elim) ?aF ?aO ?aB ?aS ?aL ?_; (case aP => exact Qa9 _ _ _ (⟨(rd_T56 l0 x8_2).f0, (rd_T56 l0 x8_2).f1, T⟩ : S56)); (case aB => exact (Zb)); (case aF => exact (fun _ _ => trivial)); (case aO => exact (Zr HO_7.out)); (case aS => exact (Qay (Zb))); (case aL => have := LMc14.out; omega); intro v380 w15 ho hb hg hat; (first | rw [← Ny379.out] at ho | rw [Nbq12.out, ← Ny379.out] at ho); have HO381 := Aside0.mk (ho); replace HB := Aside0.mk (hb); clear HO_7; clear ho hb hg hat))
          go_roundg k2
          case measure => have := HJ4.out; have := HK2.out; omega
          case rel => exact ⟨(y379), (wrap64 (x8_2 + 1)), (Zs), H', ⟨by have := HJ4.out; have := HK2.out; omega⟩, ⟨Zr HO381.out⟩, ⟨Zb⟩⟩
         rw [if_neg c14] at H
         exact absurd H (by simp)
        replace c13 := Bool.eq_false_iff.mpr c13
        subst c13
        have H1 : ((Qai.f k2 l0 ((rd_T56 l0 x8_2).f0) a1).bind fun t384 => (if x7_2.length < 5864062014805 then (Qah.l0 k2 l0 a1 (x7_2 ++ [(⟨(rd_T56 l0 x8_2).f0, t384, T⟩ : S56)]) (wrap64 (x8_2 + 1))) else (none))) = some (r1, r2) := by rw [if_neg (show ¬ (F = T) by decide)] at H; exact H
        clear H
        have H := H1
        clear H1
        replace H := Option.bind_eq_some_iff.mp H
        obtain ⟨t384, A160, H⟩ := H
        replace H : (if x7_2.length < 5864062014805 then (Qah.l0 k2 l0 a1 (x7_2 ++ [(⟨(rd_T56 l0 x8_2).f0, t384, T⟩ : S56)]) (wrap64 (x8_2 + 1))) else (none)) = some (r1, r2) := H
        have A16 := Aside0.mk A160
        clear A160
        by_cases c17 : x7_2.length < 5864062014805
        ·rw [if_pos c17] at H
         have LMc17 := Aside0.mk c17
         clear c17
         obtain ⟨y385, hy385⟩ : ∃ y_ : List (S56), y_ = (x7_2 ++ [(⟨(rd_T56 l0 x8_2).f0, t384, T⟩ : S56)]) := ⟨_, rfl⟩
         replace H : (Qah.l0 k2 l0 a1 y385 (wrap64 (x8_2 + 1))) = some (r1, r2) := by first | (rw [hy385]; with_reducible exact H) | (have H2_ := (Option.bind_some _ _).symm.trans H; rw [hy385]; with_reducible exact H2_) | (have H2_ := (Option.bind_some _ _).symm.trans H; with_reducible exact H2_) | with_reducible exact H | (rw [hy385]; exact H) | exact H
         have Ny385 := Aside0.mk hy385
         clear hy385
         have H' := Aside0.mk H
         clear H
         try go_wp2
         replace HO_7 := Aside0.mk (Kd.R_drew HO_7.out)
         replace HB := Aside0.mk (Qac HB.out)
         have p382 : 0 ≤ (x8_2 : Int) := Ze
         have q382 : x8_2 < (l0.length : Int) := Ze
         obtain ⟨ad382, e382, hx382_0, hx382_1, hx382_2⟩ := at_T56 HR0.out x8_2 p382 q382
         have hw382_2 := hx382_2
         have hw382_1 := hx382_1
         have hw382_0 := hx382_0
         (try rw [← Nbq12.out] at hx382_2); (try rw [← Nbq12.out] at hw382_2)
         obtain rfl : ad377 = ad382 := (by injection e382)
         replace hx382_0 := Zx HB.out hx382_0
         replace hx382_1 := Zx HB.out hx382_1
         replace hx382_2 := Zx HB.out hx382_2
         replace p382 := eq_true p382
         replace q382 := eq_true q382
         have p383 : 0 ≤ (x8_2 : Int) := Ze
         have q383 : x8_2 < (l0.length : Int) := Ze
         obtain ⟨ad383, e383, hx383_0, hx383_1, hx383_2⟩ := at_T56 HR0.out x8_2 p383 q383
         have hw383_2 := hx383_2
         have hw383_1 := hx383_1
         have hw383_0 := hx383_0
         (try rw [← Nbq12.out] at hx383_2); (try rw [← Nbq12.out] at hw383_2)
         obtain rfl : ad377 = ad383 := (by injection e383)
         replace hx383_0 := Zx HB.out hx383_0
         replace hx383_1 := Zx HB.out hx383_1
         replace hx383_2 := Zx HB.out hx383_2
         replace p383 := eq_true p383
         replace q383 := eq_true q383
         refine start_ (n := 18) (S := fun w' => w'.cell? (ad377.add ((x8_2).toNat * 3)) = some (.int .i64 ((rd_T56 l0 x8_2).f0)) ∧ w'.cell? ⟨(ad377.add ((x8_2).toNat * 3)).block, (ad377.add ((x8_2).toNat * 3)).off + 1, none⟩ = some (.int .i64 ((rd_T56 l0 x8_2).f1)) ∧ w'.cell? ⟨(ad377.add ((x8_2).toNat * 3)).block, (ad377.add ((x8_2).toNat * 3)).off + 2, none⟩ = some (.bool (F)) ∧ w'.cell? (ad377.add ((x8_2).toNat * 3)) = some (.int .i64 ((rd_T56 l0 x8_2).f0)) ∧ w'.cell? ⟨(ad377.add ((x8_2).toNat * 3)).block, (ad377.add ((x8_2).toNat * 3)).off + 1, none⟩ = some (.int .i64 ((rd_T56 l0 x8_2).f1)) ∧ w'.cell? ⟨(ad377.add ((x8_2).toNat * 3)).block, (ad377.add ((x8_2).toNat * 3)).off + 2, none⟩ = some (.bool (F))) (ds := []) #[F, F, F, F, F, F, F, F, F, F, F, F, F, F, F, F, F, F] (by kernel_rfl) rfl rfl ⟨((HB.out.cell (World.block_lt_of_cell? w _ hw382_0)).trans hw382_0), ((HB.out.cell (World.block_lt_of_cell? w _ hw382_1)).trans hw382_1), ((HB.out.cell (World.block_lt_of_cell? w _ hw382_2)).trans hw382_2), ((HB.out.cell (World.block_lt_of_cell? w _ hw383_0)).trans hw383_0), ((HB.out.cell (World.block_lt_of_cell? w _ hw383_1)).trans hw383_1), ((HB.out.cell (World.block_lt_of_cell? w _ hw383_2)).trans hw383_2)⟩ (fun hHeld => ?_); refine Qb2 Qah.tab12 Qah.bits12 (fun HT_ HW_ => ?_)
         generalize wr.drew = w18 at HO_7 HB hx382_0 hx382_1 hx382_2 hx383_0 hx383_1 hx383_2 hHeld ⊢
         refine pure_ (i := 0) (N := some 39) (v := ?_) (a' := ?_) #[T, F, F, F, F, F, F, F, F, F, F, F, F, F, F, F, F, F] rfl rfl (any_of HT_.out (by kernel_rfl)) (fun _ _ _ h => h) (Or.inl ⟨by rfl, ?_⟩) ?_ ?_
         rotate_left
         ·intro w'
          go_simp
          with_reducible rfl
         rotate_left
         ·simp only [Act.put, Zj, Zk, Zm, i64_w, i32_w]
          rfl
         refine pure_ (i := 1) (N := some 40) (v := ?_) (a' := ?_) #[T, T, F, F, F, F, F, F, F, F, F, F, F, F, F, F, F, F] rfl rfl (any_of HT_.out (by kernel_rfl)) (fun _ _ _ h => h) (Or.inl ⟨by rfl, ?_⟩) ?_ ?_
         rotate_left
         ·intro w'
          go_simp
          with_reducible rfl
         rotate_left
         ·simp only [Act.put, Zj, Zk, Zm, i64_w, i32_w]
          rfl
         refine pure_ (i := 2) (N := some 41) (v := ?_) (a' := ?_) #[T, T, T, F, F, F, F, F, F, F, F, F, F, F, F, F, F, F] rfl rfl (any_of HT_.out (by kernel_rfl)) (fun _ _ _ h => h) (Or.inl ⟨by rfl, ?_⟩) ?_ ?_
         rotate_left
         ·intro w'
          go_simp
          with_reducible rfl
         rotate_left
         ·simp only [Act.put, Zj, Zk, Zm, i64_w, i32_w]
          rfl
         refine pure_ (i := 3) (N := some 42) (v := ?_) (a' := ?_) #[T, T, T, T, F, F, F, F, F, F, F, F, F, F, F, F, F, F] rfl rfl (any_of HT_.out (by kernel_rfl)) (fun _ _ _ h => h) (Or.inl ⟨by rfl, ?_⟩) ?_ ?_
         rotate_left
         ·intro w'
          go_simp
          with_reducible rfl
         rotate_left
         ·simp only [Act.put, Zj, Zk, Zm, i64_w, i32_w]
          rfl
         refine pure_ (i := 4) (N := some 43) (v := ?_) (a' := ?_) #[T, T, T, T, T, F, F, F, F, F, F, F, F, F, F, F, F, F] rfl rfl (any_of HT_.out (by kernel_rfl)) (fun _ _ _ h => h) (Or.inl ⟨by rfl, ?_⟩) ?_ ?_
         rotate_left
         ·intro w'
          go_simp
          with_reducible rfl
         rotate_left
         ·simp only [Act.put, Zj, Zk, Zm, i64_w, i32_w]
          rfl
         refine pure_ (i := 6) (N := some 45) (v := ?_) (a' := ?_) #[T, T, T, T, T, F, T, F, F, F, F, F, F, F, F, F, F, F] rfl rfl (any_of HT_.out (by kernel_rfl)) (fun _ _ _ h => h) (Or.inl ⟨by rfl, ?_⟩) ?_ ?_
         rotate_left
         ·intro w'
          go_simp
          with_reducible rfl
         rotate_left
         ·simp only [Act.put, Zj, Zk, Zm, i64_w, i32_w]
          rfl
         refine pure_ (i := 7) (N := some 46) (v := ?_) (a' := ?_) #[T, T, T, T, T, F, T, T, F, F, F, F, F, F, F, F, F, F] rfl rfl (any_of HT_.out (by kernel_rfl)) (fun _ _ _ h => h) (Or.inl ⟨by rfl, ?_⟩) ?_ ?_
         rotate_left
         ·intro w'
          go_simp
          with_reducible rfl
         rotate_left
         ·simp only [Act.put, Zj, Zk, Zm, i64_w, i32_w]
          rfl
         refine pure_ (i := 8) (N := some 47) (v := ?_) (a' := ?_) #[T, T, T, T, T, F, T, T, T, F, F, F, F, F, F, F, F, F] rfl rfl (any_of HT_.out (by kernel_rfl)) (fun _ _ _ h => h) (Or.inl ⟨by rfl, ?_⟩) ?_ ?_
         rotate_left
         ·intro w'
          go_simp
          with_reducible rfl
         rotate_left
         ·simp only [Act.put, Zj, Zk, Zm, i64_w, i32_w]
          rfl
         refine pure_ (i := 9) (N := some 48) (v := ?_) (a' := ?_) #[T, T, T, T, T, F, T, T, T, T, F, F, F, F, F, F, F, F] rfl rfl (any_of HT_.out (by kernel_rfl)) (fun _ _ _ h => h) (Or.inl ⟨by rfl, ?_⟩) ?_ ?_
         rotate_left
         ·intro w'
          go_simp
          with_reducible rfl
         rotate_left
         ·simp only [Act.put, Zj, Zk, Zm, i64_w, i32_w]
          rfl
         refine pure_ (i := 10) (N := some 49) (v := ?_) (a' := ?_) #[T, T, T, T, T, F, T, T, T, T, T, F, F, F, F, F, F, F] rfl rfl (any_of HT_.out (by kernel_rfl)) (fun _ _ _ h => h) (Or.inl ⟨by rfl, ?_⟩) ?_ ?_
         rotate_left
         ·intro w'
          go_simp
          with_reducible rfl
         rotate_left
         ·simp only [Act.put, Zj, Zk, Zm, i64_w, i32_w]
          rfl
         refine pure_ (i := 12) (N := some 51) (v := ?_) (a' := ?_) #[T, T, T, T, T, F, T, T, T, T, T, F, T, F, F, F, F, F] rfl rfl (any_of HT_.out (by kernel_rfl)) (fun _ _ _ h => h) (Or.inl ⟨by rfl, ?_⟩) ?_ ?_
         rotate_left
         ·intro w'
          go_simp
          with_reducible rfl
         rotate_left
         ·simp only [Act.put, Zj, Zk, Zm, i64_w, i32_w]
          rfl
         refine take_ (i := 5) (N := some 44) (v := ?_) (a' := ?_) #[T, T, T, T, T, T, T, T, T, T, T, F, T, F, F, F, F, F] rfl rfl (Qbu HT_.out HW_.out (by kernel_rfl)) (fun _ _ _ h => h) (Or.inl ⟨by rfl, ?_⟩) hHeld ?_ ?_
         rotate_left
         ·rintro w' ⟨s0, s1, s2, s3, s4, s5⟩
          go_simp
          with_reducible rfl
         rotate_left
         ·simp only [Act.put, Zj, Zk, Zm, i64_w, i32_w]
          rfl
         refine take_ (i := 11) (N := some 50) (v := ?_) (a' := ?_) #[T, T, T, T, T, T, T, T, T, T, T, T, T, F, F, F, F, F] rfl rfl (Qbu HT_.out HW_.out (by kernel_rfl)) (fun _ _ _ h => h) (Or.inl ⟨by rfl, ?_⟩) hHeld ?_ ?_
         rotate_left
         ·rintro w' ⟨s0, s1, s2, s3, s4, s5⟩
          go_simp
          with_reducible rfl
         rotate_left
         ·simp only [Act.put, Zj, Zk, Zm, i64_w, i32_w]
          rfl
         refine one_ (i := 13) (N := some 52) #[T, T, T, T, T, T, T, T, T, T, T, T, T, T, F, F, F, F] rfl rfl (one_of HT_.out (by kernel_rfl)) (by decide) (fun K hK => ?_)
         refine goes_ Try.func59 (by kernel_rfl) rfl #[.slice (some ad377) l0.length c0, .int .i64 ((rd_T56 l0 x8_2).f0), .int .i64 a1] (by rfl) rfl rfl (Zl) ?_
         with_reducible refine (Qai.calls k2 _ _ l0 ((rd_T56 l0 x8_2).f0) a1 t384 _ ?side1 ?side2 A16.out).mono ?_
         (case side1 => exact Zv (Kd.C_below HR0.out HB.out))
         (case side2 => exact HC0.out)
         rintro e w' ⟨rfl, ⟨nd, rfl⟩⟩
         refine ⟨_, rfl, ?_⟩
         refine hK.out _ _ ⟨((HB.out.cell (World.block_lt_of_cell? w _ hw382_0)).trans hw382_0), ((HB.out.cell (World.block_lt_of_cell? w _ hw382_1)).trans hw382_1), ((HB.out.cell (World.block_lt_of_cell? w _ hw382_2)).trans hw382_2), ((HB.out.cell (World.block_lt_of_cell? w _ hw383_0)).trans hw383_0), ((HB.out.cell (World.block_lt_of_cell? w _ hw383_1)).trans hw383_1), ((HB.out.cell (World.block_lt_of_cell? w _ hw383_2)).trans hw383_2)⟩ (fun hHeld => ?_)
         clear hK K
         refine norm_ (a' := ?_) ?_ ?_
         rotate_left
         ·show Act.put _ (some 52) _ = _
          simp only [Act.put, Zj, Zk, Zm, i64_w, i32_w]
          rfl
         refine pure_ (i := 14) (N := some 53) (v := ?_) (a' := ?_) #[T, T, T, T, T, T, T, T, T, T, T, T, T, T, T, F, F, F] rfl rfl (any_of HT_.out (by kernel_rfl)) (fun _ _ _ h => h) (Or.inl ⟨by rfl, ?_⟩) ?_ ?_
         rotate_left
         ·intro w'
          go_simp
          with_reducible rfl
         rotate_left
         ·simp only [Act.put, Zj, Zk, Zm, i64_w, i32_w]
          rfl
         refine one_ (i := 15) (N := some 54) #[T, T, T, T, T, T, T, T, T, T, T, T, T, T, T, T, F, F] rfl rfl (one_of HT_.out (by kernel_rfl)) (by decide) (fun K hK => ?_)
         refine value_ (w1 := ?_) (v := ?_) (by rfl) rfl ?_ ?_
         rotate_left 2
         ·go_simp
          constructor
          ·rfl
          rfl
         refine hK.out _ _ ⟨(World.cell?_alloc_lt _ _ _ (World.block_lt_of_cell? _ _ (((HB.out.cell (World.block_lt_of_cell? w _ hw382_0)).trans hw382_0)))).trans (((HB.out.cell (World.block_lt_of_cell? w _ hw382_0)).trans hw382_0)), (World.cell?_alloc_lt _ _ _ (World.block_lt_of_cell? _ _ (((HB.out.cell (World.block_lt_of_cell? w _ hw382_1)).trans hw382_1)))).trans (((HB.out.cell (World.block_lt_of_cell? w _ hw382_1)).trans hw382_1)), (World.cell?_alloc_lt _ _ _ (World.block_lt_of_cell? _ _ (((HB.out.cell (World.block_lt_of_cell? w _ hw382_2)).trans hw382_2)))).trans (((HB.out.cell (World.block_lt_of_cell? w _ hw382_2)).trans hw382_2)), (World.cell?_alloc_lt _ _ _ (World.block_lt_of_cell? _ _ (((HB.out.cell (World.block_lt_of_cell? w _ hw383_0)).trans hw383_0)))).trans (((HB.out.cell (World.block_lt_of_cell? w _ hw383_0)).trans hw383_0)), (World.cell?_alloc_lt _ _ _ (World.block_lt_of_cell? _ _ (((HB.out.cell (World.block_lt_of_cell? w _ hw383_1)).trans hw383_1)))).trans (((HB.out.cell (World.block_lt_of_cell? w _ hw383_1)).trans hw383_1)), (World.cell?_alloc_lt _ _ _ (World.block_lt_of_cell? _ _ (((HB.out.cell (World.block_lt_of_cell? w _ hw383_2)).trans hw383_2)))).trans (((HB.out.cell (World.block_lt_of_cell? w _ hw383_2)).trans hw383_2))⟩ (fun hHeld => ?_)
         clear hK K
         refine norm_ (a' := ?_) ?_ ?_
         rotate_left
         ·show Act.put _ (some 54) _ = _
          simp only [Act.put, Zj, Zk, Zm, i64_w, i32_w]
          rfl
         refine one_ (i := 16) (N := some 55) #[T, T, T, T, T, T, T, T, T, T, T, T, T, T, T, T, T, F] rfl rfl (one_of HT_.out (by kernel_rfl)) (by decide) (fun K hK => ?_)
         refine Kd.R_append_step k56 (w0 := w) w.heap.size (by rfl) (.tmp 39) (.tmp 54) 48 56 (.agg #[(.int .i64 0), (.int .i64 0), (.bool F)]) 24 rfl Try.underlying48 info56 rfl (by decide) (by omega) u7 x7_2 (⟨(rd_T56 l0 x8_2).f0, t384, T⟩ : S56) [.int .i64 ((rd_T56 l0 x8_2).f0), .int .i64 t384, .bool T] (fun _ => True) (fun _ => False) rfl rfl ?aP (fun _ hk => hk.elim) ?aF ?aO ?aB ?aS ?aL ?_
         (case aP => exact Qa9 _ _ _ (⟨(rd_T56 l0 x8_2).f0, t384, T⟩ : S56))
         (case aB => exact (Zb))
         (case aF => exact (fun _ _ => trivial))
         (case aO => exact (Zr HO_7.out))
         (case aS => exact (Qay (Zb)))
         (case aL => have := LMc17.out; omega)
         intro v386 w19 ho hb hg hat
         rw [← Ny385.out] at ho
         have HO387 := Aside0.mk (ho)
         replace HB := Aside0.mk (hb)
         clear HO_7
         clear ho hb hg hat
         refine hK.out _ _ ⟨((HB.out.cell (World.block_lt_of_cell? w _ hw382_0)).trans hw382_0), ((HB.out.cell (World.block_lt_of_cell? w _ hw382_1)).trans hw382_1), ((HB.out.cell (World.block_lt_of_cell? w _ hw382_2)).trans hw382_2), ((HB.out.cell (World.block_lt_of_cell? w _ hw383_0)).trans hw383_0), ((HB.out.cell (World.block_lt_of_cell? w _ hw383_1)).trans hw383_1), ((HB.out.cell (World.block_lt_of_cell? w _ hw383_2)).trans hw383_2)⟩ (fun hHeld => ?_)
         clear hK K
         refine norm_ (a' := ?_) ?_ ?_
         rotate_left
         ·show Act.put _ (some 55) _ = _
          simp only [Act.put, Zj, Zk, Zm, i64_w, i32_w]
          rfl
         refine pure_ (i := 17) (N := some 7) (v := ?_) (a' := ?_) #[T, T, T, T, T, T, T, T, T, T, T, T, T, T, T, T, T, T] rfl rfl (any_of HT_.out (by kernel_rfl)) (fun _ _ _ h => h) (Or.inl ⟨by rfl, ?_⟩) ?_ ?_
         rotate_left
         ·intro w'
          go_simp
          with_reducible rfl
         rotate_left
         ·simp only [Act.put, Zj, Zk, Zm, i64_w, i32_w]
          rfl
         refine done_ (Qcu HT_.out (by kernel_rfl)) ?_
         try go_wp2
         go_roundg k2
         case measure => have := HJ4.out; have := HK2.out; omega
         case rel => exact ⟨(y385), (wrap64 (x8_2 + 1)), (Zs), H', ⟨by have := HJ4.out; have := HK2.out; omega⟩, ⟨Zr HO387.out⟩, ⟨Zb⟩⟩
        rw [if_neg c17] at H
        exact absurd H (by simp)
       rw [if_neg c11] at H
       exact absurd H (by simp)
      rw [if_neg c10] at H
      have c10b0 : decide (x8_2 < (l0.length : Int)) = F := decide_eq_false c10
      clear c10
      (try simp only [c10b0])
      simp only [Option.some.injEq, Prod.mk.injEq] at H
      obtain ⟨rfl, rfl⟩ := H
      go_wp2
      go_ret2
      exact ⟨_, Zq, Zr HO_7.out, Zb⟩
 rw [if_neg c4] at H
 have c4b0 : (t373 == 0) = F := beq_eq_false_iff_ne.mpr c4
 have c4b1 : (t373 != 0) = T := bne_iff_ne.mpr c4
 (try simp only [c4b0, c4b1])
 simp only [Option.some.injEq, Prod.mk.injEq] at H
 obtain ⟨rfl, rfl⟩ := H
 go_wp2
 go_ret2
 exact ⟨_, Zq, by first | exact Kd.R_nil _ _ _ _ _ | exact Kd.N_nil _ _ _ _ _ | exact Kd.V_nil _ _ _ _ _ | exact Kd.Q_nil _ _ _ _ _ | exact Kd.S_nil _ _ _ _ _, Zb⟩
mutual
def Qan.j0 : Nat → List (S56) → Int → Int → Int → List (S56) → Bool → Option ((List (S56)) × Int)
 | 0, _, _, _, _, _, _ => none
 | k + 1, x0, x1, x2, x3, x8, x32 => if x32 = T then (some (([] : List (S56)), 2)) else (Qan.l0 k x1 x2 x3 x8 x0 (x0.length : Int) 0)
def Qan.l0 : Nat → Int → Int → Int → List (S56) → List (S56) → Int → Int → Option ((List (S56)) × Int)
 | 0, _, _, _, _, _, _, _ => none
 | k + 1, x1, x2, x3, x8, x33, x34, x35 => if x35 < x34 then (if 0 ≤ x35 then (if x35 < (x33.length : Int) then (if (rd_T56 x33 x35).f2 = T then ((QaG.f k (wrap64 (((rd_T56 x33 x35).f1) + x1)) x2 x3).bind fun t394 => (if x8.length < 5864062014805 then (Qan.l0 k x1 x2 x3 (x8 ++ [(⟨(rd_T56 x33 x35).f0, t394, (rd_T56 x33 x35).f2⟩ : S56)]) x33 x34 (wrap64 (x35 + 1))) else (none))) else (if x8.length < 5864062014805 then (Qan.l0 k x1 x2 x3 (x8 ++ [(⟨(rd_T56 x33 x35).f0, (rd_T56 x33 x35).f1, (rd_T56 x33 x35).f2⟩ : S56)]) x33 x34 (wrap64 (x35 + 1))) else (none))) else (none)) else (none)) else (some (x8, 0))
end
def Qan.f (k : Nat) (l0 : List (S56)) (a1 : Int) (a2 : Int) (a3 : Int) : Option ((List (S56)) × Int) := (Qal.f k l0).bind fun t388 => (if t388 = 0 then ((QaH.f a1).bind fun t389 => (if t389 = T then (if a2 > a3 then (Qan.j0 k l0 a1 a2 a3 ([] : List (S56)) T) else ((QaH.f a2).bind fun t390 => (if t390 = T then ((QaH.f a3).bind fun t391 => (Qan.j0 k l0 a1 a2 a3 ([] : List (S56)) (!t391))) else (Qan.j0 k l0 a1 a2 a3 ([] : List (S56)) T)))) else (some (([] : List (S56)), 17)))) else (some (([] : List (S56)), t388)))
theorem Qan.mono_l : ∀ k, (∀ y0 y1 y2 y3 y4 y5, LeO (Qan.j0 k y0 y1 y2 y3 y4 y5) (Qan.j0 (k + 1) y0 y1 y2 y3 y4 y5)) ∧ (∀ y0 y1 y2 y3 y4 y5 y6, LeO (Qan.l0 k y0 y1 y2 y3 y4 y5 y6) (Qan.l0 (k + 1) y0 y1 y2 y3 y4 y5 y6))
 | 0 => ⟨fun _ _ _ _ _ _ r h => by simp [Qan.j0] at h, fun _ _ _ _ _ _ _ r h => by simp [Qan.l0] at h⟩
 | k + 1 => by
  obtain ⟨ih0, ih1⟩ := Qan.mono_l k
  refine ⟨?_, ?_⟩
  ·intro y0 y1 y2 y3 y4 y5
   unfold Qan.j0
   exact ZM4 ih0 ih1 QaG.mono Qal.mono
  intro y0 y1 y2 y3 y4 y5 y6
  unfold Qan.l0
  exact ZM4 ih0 ih1 QaG.mono Qal.mono
theorem Qan.mono : ∀ a0 a1 a2 a3 k, LeO (Qan.f k a0 a1 a2 a3) (Qan.f (k + 1) a0 a1 a2 a3) := by
 intro a0 a1 a2 a3 k
 obtain ⟨ih0, ih1⟩ := Qan.mono_l k
 unfold Qan.f
 exact ZM4 ih0 ih1 QaG.mono Qal.mono
theorem Qan.calls (k : Nat) (A0 : Option Addr) (c0 : Nat) (l0 : List (S56)) (a1 : Int) (a2 : Int) (a3 : Int) (r1 : List (S56)) (r2 : Int) (w : World) (hr0 : Kd.C k56 w A0 l0.length l0) (hc0 : l0.length ≤ c0) (h : Qan.f k l0 a1 a2 a3 = some (r1, r2)) :
  Calls Try.prog 37 #[.slice A0 l0.length c0, .int .i64 a1, .int .i64 a2, .int .i64 a3] w fun e w' => ∃ v0_ : Value, e = .returned (.tuple #[v0_, .int .i64 r2]) ∧ Kd.R k56 56 w' w.heap.size (fun _ => True) v0_ r1 ∧ Below w.heap.size w w' := by
 have hu56 := Try.underlying56
 have HR0 := Aside0.mk hr0
 have HC0 := Aside0.mk hc0
 clear hr0 hc0
 have HB := Aside0.mk (Below.refl w.heap.size w)
 have H : ((Qal.f k l0).bind fun t388 => (if t388 = 0 then ((QaH.f a1).bind fun t389 => (if t389 = T then (if a2 > a3 then (Qan.j0 k l0 a1 a2 a3 ([] : List (S56)) T) else ((QaH.f a2).bind fun t390 => (if t390 = T then ((QaH.f a3).bind fun t391 => (Qan.j0 k l0 a1 a2 a3 ([] : List (S56)) (!t391))) else (Qan.j0 k l0 a1 a2 a3 ([] : List (S56)) T)))) else (some (([] : List (S56)), 17)))) else (some (([] : List (S56)), t388)))) = some (r1, r2) := h
 clear h
 replace H := Option.bind_eq_some_iff.mp H
 obtain ⟨t388, A50, H⟩ := H
 replace H : (if t388 = 0 then ((QaH.f a1).bind fun t389 => (if t389 = T then (if a2 > a3 then (Qan.j0 k l0 a1 a2 a3 ([] : List (S56)) T) else ((QaH.f a2).bind fun t390 => (if t390 = T then ((QaH.f a3).bind fun t391 => (Qan.j0 k l0 a1 a2 a3 ([] : List (S56)) (!t391))) else (Qan.j0 k l0 a1 a2 a3 ([] : List (S56)) T)))) else (some (([] : List (S56)), 17)))) else (some (([] : List (S56)), t388))) = some (r1, r2) := H
 have A5 := Aside0.mk A50
 clear A50
 go_enter Try.func37, Try.ntmps37
 go_upto_if 15 with (first | ((with_reducible refine QaD (f := 31) rfl ?_); refine goesL_ (some 13) rfl rfl Try.func31 (by kernel_rfl) rfl #[.slice A0 l0.length c0] rfl (Zl) ?_; (with_reducible refine (Qal.calls k _ _ l0 t388 _ ?side1 ?side2 A5.out).mono ?_); (case side1 => exact Zv HR0.out); (case side2 => exact HC0.out); rintro e w6 ⟨rfl, hb⟩; refine ⟨_, rfl, ?_⟩; replace HB := Aside0.mk (Qat (Zb) hb); (try clear hb); (try clear hb2); (try clear hk); (try clear hi)))
 (try simp only [Act.put, Zj, Zk, Zm])
 by_cases c7 : t388 = 0
 ·rw [if_pos c7] at H
  have c7b0 : (t388 == 0) = T := beq_iff_eq.mpr c7
  have c7b1 : (t388 != 0) = F := bne_eq_false_iff_eq.mpr c7
  clear c7
  (try simp only [c7b0, c7b1])
  replace H := Option.bind_eq_some_iff.mp H
  obtain ⟨t389, A80, H⟩ := H
  replace H : (if t389 = T then (if a2 > a3 then (Qan.j0 k l0 a1 a2 a3 ([] : List (S56)) T) else ((QaH.f a2).bind fun t390 => (if t390 = T then ((QaH.f a3).bind fun t391 => (Qan.j0 k l0 a1 a2 a3 ([] : List (S56)) (!t391))) else (Qan.j0 k l0 a1 a2 a3 ([] : List (S56)) T)))) else (some (([] : List (S56)), 17))) = some (r1, r2) := H
  have A8 := Aside0.mk A80
  clear A80
  go_upto_if 19 with (first | ((with_reducible refine QaD (f := 60) rfl ?_); refine goesL_ (some 18) rfl rfl Try.func60 (by kernel_rfl) rfl #[.int .i64 a1] rfl (Zl) ?_; (with_reducible refine (QaH.calls a1 t389 _ A8.out).mono ?_); rintro e w' ⟨rfl, ⟨nd, rfl⟩⟩; refine ⟨_, rfl, ?_⟩))
  (try simp only [Act.put, Zj, Zk, Zm])
  by_cases c9 : t389 = T
  ·subst c9
   have H1 : (if a2 > a3 then (Qan.j0 k l0 a1 a2 a3 ([] : List (S56)) T) else ((QaH.f a2).bind fun t390 => (if t390 = T then ((QaH.f a3).bind fun t391 => (Qan.j0 k l0 a1 a2 a3 ([] : List (S56)) (!t391))) else (Qan.j0 k l0 a1 a2 a3 ([] : List (S56)) T)))) = some (r1, r2) := by rw [if_pos rfl] at H; exact H
   clear H
   have H := H1
   clear H1
   have HC10 := Aside0.mk H
   clear H
   go_upto_region 6 with (fail)
   go_cut [32] (fun v32 wc => ∃ (kq : Nat) (x32_9 : Bool), v32 = .bool x32_9 ∧ Aside0 (Qan.j0 kq l0 a1 a2 a3 ([] : List (S56)) x32_9 = some (r1, r2)) ∧ Aside0 (kq ≤ k) ∧ Aside0 (Kd.R k56 56 wc w.heap.size (fun _ => True) (.slice none 0 0) ([] : List (S56))) ∧ Aside0 (Below w.heap.size w wc))
   case first =>
    have H := HC10.out
    clear HC10
    by_cases c11 : a2 > a3
    ·rw [if_pos c11] at H
     have c11b0 : decide (a3 < a2) = T := decide_eq_true c11
     clear c11
     have H' := Aside0.mk H
     clear H
     go_wp2
     go_meet
     case rel => exact ⟨_, (T), (Zs), H', ⟨by first | omega | exact Nat.le_refl _⟩, ⟨by first | exact Kd.R_nil _ _ _ _ _ | exact Kd.N_nil _ _ _ _ _ | exact Kd.V_nil _ _ _ _ _ | exact Kd.Q_nil _ _ _ _ _ | exact Kd.S_nil _ _ _ _ _⟩, ⟨Zb⟩⟩
    rw [if_neg c11] at H
    have c11b0 : decide (a3 < a2) = F := decide_eq_false c11
    clear c11
    replace H := Option.bind_eq_some_iff.mp H
    obtain ⟨t390, A120, H⟩ := H
    replace H : (if t390 = T then ((QaH.f a3).bind fun t391 => (Qan.j0 k l0 a1 a2 a3 ([] : List (S56)) (!t391))) else (Qan.j0 k l0 a1 a2 a3 ([] : List (S56)) T)) = some (r1, r2) := H
    have A12 := Aside0.mk A120
    clear A120
    by_cases c13 : t390 = T
    ·subst c13
     have H1 : ((QaH.f a3).bind fun t391 => (Qan.j0 k l0 a1 a2 a3 ([] : List (S56)) (!t391))) = some (r1, r2) := by rw [if_pos rfl] at H; exact H
     clear H
     have H := H1
     clear H1
     replace H := Option.bind_eq_some_iff.mp H
     obtain ⟨t391, A140, H⟩ := H
     replace H : (Qan.j0 k l0 a1 a2 a3 ([] : List (S56)) (!t391)) = some (r1, r2) := H
     have A14 := Aside0.mk A140
     clear A140
     have H' := Aside0.mk H
     clear H
     go_wp2_with (first | (go_at_call 60; (with_reducible refine (QaH.calls a2 T _ A12.out).mono ?_); rintro e w' ⟨rfl, ⟨nd, rfl⟩⟩) | (go_at_call 60; (with_reducible refine (QaH.calls a3 t391 _ A14.out).mono ?_); rintro e w' ⟨rfl, ⟨nd, rfl⟩⟩))
     go_meet
     case rel => exact ⟨_, (!t391), (Zs), H', ⟨by first | omega | exact Nat.le_refl _⟩, ⟨by first | exact Kd.R_nil _ _ _ _ _ | exact Kd.N_nil _ _ _ _ _ | exact Kd.V_nil _ _ _ _ _ | exact Kd.Q_nil _ _ _ _ _ | exact Kd.S_nil _ _ _ _ _⟩, ⟨Zb⟩⟩
    replace c13 := Bool.eq_false_iff.mpr c13
    subst c13
    have H1 : (Qan.j0 k l0 a1 a2 a3 ([] : List (S56)) T) = some (r1, r2) := by rw [if_neg (show ¬ (F = T) by decide)] at H; exact H
    clear H
    have H := H1
    clear H1
    have H' := Aside0.mk H
    clear H
    go_wp2_with (first | (go_at_call 60; (with_reducible refine (QaH.calls a2 F _ A12.out).mono ?_); rintro e w' ⟨rfl, ⟨nd, rfl⟩⟩))
    go_meet
    case rel => exact ⟨_, (T), (Zs), H', ⟨by first | omega | exact Nat.le_refl _⟩, ⟨by first | exact Kd.R_nil _ _ _ _ _ | exact Kd.N_nil _ _ _ _ _ | exact Kd.V_nil _ _ _ _ _ | exact Kd.Q_nil _ _ _ _ _ | exact Kd.S_nil _ _ _ _ _⟩, ⟨Zb⟩⟩
   case rest =>
    clear HC10
    try clear c1
    try clear p2
    try clear c3
    try clear c6
    try clear c7
    try clear c7b0
    try clear c7b1
    try clear c9
    try clear c11
    try clear c11b0
    try clear c13
    obtain ⟨kq, x32_9, rfl, HA, HJ9, HO_8, HB⟩ := hcut
    cases kq with
    | zero => exact absurd HA.out (by simp [Qan.j0])
    | succ kj9 =>
     have H := HA.out
     clear HA
     simp only [Qan.j0] at H
     by_cases c15 : x32_9 = T
     ·subst c15
      have H1 : (some (([] : List (S56)), 2)) = some (r1, r2) := by rw [if_pos rfl] at H; exact H
      clear H
      have H := H1
      clear H1
      simp only [Option.some.injEq, Prod.mk.injEq] at H
      obtain ⟨rfl, rfl⟩ := H
      go_wp2
      go_ret2
      exact ⟨_, Zq, by first | exact Kd.R_nil _ _ _ _ _ | exact Kd.N_nil _ _ _ _ _ | exact Kd.V_nil _ _ _ _ _ | exact Kd.Q_nil _ _ _ _ _ | exact Kd.S_nil _ _ _ _ _, Zb⟩
     replace c15 := Bool.eq_false_iff.mpr c15
     subst c15
     have H1 : (Qan.l0 kj9 a1 a2 a3 ([] : List (S56)) l0 (l0.length : Int) 0) = some (r1, r2) := by rw [if_neg (show ¬ (F = T) by decide)] at H; exact H
     clear H
     have H := H1
     clear H1
     have H' := Aside0.mk H
     clear H
     go_wp2
     go_loopg [8, 35] kj9 (fun kq v8 v35 w' => ∃ (x8_2 : List (S56)) (x35_2 : Int), v35 = .int .i64 x35_2 ∧ Aside0 (Qan.l0 kq a1 a2 a3 x8_2 l0 (l0.length : Int) x35_2 = some (r1, r2)) ∧ Aside0 (kq ≤ kj9) ∧ Aside0 (Kd.R k56 56 w' w.heap.size (fun _ => True) v8 x8_2) ∧ Aside0 (Below w.heap.size w w'))
     case atStart => exact ⟨(([] : List (S56))), (0), (Zs), H', ⟨Nat.le_refl _⟩, ⟨Zr HO_8.out⟩, ⟨Zb⟩⟩
     case round =>
      clear H'
      try clear c1
      try clear p2
      try clear c3
      try clear c6
      try clear c7
      try clear c7b0
      try clear c7b1
      try clear c9
      try clear c11
      try clear c11b0
      try clear c13
      try clear c15
      try clear p2
      obtain ⟨x8_2, x35_2, rfl, HA, HK2, HO_8, HB⟩ := hrel
      cases gk with
      | zero => exact absurd HA.out (by simp [Qan.l0])
      | succ k2 =>
       have H := HA.out
       clear HA
       simp only [Qan.l0] at H
       by_cases c16 : x35_2 < (l0.length : Int)
       ·rw [if_pos c16] at H
        have c16b0 : decide (x35_2 < (l0.length : Int)) = T := decide_eq_true c16
        clear c16
        (try simp only [c16b0])
        by_cases c17 : 0 ≤ x35_2
        ·rw [if_pos c17] at H
         have c17b0 : decide (0 ≤ x35_2) = T := decide_eq_true c17
         clear c17
         by_cases c18 : x35_2 < (l0.length : Int)
         ·rw [if_pos c18] at H
          have c18b0 : decide (x35_2 < (l0.length : Int)) = T := decide_eq_true c18
          clear c18
          have p392 : 0 ≤ (x35_2 : Int) := Ze
          have q392 : x35_2 < (l0.length : Int) := Ze
          obtain ⟨ad392, e392, hx392_0, hx392_1, hx392_2⟩ := at_T56 HR0.out x35_2 p392 q392
          cases e392
          replace hx392_0 := Zx HB.out hx392_0
          replace hx392_1 := Zx HB.out hx392_1
          replace hx392_2 := Zx HB.out hx392_2
          replace p392 := eq_true p392
          replace q392 := eq_true q392
          go_upto_if 40 with (first | ((with_reducible refine QaZ (N := 11) rfl ?_); refine Zbx (N := 11) (cs := #[.int .i64 0, .int .i64 0, .bool F]) (t := 56) ?_; intro gb393 hg w19 hbox hb; have BK393 := Aside0.mk (hbox); have GW393 := Aside0.mk (Zt w hg (Zb)); have GE393 := GW393; replace HO_8 := Aside0.mk (Kd.R_below (Kd.R_elderB (Zr HO_8.out) gb393 (Nat.le_of_eq hg.symm)) hb); replace HB := Aside0.mk (Qat (Zb) hb); clear hb hbox hg; have hcz20_0 : w19.cell? ⟨gb393, 0, none⟩ = some (.int .i64 0) := (Qap BK393.out 0).trans (by first | rfl | (rw [← Nbq23.out]; rfl)); have hcz20_1 : w19.cell? ⟨gb393, 1, none⟩ = some (.int .i64 0) := (Qap BK393.out 1).trans (by first | rfl | (rw [← Nbq23.out]; rfl)); have hcz20_2 : w19.cell? ⟨gb393, 2, none⟩ = some (.bool F) := (Qap BK393.out 2).trans (by first | rfl | (rw [← Nbq23.out]; rfl)); have hfz20_0 := Qaj BK393.out 0; have hfz20_1 := Qaj BK393.out 1; have hfz20_2 := Qaj BK393.out 2) | ((with_reducible refine Qbs (t := 56) (p := 11) rfl ?_); refine Qbn (t := 56) (p := 11) (v := ?vo_w21) (w1 := (((w19.setCell ⟨gb393, 0, none⟩ (.int .i64 ((rd_T56 l0 x35_2).f0))).setCell ⟨gb393, 1, none⟩ (.int .i64 ((rd_T56 l0 x35_2).f1))).setCell ⟨gb393, 2, none⟩ (.bool ((rd_T56 l0 x35_2).f2)))) ?hg ?ho ?hn ?hr ?_; (case ho => rfl); (case hg => rfl); (case hn => rfl); (case hr => first | (exact Qbp (cs := #[.int .i64 0, .int .i64 0, .bool F]) (seg := [.int .i64 ((rd_T56 l0 x35_2).f0), .int .i64 ((rd_T56 l0 x35_2).f1), .bool ((rd_T56 l0 x35_2).f2)]) BK393.out rfl (by first | rfl | (go_simp; done)) (by first | rfl | (go_simp; done)) (by rfl) (by first | rfl | kernel_rfl) (by simp) (by first | rfl | simp [Value.oneCell'])) | (go_simp; done) | (go_simp; rfl)); intro w21 hw; replace HO_8 : Aside0 (Kd.R k56 56 w21 w.heap.size (fun k_ => k_ ≠ gb393) u8 x8_2) := ⟨(by rw [hw]; exact (by (with_reducible repeat (first | apply Kd.R_alloc | apply Kd.R_drewN | apply Kd.R_drew)); exact Kd.R_mono (Zf gb393 2 (Zf gb393 1 (Zf gb393 0 (Kd.R_mono HO_8.out (fun k_ hk => (⟨hk, hk.2⟩ : _ ∧ k_ ≠ gb393))) (.int .i64 ((rd_T56 l0 x35_2).f0))) (.int .i64 ((rd_T56 l0 x35_2).f1))) (.bool ((rd_T56 l0 x35_2).f2))) (fun _ hk => hk.1.2)))⟩; replace BK393 : Aside0 (w21.heap[gb393]? = some (.cells #[.int .i64 ((rd_T56 l0 x35_2).f0), .int .i64 ((rd_T56 l0 x35_2).f1), .bool ((rd_T56 l0 x35_2).f2)] 56 (0, 0))) := ⟨(by rw [hw]; exact (Zp2 BK393.out))⟩; replace HB : Aside0 (Below w.heap.size w w21) := ⟨(by rw [hw]; exact (Zc1 GE393.out))⟩; clear hw; have hcz22_0 : w21.cell? ⟨gb393, 0, none⟩ = some (.int .i64 ((rd_T56 l0 x35_2).f0)) := (Qap BK393.out 0).trans (by first | rfl | (rw [← Nbq23.out]; rfl)); have hcz22_1 : w21.cell? ⟨gb393, 1, none⟩ = some (.int .i64 ((rd_T56 l0 x35_2).f1)) := (Qap BK393.out 1).trans (by first | rfl | (rw [← Nbq23.out]; rfl)); have hcz22_2 : w21.cell? ⟨gb393, 2, none⟩ = some (.bool ((rd_T56 l0 x35_2).f2)) := (Qap BK393.out 2).trans (by first | rfl | (rw [← Nbq23.out]; rfl)); have hfz22_0 := Qaj BK393.out 0; have hfz22_1 := Qaj BK393.out 1; have hfz22_2 := Qaj BK393.out 2))
          (try simp only [Act.put, Zj, Zk, Zm])
          obtain ⟨bq23, hbq23⟩ : ∃ b_ : Bool, b_ = ((rd_T56 l0 x35_2).f2) := ⟨_, rfl⟩
          replace H : (if bq23 = T then ((QaG.f k2 (wrap64 (((rd_T56 l0 x35_2).f1) + a1)) a2 a3).bind fun t394 => (if x8_2.length < 5864062014805 then (Qan.l0 k2 a1 a2 a3 (x8_2 ++ [(⟨(rd_T56 l0 x35_2).f0, t394, bq23⟩ : S56)]) l0 (l0.length : Int) (wrap64 (x35_2 + 1))) else (none))) else (if x8_2.length < 5864062014805 then (Qan.l0 k2 a1 a2 a3 (x8_2 ++ [(⟨(rd_T56 l0 x35_2).f0, (rd_T56 l0 x35_2).f1, bq23⟩ : S56)]) l0 (l0.length : Int) (wrap64 (x35_2 + 1))) else (none))) = some (r1, r2) := by rw [← hbq23] at H; exact H
          have Nbq23 := Aside0.mk hbq23
          clear hbq23
          (try rw [← Nbq23.out])
          (try rw [← Nbq23.out] at hx392_0)
          (try rw [← Nbq23.out] at hx392_1)
          (try rw [← Nbq23.out] at hx392_2)
          (try rw [← Nbq23.out] at BK393)
          (try rw [← Nbq23.out] at hcz20_0)
          (try rw [← Nbq23.out] at hcz20_1)
          (try rw [← Nbq23.out] at hcz20_2)
          (try rw [← Nbq23.out] at hcz22_0)
          (try rw [← Nbq23.out] at hcz22_1)
          (try rw [← Nbq23.out] at hcz22_2)
          by_cases c24 : bq23 = T
          ·subst c24
           have H1 : ((QaG.f k2 (wrap64 (((rd_T56 l0 x35_2).f1) + a1)) a2 a3).bind fun t394 => (if x8_2.length < 5864062014805 then (Qan.l0 k2 a1 a2 a3 (x8_2 ++ [(⟨(rd_T56 l0 x35_2).f0, t394, T⟩ : S56)]) l0 (l0.length : Int) (wrap64 (x35_2 + 1))) else (none))) = some (r1, r2) := by rw [if_pos rfl] at H; exact H
           clear H
           have H := H1
           clear H1
           replace H := Option.bind_eq_some_iff.mp H
           obtain ⟨t394, A250, H⟩ := H
           replace H : (if x8_2.length < 5864062014805 then (Qan.l0 k2 a1 a2 a3 (x8_2 ++ [(⟨(rd_T56 l0 x35_2).f0, t394, T⟩ : S56)]) l0 (l0.length : Int) (wrap64 (x35_2 + 1))) else (none)) = some (r1, r2) := H
           have A25 := Aside0.mk A250
           clear A250
           by_cases c26 : x8_2.length < 5864062014805
           ·rw [if_pos c26] at H
            have LMc26 := Aside0.mk c26
            clear c26
            obtain ⟨y395, hy395⟩ : ∃ y_ : List (S56), y_ = (x8_2 ++ [(⟨(rd_T56 l0 x35_2).f0, t394, T⟩ : S56)]) := ⟨_, rfl⟩
            replace H : (Qan.l0 k2 a1 a2 a3 y395 l0 (l0.length : Int) (wrap64 (x35_2 + 1))) = some (r1, r2) := by first | (rw [hy395]; with_reducible exact H) | (have H2_ := (Option.bind_some _ _).symm.trans H; rw [hy395]; with_reducible exact H2_) | (have H2_ := (Option.bind_some _ _).symm.trans H; with_reducible exact H2_) | with_reducible exact H | (rw [hy395]; exact H) | exact H
            have Ny395 := Aside0.mk hy395
            clear hy395
            have H' := Aside0.mk H
            clear H
            have hcz27_0 : w21.cell? ⟨gb393, 0, none⟩ = some (.int .i64 ((rd_T56 l0 x35_2).f0)) := (Qap BK393.out 0).trans (by first | rfl | (rw [← Nbq23.out]; rfl))
            have hcz27_1 : w21.cell? ⟨gb393, 1, none⟩ = some (.int .i64 ((rd_T56 l0 x35_2).f1)) := (Qap BK393.out 1).trans (by first | rfl | (rw [← Nbq23.out]; rfl))
            have hcz27_2 : w21.cell? ⟨gb393, 2, none⟩ = some (.bool T) := (Qap BK393.out 2).trans (by first | rfl | (rw [← Nbq23.out]; rfl))
            have hfz27_0 := Qaj BK393.out 0
            have hfz27_1 := Qaj BK393.out 1
            have hfz27_2 := Qaj BK393.out 2
            go_wp2_with (first | ((with_reducible refine QaD (f := 61) rfl ?_); refine goesL_ (some 47) rfl rfl Try.func61 (by kernel_rfl) rfl #[.int .i64 (wrap64 (((rd_T56 l0 x35_2).f1) + a1)), .int .i64 a2, .int .i64 a3] rfl (Zl) ?_; (with_reducible refine (QaG.calls k2 (wrap64 (((rd_T56 l0 x35_2).f1) + a1)) a2 a3 t394 _ A25.out).mono ?_); rintro e w' ⟨rfl, ⟨nd, rfl⟩⟩; refine ⟨_, rfl, ?_⟩; (try (rw [Qcl w21]; generalize hq_ : World.drewN w21 _ = w21; have n0_ : Aside0 (Kd.R k56 56 w21 w.heap.size (fun k_ => k_ ≠ gb393) u8 x8_2) := ⟨by rw [← hq_]; exact (Zr HO_8.out)⟩; have n1_ : Aside0 (w21.heap[gb393]? = some (.cells #[.int .i64 ((rd_T56 l0 x35_2).f0), .int .i64 ((rd_T56 l0 x35_2).f1), .bool T] 56 (0, 0))) := ⟨by rw [← hq_]; exact (Zu BK393.out)⟩; have n2_ : Aside0 (Below w.heap.size w w21) := ⟨by rw [← hq_]; exact (Zc1 GE393.out)⟩; clear HO_8 BK393 HB hq_; have HO_8 := n0_; have BK393 := n1_; have HB := n2_; clear n0_ n1_ n2_))) | ((with_reducible refine Qbs (t := 3) (p := 48) rfl ?_); refine Qbn (t := 3) (p := 48) (v := ?vo_w28) (w1 := (w21.setCell ⟨gb393, 1, none⟩ (.int .i64 t394))) ?hg ?ho ?hn ?hr ?_; (case ho => rfl); (case hg => rfl); (case hn => rfl); (case hr => first | (exact Qbp (cs := #[.int .i64 ((rd_T56 l0 x35_2).f0), .int .i64 ((rd_T56 l0 x35_2).f1), .bool T]) (seg := [.int .i64 t394]) BK393.out rfl (by first | rfl | (go_simp; done)) (by first | rfl | (go_simp; done)) (by rfl) (by first | rfl | kernel_rfl) (by simp) (by first | rfl | simp [Value.oneCell'])) | (go_simp; done) | (go_simp; rfl)); intro w28 hw; replace HO_8 : Aside0 (Kd.R k56 56 w28 w.heap.size (fun k_ => k_ ≠ gb393) u8 x8_2) := ⟨(by rw [hw]; exact (by (with_reducible repeat (first | apply Kd.R_alloc | apply Kd.R_drewN | apply Kd.R_drew)); exact Kd.R_mono (Zf gb393 1 (Kd.R_mono HO_8.out (fun k_ hk => (⟨hk, hk⟩ : _ ∧ k_ ≠ gb393))) (.int .i64 t394)) (fun _ hk => hk.1)))⟩; replace BK393 : Aside0 (w28.heap[gb393]? = some (.cells #[.int .i64 ((rd_T56 l0 x35_2).f0), .int .i64 t394, .bool T] 56 (0, 0))) := ⟨(by rw [hw]; exact (Zp2 BK393.out))⟩; replace HB : Aside0 (Below w.heap.size w w28) := ⟨(by rw [hw]; exact (Zc1 GE393.out))⟩; clear hw; have hcz29_0 : w28.cell? ⟨gb393, 0, none⟩ = some (.int .i64 ((rd_T56 l0 x35_2).f0)) := (Qap BK393.out 0).trans (by first | rfl | (rw [← Nbq23.out]; rfl)); have hcz29_1 : w28.cell? ⟨gb393, 1, none⟩ = some (.int .i64 t394) := (Qap BK393.out 1).trans (by first | rfl | (rw [← Nbq23.out]; rfl)); have hcz29_2 : w28.cell? ⟨gb393, 2, none⟩ = some (.bool T) := (Qap BK393.out 2).trans (by first | rfl | (rw [← Nbq23.out]; rfl)); have hfz29_0 := Qaj BK393.out 0; have hfz29_1 := Qaj BK393.out 1; have hfz29_2 := Qaj BK393.out 2) | ((with_reducible refine Qa5 (b := .append) (xs := #[.tmp 49, .tmp 51]) rfl ?_); at_builtin; refine Kd.R_append k56 (w0 := w) w.heap.size rfl (.tmp 49) (.tmp 51) 48 56 (.agg #[(.int .i64 0), (.int .i64 0), (.bool F)]) 24 rfl Try.underlying48 info56 rfl (by decide) (by omega) u8 x8_2 (⟨(rd_T56 l0 x35_2).f0, t394, T⟩ : S56) [.int .i64 ((rd_T56 l0 x35_2).f0), .int .i64 t394, .bool T] (fun k_ => k_ ≠ gb393) (fun _ => False) rfl rfl ?aP (fun _ hk => hk.elim) ?aF ?aO ?aB ?aS ?aL ?_; (case aP => exact Qa9 _ _ _ (⟨(rd_T56 l0 x35_2).f0, t394, T⟩ : S56)); (case aB => exact (Zc1 GE393.out)); (case aF => exact (fun k_ hk => Kd.freshB (g := gb393) (o := .cells #[.int .i64 ((rd_T56 l0 x35_2).f0), .int .i64 t394, .bool T] 56 (0, 0)) (Zu BK393.out) k_ hk)); (case aO => exact (Zr HO_8.out)); (case aS => exact (Qay (Zc1 GE393.out))); (case aL => have := LMc26.out; omega); intro v396 w30 ho hb hg hat; (first | rw [← Ny395.out] at ho | rw [Nbq23.out, ← Ny395.out] at ho); have HO397 := Aside0.mk (ho); replace BK393 := Aside0.mk (Qbh (g := gb393) (o := .cells #[.int .i64 ((rd_T56 l0 x35_2).f0), .int .i64 t394, .bool T] 56 (0, 0)) (Zu BK393.out) hg (Kd.R_away HO_8.out (fun _ hk => hk))); replace HB := Aside0.mk (hb); clear HO_8; clear ho hb hg hat))
            go_roundg k2
            case measure => have := HJ9.out; have := HK2.out; omega
            case rel => exact ⟨(y395), (wrap64 (x35_2 + 1)), (Zs), H', ⟨by have := HJ9.out; have := HK2.out; omega⟩, ⟨by (with_reducible repeat (first | apply Kd.R_alloc | apply Kd.R_drewN | apply Kd.R_drew)); exact Kd.R_mono HO397.out (fun _ hk => trivial)⟩, ⟨Zc1 GE393.out⟩⟩
           rw [if_neg c26] at H
           exact absurd H (by simp)
          replace c24 := Bool.eq_false_iff.mpr c24
          subst c24
          have H1 : (if x8_2.length < 5864062014805 then (Qan.l0 k2 a1 a2 a3 (x8_2 ++ [(⟨(rd_T56 l0 x35_2).f0, (rd_T56 l0 x35_2).f1, F⟩ : S56)]) l0 (l0.length : Int) (wrap64 (x35_2 + 1))) else (none)) = some (r1, r2) := by rw [if_neg (show ¬ (F = T) by decide)] at H; exact H
          clear H
          have H := H1
          clear H1
          by_cases c31 : x8_2.length < 5864062014805
          ·rw [if_pos c31] at H
           have LMc31 := Aside0.mk c31
           clear c31
           obtain ⟨y398, hy398⟩ : ∃ y_ : List (S56), y_ = (x8_2 ++ [(⟨(rd_T56 l0 x35_2).f0, (rd_T56 l0 x35_2).f1, F⟩ : S56)]) := ⟨_, rfl⟩
           replace H : (Qan.l0 k2 a1 a2 a3 y398 l0 (l0.length : Int) (wrap64 (x35_2 + 1))) = some (r1, r2) := by first | (rw [hy398]; with_reducible exact H) | (have H2_ := (Option.bind_some _ _).symm.trans H; rw [hy398]; with_reducible exact H2_) | (have H2_ := (Option.bind_some _ _).symm.trans H; with_reducible exact H2_) | with_reducible exact H | (rw [hy398]; exact H) | exact H
           have Ny398 := Aside0.mk hy398
           clear hy398
           have H' := Aside0.mk H
           clear H
           have hcz32_0 : w21.cell? ⟨gb393, 0, none⟩ = some (.int .i64 ((rd_T56 l0 x35_2).f0)) := (Qap BK393.out 0).trans (by first | rfl | (rw [← Nbq23.out]; rfl))
           have hcz32_1 : w21.cell? ⟨gb393, 1, none⟩ = some (.int .i64 ((rd_T56 l0 x35_2).f1)) := (Qap BK393.out 1).trans (by first | rfl | (rw [← Nbq23.out]; rfl))
           have hcz32_2 : w21.cell? ⟨gb393, 2, none⟩ = some (.bool F) := (Qap BK393.out 2).trans (by first | rfl | (rw [← Nbq23.out]; rfl))
           have hfz32_0 := Qaj BK393.out 0
           have hfz32_1 := Qaj BK393.out 1
           have hfz32_2 := Qaj BK393.out 2
           go_wp2_with (first | ((with_reducible refine Qa5 (b := .append) (xs := #[.tmp 49, .tmp 51]) rfl ?_); at_builtin; refine Kd.R_append k56 (w0 := w) w.heap.size rfl (.tmp 49) (.tmp 51) 48 56 (.agg #[(.int .i64 0), (.int .i64 0), (.bool F)]) 24 rfl Try.underlying48 info56 rfl (by decide) (by omega) u8 x8_2 (⟨(rd_T56 l0 x35_2).f0, (rd_T56 l0 x35_2).f1, F⟩ : S56) [.int .i64 ((rd_T56 l0 x35_2).f0), .int .i64 ((rd_T56 l0 x35_2).f1), .bool F] (fun k_ => k_ ≠ gb393) (fun _ => False) rfl rfl ?aP (fun _ hk => hk.elim) ?aF ?aO ?aB ?aS ?aL ?_; (case aP => exact Qa9 _ _ _ (⟨(rd_T56 l0 x35_2).f0, (rd_T56 l0 x35_2).f1, F⟩ : S56)); (case aB => exact (Zc1 GE393.out)); (case aF => exact (fun k_ hk => Kd.freshB (g := gb393) (o := .cells #[.int .i64 ((rd_T56 l0 x35_2).f0), .int .i64 ((rd_T56 l0 x35_2).f1), .bool F] 56 (0, 0)) (Zu BK393.out) k_ hk)); (case aO => exact (Zr HO_8.out)); (case aS => exact (Qay (Zc1 GE393.out))); (case aL => have := LMc31.out; omega); intro v399 w33 ho hb hg hat; (first | rw [← Ny398.out] at ho | rw [Nbq23.out, ← Ny398.out] at ho); have HO400 := Aside0.mk (ho); replace BK393 := Aside0.mk (Qbh (g := gb393) (o := .cells #[.int .i64 ((rd_T56 l0 x35_2).f0), .int .i64 ((rd_T56 l0 x35_2).f1), .bool F] 56 (0, 0)) (Zu BK393.out) hg (Kd.R_away HO_8.out (fun _ hk => hk))); replace HB := Aside0.mk (hb); clear HO_8; clear ho hb hg hat))
           go_roundg k2
           case measure => have := HJ9.out; have := HK2.out; omega
           case rel => exact ⟨(y398), (wrap64 (x35_2 + 1)), (Zs), H', ⟨by have := HJ9.out; have := HK2.out; omega⟩, ⟨by (with_reducible repeat (first | apply Kd.R_alloc | apply Kd.R_drewN | apply Kd.R_drew)); exact Kd.R_mono HO400.out (fun _ hk => trivial)⟩, ⟨Zc1 GE393.out⟩⟩
          rw [if_neg c31] at H
          exact absurd H (by simp)
         rw [if_neg c18] at H
         exact absurd H (by simp)
        rw [if_neg c17] at H
        exact absurd H (by simp)
       rw [if_neg c16] at H
       have c16b0 : decide (x35_2 < (l0.length : Int)) = F := decide_eq_false c16
       clear c16
       (try simp only [c16b0])
       simp only [Option.some.injEq, Prod.mk.injEq] at H
       obtain ⟨rfl, rfl⟩ := H
       go_wp2
       go_ret2
       exact ⟨_, Zq, Zr HO_8.out, Zb⟩
  replace c9 := Bool.eq_false_iff.mpr c9
  subst c9
  have H1 : (some (([] : List (S56)), 17)) = some (r1, r2) := by rw [if_neg (show ¬ (F = T) by decide)] at H; exact H
  clear H
  have H := H1
  clear H1
  simp only [Option.some.injEq, Prod.mk.injEq] at H
  obtain ⟨rfl, rfl⟩ := H
  go_wp2
  go_ret2
  exact ⟨_, Zq, by first | exact Kd.R_nil _ _ _ _ _ | exact Kd.N_nil _ _ _ _ _ | exact Kd.V_nil _ _ _ _ _ | exact Kd.Q_nil _ _ _ _ _ | exact Kd.S_nil _ _ _ _ _, Zb⟩
 rw [if_neg c7] at H
 have c7b0 : (t388 == 0) = F := beq_eq_false_iff_ne.mpr c7
 have c7b1 : (t388 != 0) = T := bne_iff_ne.mpr c7
 (try simp only [c7b0, c7b1])
 simp only [Option.some.injEq, Prod.mk.injEq] at H
 obtain ⟨rfl, rfl⟩ := H
 go_wp2
 go_ret2
 exact ⟨_, Zq, by first | exact Kd.R_nil _ _ _ _ _ | exact Kd.N_nil _ _ _ _ _ | exact Kd.V_nil _ _ _ _ _ | exact Kd.Q_nil _ _ _ _ _ | exact Kd.S_nil _ _ _ _ _, Zb⟩
def Qas.l0 : Nat → List (S56) → Int → Int → Option ((List (S56)))
 | 0, _, _, _ => none
 | k + 1, x0, x4, x5 => if x5 < x4 then (if 0 ≤ x5 then (if x5 < (x0.length : Int) then (Qas.l0 k (x0.set (x5 : Int).toNat (⟨(-7), 0, F⟩ : S56)) x4 (wrap64 (x5 + 1))) else (none)) else (none)) else (some x0)
def Qas.f (k : Nat) (l0 : List (S56)) : Option ((List (S56))) := Qas.l0 k l0 (l0.length : Int) 0
theorem Qas.mono_l : ∀ k, (∀ y0 y1 y2, LeO (Qas.l0 k y0 y1 y2) (Qas.l0 (k + 1) y0 y1 y2))
 | 0 => fun _ _ _ r h => by simp [Qas.l0] at h
 | k + 1 => by
  have ih0 := Qas.mono_l k
  intro y0 y1 y2
  unfold Qas.l0
  exact ZM1 ih0
theorem Qas.mono : ∀ a0 k, LeO (Qas.f k a0) (Qas.f (k + 1) a0) := by
 intro a0 k
 have ih0 := Qas.mono_l k
 unfold Qas.f
 exact ZM1 ih0
theorem Qas.calls (k : Nat) (P0_ : Nat → Prop) (u9000_ : Value) (l0 : List (S56)) (r : List (S56)) (w0 w : World) (hB : Below w0.heap.size w0 w) (ho0 : Kd.R k56 56 w w0.heap.size P0_ u9000_ l0) (h : Qas.f k l0 = some r) :
  Calls Try.prog 39 #[u9000_] w fun e w' => e = .returned (.tuple #[]) ∧ Kd.R k56 56 w' w0.heap.size (fun k_ => (P0_ k_ ∨ w.heap.size ≤ k_)) u9000_ r ∧ Below w0.heap.size w0 w' ∧ Kept w w' (fun k_ => P0_ k_) := by
 have hu56 := Try.underlying56
 have HO0 := Aside0.mk (show Kd.R k56 56 w w0.heap.size (fun k_ => (P0_ k_ ∨ w.heap.size ≤ k_)) u9000_ l0 from Kd.R_mono ho0 (fun k_ hk => (.inl hk)))
 have HK := Aside0.mk (Kept.refl w (fun k_ => P0_ k_))
 have HW0 := Aside0.mk hB.size
 have HB := Aside0.mk hB
 clear hB
 have H : (Qas.l0 k l0 (l0.length : Int) 0) = some r := h
 clear h
 have H' := Aside0.mk H
 clear H
 obtain ⟨Ao2, co2, eo2⟩ := Kd.R_slice HO0.out
 subst eo2
 go_enter Try.func39, Try.ntmps39
 go_wp2
 go_loopg [5] k (fun kq v5 w' => ∃ (x0_1 : List (S56)) (x5_1 : Int), v5 = .int .i64 x5_1 ∧ Aside0 (Qas.l0 kq x0_1 (l0.length : Int) x5_1 = some r) ∧ Aside0 (kq ≤ k) ∧ Aside0 (Kd.R k56 56 w' w0.heap.size (fun k_ => (P0_ k_ ∨ w.heap.size ≤ k_)) (.slice Ao2 l0.length co2) x0_1) ∧ Aside0 (Kept w w' (fun k_ => P0_ k_)) ∧ Aside0 (Below w0.heap.size w0 w'))
 case atStart => exact ⟨(l0), (0), (Zs), H', ⟨Nat.le_refl _⟩, ⟨Zr HO0.out⟩, ⟨by repeat (first | (with_reducible first | exact HK.out | apply Kept.alloc | apply Kept.drewN | apply Kept.drew) | exact HK.out)⟩, ⟨Zb⟩⟩
 case round =>
  clear H'
  try clear p2
  obtain ⟨x0_1, x5_1, rfl, HA, HK1, HO_0, HK, HB⟩ := hrel
  have hl0_1 := (Kd.R_reads' HO_0.out).1
  rw [hl0_1] at HO_0
  (try simp only [hl0_1])
  cases gk with
  | zero => exact absurd HA.out (by simp [Qas.l0])
  | succ k1 =>
   have H := HA.out
   clear HA
   simp only [Qas.l0] at H
   by_cases c3 : x5_1 < (l0.length : Int)
   ·rw [if_pos c3] at H
    have c3b0 : decide (x5_1 < (l0.length : Int)) = T := decide_eq_true c3
    clear c3
    (try simp only [c3b0])
    by_cases c4 : 0 ≤ x5_1
    ·rw [if_pos c4] at H
     have c4b0 : decide (0 ≤ x5_1) = T := decide_eq_true c4
     clear c4
     by_cases c5 : x5_1 < (x0_1.length : Int)
     ·rw [if_pos c5] at H
      have c5b0 : decide (x5_1 < (x0_1.length : Int)) = T := decide_eq_true c5
      clear c5
      obtain ⟨y416, hy416⟩ : ∃ y_ : List (S56), y_ = (x0_1.set (x5_1 : Int).toNat (⟨(-7), 0, F⟩ : S56)) := ⟨_, rfl⟩
      replace H : (Qas.l0 k1 y416 (l0.length : Int) (wrap64 (x5_1 + 1))) = some r := by first | (rw [hy416]; with_reducible exact H) | (have H2_ := (Option.bind_some _ _).symm.trans H; rw [hy416]; with_reducible exact H2_) | (have H2_ := (Option.bind_some _ _).symm.trans H; with_reducible exact H2_) | with_reducible exact H | (rw [hy416]; exact H) | exact H
      have Ny416 := Aside0.mk hy416
      clear hy416
      have H' := Aside0.mk H
      clear H
      have p6 : 0 ≤ (x5_1 : Int) := Ze
      have q6 : (x5_1 : Int) < ((x0_1.length : Int) : Int) := Ze
      obtain ⟨go6, co6, eo6, gb6, gl6, cl6, HG6⟩ := Kd.R_form HO_0.out (by omega)
      (first | cases eo6 | (injection eo6 with ea_ en_ ec_; (first | subst ea_ | (injection ea_ with ea_; subst ea_)); subst ec_; clear en_))
      have GB6 := Aside0.mk gb6
      have GG6 := Aside0.mk HG6
      clear gb6 gl6 HG6
      have HMgo6 := Aside0.mk (show (P0_ go6 ∨ w.heap.size ≤ go6) from (HO_0.out.1 _ rfl))
      obtain ⟨ce6, hcl6, hM6, hcc6, hfr6⟩ := Kd.R_elem HO_0.out z56 (x5_1 : Int) p6 q6
      obtain rfl := QcF hM6
      have hx6_0 : wr.cell? ⟨go6, (x5_1 : Int).toNat * 3, none⟩ = some (.int .i64 ((rd_T56 x0_1 x5_1).f0)) := hcc6 0 _ rfl
      have hx6_1 : wr.cell? ⟨go6, (x5_1 : Int).toNat * 3 + 1, none⟩ = some (.int .i64 ((rd_T56 x0_1 x5_1).f1)) := hcc6 1 _ rfl
      have hx6_2 : wr.cell? ⟨go6, (x5_1 : Int).toNat * 3 + 2, none⟩ = some (.bool ((rd_T56 x0_1 x5_1).f2)) := hcc6 2 _ rfl
      have hf6_0 : wr.frozen? ⟨go6, (x5_1 : Int).toNat * 3, none⟩ = F := hfr6 0
      have hf6_1 : wr.frozen? ⟨go6, (x5_1 : Int).toNat * 3 + 1, none⟩ = F := hfr6 1
      have hf6_2 : wr.frozen? ⟨go6, (x5_1 : Int).toNat * 3 + 2, none⟩ = F := hfr6 2
      clear hcl6 hcc6 hfr6 hM6
      replace p6 := eq_true p6
      replace q6 := eq_true q6
      have HX7 := Aside0.mk (show Kd.R k56 56 wr w0.heap.size (fun k_ => (P0_ k_ ∨ w.heap.size ≤ k_)) (.slice (some ⟨go6, 0, none⟩) x0_1.length co2) x0_1 from (Zr HO_0.out))
      obtain ⟨ce7, hcl7, hM7, hcc7, hfr7⟩ := Kd.R_elem HX7.out z56 (x5_1 : Int) (Ze) (by have h_ : (x5_1 : Int) < ((x0_1.length : Int) : Int) := Ze; first | exact h_ | (have e_ := (Kd.R_reads' HO_0.out).1; omega) | simpa using h_)
      obtain rfl := QcF hM7
      have HP7 := Kd.R_seg HX7.out (x5_1 : Int) (Ze) (by have h_ : (x5_1 : Int) < ((x0_1.length : Int) : Int) := Ze; first | exact h_ | (have e_ := (Kd.R_reads' HO_0.out).1; omega) | simpa using h_) (seg := [.int .i64 (-7), .int .i64 0, .bool F]) (j := 0) hcl7 hcc7 (show 3 ≤ 3 from by decide) (x' := (⟨(-7), 0, F⟩ : S56)) (Qa9 _ _ _ (⟨(-7), 0, F⟩ : S56) ) (fun _ hk => hk)
      have hx7_0 := hcc7 0 _ rfl
      (try simp only [show (k56).sz = 3 from rfl, Nat.mul_one, Nat.add_zero] at hx7_0)
      have hf7_0 := hfr7 0
      (try simp only [show (k56).sz = 3 from rfl, Nat.mul_one, Nat.add_zero] at hf7_0)
      have hx7_1 := hcc7 1 _ rfl
      (try simp only [show (k56).sz = 3 from rfl, Nat.mul_one, Nat.add_zero] at hx7_1)
      have hf7_1 := hfr7 1
      (try simp only [show (k56).sz = 3 from rfl, Nat.mul_one, Nat.add_zero] at hf7_1)
      have hx7_2 := hcc7 2 _ rfl
      (try simp only [show (k56).sz = 3 from rfl, Nat.mul_one, Nat.add_zero] at hx7_2)
      have hf7_2 := hfr7 2
      (try simp only [show (k56).sz = 3 from rfl, Nat.mul_one, Nat.add_zero] at hf7_2)
      clear hcl7 hcc7 hfr7 hM7
      go_wp2_with (first | ((with_reducible refine Qbs (t := 56) (p := 11) rfl ?_); refine Qbn (t := 56) (p := 11) (v := ?vo_w8) (w1 := (((wr.setCell ⟨go6, (x5_1 : Int).toNat * 3, none⟩ (.int .i64 (-7))).setCell ⟨go6, (x5_1 : Int).toNat * 3 + 1, none⟩ (.int .i64 0)).setCell ⟨go6, (x5_1 : Int).toNat * 3 + 2, none⟩ (.bool F))) ?hg ?ho ?hn ?hr ?_; (case ho => rfl); (case hg => rfl); (case hn => rfl); (case hr => first | (go_simp; done) | (go_simp; rfl)); intro w8 hw; have hg : wr.grownBy w8 (some go6) := (by rw [hw]; exact HP7.2); have hp_ : Kd.R k56 56 w8 w0.heap.size (fun k_ => (P0_ k_ ∨ w.heap.size ≤ k_)) (.slice (some ⟨go6, 0, none⟩) x0_1.length co2) y416 := (by rw [hw, Ny416.out]; exact HP7.1); clear HP7; replace HB := Aside0.mk ((by rw [hw]; exact Qav (Qav (Qav (HB.out) GB6.out) GB6.out) GB6.out : Below w0.heap.size w0 w8)); replace HK := Aside0.mk (Kept.of_grown (S := (fun k_ => P0_ k_)) hg (by repeat (first | (with_reducible first | exact HK.out | apply Kept.alloc | apply Kept.drewN | apply Kept.drew) | exact HK.out)) (fun k_ e_ => (HO_0.out.1 k_ e_))); replace HO_0 := Aside0.mk (hp_); clear hg hw hp_))
      (try simp only [← hl0_1])
      go_roundg k1
      case measure => have := HK1.out; omega
      case rel => exact ⟨(y416), (wrap64 (x5_1 + 1)), (Zs), H', ⟨by have := HK1.out; omega⟩, ⟨by (try simp only [hl0_1]); (with_reducible repeat (first | apply Kd.R_alloc | apply Kd.R_drewN | apply Kd.R_drew)); exact HO_0.out⟩, ⟨by repeat (first | (with_reducible first | exact HK.out | apply Kept.alloc | apply Kept.drewN | apply Kept.drew) | exact HK.out)⟩, ⟨Zb⟩⟩
     rw [if_neg c5] at H
     exact absurd H (by simp)
    rw [if_neg c4] at H
    exact absurd H (by simp)
   rw [if_neg c3] at H
   have c3b0 : decide (x5_1 < (l0.length : Int)) = F := decide_eq_false c3
   (try simp only [hl0_1] at c3b0)
   clear c3
   (try simp only [c3b0])
   obtain rfl := Option.some.inj H
   go_wp2
   first | go_end0 | ((try simp only [Exit.inBlock, Exit.then]); refine bodyPost_ret (results_none rfl _ _ _) rfl ?_)
   exact ⟨Zq, (by first | exact (Zr HO_0.out) | (simp only [hl0_1]; exact (Zr HO_0.out))), Zb, by repeat (first | (with_reducible first | exact HK.out | apply Kept.alloc | apply Kept.drewN | apply Kept.drew) | exact HK.out)⟩
end Go.Proofs.Ytaembbndjpebhaa.Pr
