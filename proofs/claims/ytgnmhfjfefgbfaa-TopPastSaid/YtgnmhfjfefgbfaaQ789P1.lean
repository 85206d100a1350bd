/- Functions' values and contracts, as the print wrote them. -/
import Derived.Test.YtgnmhfjfefgbfaaQ789P0
namespace Go.Proofs.Ytgnmhfjfefgbfaa.Pr
open Bool renaming true → T
open Bool renaming false → F
open Go.RowKit Go.Proofs.YtgnmhfjfefgbfaaW.PrintWords Go.Proofs.YtgnmhfjfefgbfaaW.PrintLast Go.Proofs.YtgnmhfjfefgbfaaW.PrintMore
attribute [local go_sem] QaL QaN QaT QaU QaJ QaK QaM QaO   -- for this text's walks alone
set_option linter.unusedVariables false
set_option linter.unusedSimpArgs false
set_option maxRecDepth 100000
set_option maxHeartbeats 8000000
attribute [local go_sem high] eqA69
mutual
def QaC.l0 : Nat → List (S128) → List (S128) → List (S71) → Int → Int → Option ((List (S128)) × Int)
 | 0, _, _, _, _, _ => none
 | k + 1, x1, x4, x16, x17, x18 => if x18 < x17 then (if 0 ≤ x18 then (if x18 < (x16.length : Int) then (QaC.l1 k x1 x4 x16 x17 x18 x1 (x1.length : Int) 0 ((rd_T71 x16 x18).f0.f0) ((rd_T71 x16 x18).f0.f1) ((rd_T71 x16 x18).f0.f2) ((rd_T71 x16 x18).f0.f3) ((rd_T71 x16 x18).f1) ((rd_T71 x16 x18).f2)) else (none)) else (none)) else (some (x4, 0))
def QaC.l1 : Nat → List (S128) → List (S128) → List (S71) → Int → Int → List (S128) → Int → Int → ByteArray → Int → Int → Int → Int → Int → Option ((List (S128)) × Int)
 | 0, _, _, _, _, _, _, _, _, _, _, _, _, _, _ => none
 | k + 1, x1, x4, x16, x17, x18, x22, x23, x24, x129000, x129001, x129002, x129003, x129004, x129005 => if x24 < x23 then (if 0 ≤ x24 then (if x24 < (x22.length : Int) then (if ((((Qad x22 x24).f0.f0).toList) == x129000.toList && (((Qad x22 x24).f0.f1) == x129001 && (((Qad x22 x24).f0.f2) == x129002 && (((Qad x22 x24).f0.f3) == x129003)))) = T then (if x4.length < 1954687338268 then (QaC.l0 k x1 (x4 ++ [(⟨(⟨(Qad x22 x24).f0.f0, (Qad x22 x24).f0.f1, (Qad x22 x24).f0.f2, (Qad x22 x24).f0.f3⟩ : S69), (Qad x22 x24).f1, (Qad x22 x24).f2⟩ : S128)]) x16 x17 (wrap64 (x18 + 1))) else (none)) else (QaC.l1 k x1 x4 x16 x17 x18 x22 x23 (wrap64 (x24 + 1)) x129000 x129001 x129002 x129003 x129004 x129005)) else (none)) else (none)) else (some (([] : List (S128)), 11))
end
def QaC.f (k : Nat) (l0 : List (S71)) (l1 : List (S128)) : Option ((List (S128)) × Int) := (QaZ.f k l0 l1).bind fun t126 => (if t126 = 0 then (QaC.l0 k l1 ([] : List (S128)) l0 (l0.length : Int) 0) else (some (([] : List (S128)), t126)))
theorem QaC.mono_l : ∀ k, (∀ y0 y1 y2 y3 y4, LeO (QaC.l0 k y0 y1 y2 y3 y4) (QaC.l0 (k + 1) y0 y1 y2 y3 y4)) ∧ (∀ y0 y1 y2 y3 y4 y5 y6 y7 y8 y9 y10 y11 y12 y13, LeO (QaC.l1 k y0 y1 y2 y3 y4 y5 y6 y7 y8 y9 y10 y11 y12 y13) (QaC.l1 (k + 1) y0 y1 y2 y3 y4 y5 y6 y7 y8 y9 y10 y11 y12 y13))
 | 0 => ⟨fun _ _ _ _ _ r h => by simp [QaC.l0] at h, fun _ _ _ _ _ _ _ _ _ _ _ _ _ _ r h => by simp [QaC.l1] at h⟩
 | k + 1 => by
  obtain ⟨ih0, ih1⟩ := QaC.mono_l k
  refine ⟨?_, ?_⟩
  ·intro y0 y1 y2 y3 y4
   unfold QaC.l0
   exact ZM3 ih0 ih1 QaZ.mono
  intro y0 y1 y2 y3 y4 y5 y6 y7 y8 y9 y10 y11 y12 y13
  unfold QaC.l1
  exact ZM3 ih0 ih1 QaZ.mono
theorem QaC.mono : ∀ a0 a1 k, LeO (QaC.f k a0 a1) (QaC.f (k + 1) a0 a1) := by
 intro a0 a1 k
 obtain ⟨ih0, ih1⟩ := QaC.mono_l k
 unfold QaC.f
 exact ZM3 ih0 ih1 QaZ.mono
theorem QaC.calls (k : Nat) (A0 : Option Addr) (c0 : Nat) (l0 : List (S71)) (P1_ : Nat → Prop) (A1 : Option Addr) (c1 : Nat) (l1 : List (S128)) (r1 : List (S128)) (r2 : Int) (w : World) (hr0 : Kd.C k71 w A0 l0.length l0) (hc0 : l0.length ≤ c0) (hs1 : Kd.V k128 128 w w.heap.size (fun k_ => P1_ k_) (.slice A1 l1.length c1) l1) (h : QaC.f k l0 l1 = some (r1, r2)) :
  Calls Try.prog 58 #[.slice A0 l0.length c0, .slice A1 l1.length c1] w fun e w' => ∃ v0_ : Value, e = .returned (.tuple #[v0_, .int .i64 r2]) ∧ Kd.N k128 128 w' w.heap.size (fun k_ => (P1_ k_ ∨ w.heap.size ≤ k_)) v0_ r1 ∧ Below w.heap.size w w' := by
 have hu71 := Try.underlying71
 have hu128 := Try.underlying128
 have hu69 := Try.underlying69
 have HR0 := Aside0.mk hr0
 have HC0 := Aside0.mk hc0
 clear hr0 hc0
 have HO1 := Aside0.mk (show Kd.V k128 128 w w.heap.size (fun k_ => (P1_ k_ ∨ w.heap.size ≤ k_)) (.slice A1 l1.length c1) l1 from Kd.V_mono hs1 (fun k_ hk => .inl hk))
 have HB := Aside0.mk (Below.refl w.heap.size w)
 have H : ((QaZ.f k l0 l1).bind fun t126 => (if t126 = 0 then (QaC.l0 k l1 ([] : List (S128)) l0 (l0.length : Int) 0) else (some (([] : List (S128)), t126)))) = some (r1, r2) := h
 clear h
 replace H := Option.bind_eq_some_iff.mp H
 obtain ⟨t126, A30, H⟩ := H
 replace H : (if t126 = 0 then (QaC.l0 k l1 ([] : List (S128)) l0 (l0.length : Int) 0) else (some (([] : List (S128)), t126))) = some (r1, r2) := H
 have A3 := Aside0.mk A30
 clear A30
 go_enter Try.func58, Try.ntmps58
 try go_wp2
 refine Qc3 ?_
 go_upto_if 14 with (first | ((with_reducible refine QaI (f := 141) rfl ?_); refine goesL_ (some 12) rfl rfl Try.func141 (by kernel_rfl) rfl #[.slice A0 l0.length c0, .slice A1 l1.length c1] rfl (Zl) ?_; (with_reducible refine (QaZ.calls k _ _ l0 _ _ l1 t126 _ ?side1 ?side2 ?side3 ?side4 A3.out).mono ?_); (case side1 => exact Zv HR0.out); (case side2 => exact HC0.out); (case side3 => exact Zv (Kd.V_reads' HO1.out).2.2); (case side4 => exact (Kd.V_reads' HO1.out).2.1); rintro e w4 ⟨rfl, hb⟩; refine ⟨_, rfl, ?_⟩; replace HO1 := Aside0.mk (Kd.V_below (by (with_reducible repeat (first | apply Kd.V_alloc | apply Kd.V_drewN | apply Kd.V_drew)); exact HO1.out) hb); replace HB := Aside0.mk (Qap (Zb) hb); (try clear hb); (try clear hb2); (try clear hk); (try clear hi)))
 (try simp only [Act.put, Zj, Zk, Zm])
 by_cases c5 : t126 = 0
 ·rw [if_pos c5] at H
  have c5b0 : (t126 == 0) = T := beq_iff_eq.mpr c5
  have c5b1 : (t126 != 0) = F := bne_eq_false_iff_eq.mpr c5
  clear c5
  (try simp only [c5b0, c5b1])
  have H' := Aside0.mk H
  clear H
  go_wp2
  go_step3
  go_wp2
  go_loopg [4, 18] k (fun kq v4 v18 w' => ∃ (x4_1 : List (S128)) (x18_1 : Int), v18 = .int .i64 x18_1 ∧ Aside0 (QaC.l0 kq l1 x4_1 l0 (l0.length : Int) x18_1 = some (r1, r2)) ∧ Aside0 (kq ≤ k) ∧ Aside0 (Kd.V k128 128 w' w.heap.size (fun k_ => (P1_ k_ ∨ w.heap.size ≤ k_) ∧ some k_ ≠ (v4 : Value).ownBlock) (.slice A1 l1.length c1) l1) ∧ Aside0 (Kd.N k128 128 w' w.heap.size (fun k_ => (P1_ k_ ∨ w.heap.size ≤ k_)) v4 x4_1) ∧ Aside0 (Below w.heap.size w w'))
  case atStart => exact ⟨(([] : List (S128))), (0), (Zs), H', ⟨Nat.le_refl _⟩, ⟨by (with_reducible repeat (first | apply Kd.V_alloc | apply Kd.V_drewN | apply Kd.V_drew)); exact Kd.V_mono HO1.out (fun _ hk => ⟨hk, (by simp [Value.ownBlock])⟩)⟩, ⟨by first | exact Kd.S_nil _ _ _ _ _ | exact Kd.N_nil _ _ _ _ _ | exact Kd.V_nil _ _ _ _ _ | exact Kd.Q_nil _ _ _ _ _ | exact Kd.R_nil _ _ _ _ _⟩, ⟨Zb⟩⟩
  case round =>
   clear H'
   try clear c1
   try clear p2
   try clear p3
   try clear c5
   try clear c5b0
   try clear c5b1
   obtain ⟨x4_1, x18_1, rfl, HA, HK1, HO_1, HO_4, HB⟩ := hrel
   cases gk with
   | zero => exact absurd HA.out (by simp [QaC.l0])
   | succ k1 =>
    have H := HA.out
    clear HA
    simp only [QaC.l0] at H
    by_cases c6 : x18_1 < (l0.length : Int)
    ·rw [if_pos c6] at H
     have c6b0 : decide (x18_1 < (l0.length : Int)) = T := decide_eq_true c6
     clear c6
     (try simp only [c6b0])
     by_cases c7 : 0 ≤ x18_1
     ·rw [if_pos c7] at H
      have c7b0 : decide (0 ≤ x18_1) = T := decide_eq_true c7
      clear c7
      by_cases c8 : x18_1 < (l0.length : Int)
      ·rw [if_pos c8] at H
       have c8b0 : decide (x18_1 < (l0.length : Int)) = T := decide_eq_true c8
       clear c8
       have H' := Aside0.mk H
       clear H
       have p127 : 0 ≤ (x18_1 : Int) := Ze
       have q127 : x18_1 < (l0.length : Int) := Ze
       obtain ⟨ad127, e127, hx127_0, hx127_1, hx127_2, hx127_3, hx127_4, hx127_5⟩ := at_T71 HR0.out x18_1 p127 q127
       cases e127
       replace hx127_0 := Zx HB.out hx127_0
       replace hx127_1 := Zx HB.out hx127_1
       replace hx127_2 := Zx HB.out hx127_2
       replace hx127_3 := Zx HB.out hx127_3
       replace hx127_4 := Zx HB.out hx127_4
       replace hx127_5 := Zx HB.out hx127_5
       replace p127 := eq_true p127
       replace q127 := eq_true q127
       go_wp2_with (first | ((with_reducible refine QaR (N := 7) rfl ?_); refine Zbx (N := 7) (cs := #[.string (⟨#[]⟩ : ByteArray), .int .i64 0, .int .i64 0, .int .i64 0, .int .i64 0, .int .i64 0]) (t := 71) ?_; intro gb128 hg w9 hbox hb; have BK128 := Aside0.mk (hbox); have GW128 := Aside0.mk (Zt w hg (Zb)); have GE128 := GW128; replace HO_1 := Aside0.mk (Kd.V_below (Kd.V_elderB (by (with_reducible repeat (first | apply Kd.V_alloc | apply Kd.V_drewN | apply Kd.V_drew)); exact HO_1.out) gb128 (Nat.le_of_eq hg.symm)) hb); replace HO_4 := Aside0.mk (Kd.N_below (Kd.N_elderB (by (with_reducible repeat (first | apply Kd.N_alloc | apply Kd.N_drewN | apply Kd.N_drew)); exact HO_4.out) gb128 (Nat.le_of_eq hg.symm)) hb); replace HB := Aside0.mk (Qap (Zb) hb); clear hb hbox hg; obtain ⟨hcz10_0, hfz10_0⟩ := Zy (v := (.string (⟨#[]⟩ : ByteArray))) BK128.out 0; obtain ⟨hcz10_1, hfz10_1⟩ := Zy (v := (.int .i64 0)) BK128.out 1; obtain ⟨hcz10_2, hfz10_2⟩ := Zy (v := (.int .i64 0)) BK128.out 2; obtain ⟨hcz10_3, hfz10_3⟩ := Zy (v := (.int .i64 0)) BK128.out 3; obtain ⟨hcz10_4, hfz10_4⟩ := Zy (v := (.int .i64 0)) BK128.out 4; obtain ⟨hcz10_5, hfz10_5⟩ := Zy (v := (.int .i64 0)) BK128.out 5) | ((with_reducible refine Qbu (t := 71) (p := 7) rfl ?_); refine Qbn (t := 71) (p := 7) (v := ?vo_w11) (w1 := ((((((w9.setCell ⟨gb128, 0, none⟩ (.string ((rd_T71 l0 x18_1).f0.f0))).setCell ⟨gb128, 1, none⟩ (.int .i64 ((rd_T71 l0 x18_1).f0.f1))).setCell ⟨gb128, 2, none⟩ (.int .i64 ((rd_T71 l0 x18_1).f0.f2))).setCell ⟨gb128, 3, none⟩ (.int .i64 ((rd_T71 l0 x18_1).f0.f3))).setCell ⟨gb128, 4, none⟩ (.int .i64 ((rd_T71 l0 x18_1).f1))).setCell ⟨gb128, 5, none⟩ (.int .i64 ((rd_T71 l0 x18_1).f2)))) ?hg ?ho ?hn ?hr ?_; (case ho => rfl); (case hg => rfl); (case hn => rfl); (case hr => first | (exact QbJ (cs := #[.string (⟨#[]⟩ : ByteArray), .int .i64 0, .int .i64 0, .int .i64 0, .int .i64 0, .int .i64 0]) (seg := [.string ((rd_T71 l0 x18_1).f0.f0), .int .i64 ((rd_T71 l0 x18_1).f0.f1), .int .i64 ((rd_T71 l0 x18_1).f0.f2), .int .i64 ((rd_T71 l0 x18_1).f0.f3), .int .i64 ((rd_T71 l0 x18_1).f1), .int .i64 ((rd_T71 l0 x18_1).f2)]) BK128.out rfl (by first | rfl | (go_simp; done)) (by first | rfl | (go_simp; done)) (by rfl) (by first | rfl | kernel_rfl) (by simp) (by first | rfl | simp [Value.oneCell'])) | (go_simp; done) | (go_simp; rfl)); intro w11 hw; replace HO_1 : Aside0 (Kd.V k128 128 w11 w.heap.size (fun k_ => (P1_ k_ ∨ w.heap.size ≤ k_) ∧ some k_ ≠ (u4 : Value).ownBlock ∧ k_ ≠ gb128) (.slice A1 l1.length c1) l1) := ⟨(by rw [hw]; exact (by (with_reducible repeat (first | apply Kd.V_alloc | apply Kd.V_drewN | apply Kd.V_drew)); exact Kd.V_mono (Kd.V_far (p := ⟨gb128, 5, none⟩) (Kd.V_far (p := ⟨gb128, 4, none⟩) (Kd.V_far (p := ⟨gb128, 3, none⟩) (Kd.V_far (p := ⟨gb128, 2, none⟩) (Kd.V_far (p := ⟨gb128, 1, none⟩) (Kd.V_far (p := ⟨gb128, 0, none⟩) (Kd.V_mono HO_1.out (fun k_ hk => (⟨hk, hk.2⟩ : _ ∧ k_ ≠ gb128))) (fun _ hk => hk.2) (.string ((rd_T71 l0 x18_1).f0.f0))) (fun _ hk => hk.2) (.int .i64 ((rd_T71 l0 x18_1).f0.f1))) (fun _ hk => hk.2) (.int .i64 ((rd_T71 l0 x18_1).f0.f2))) (fun _ hk => hk.2) (.int .i64 ((rd_T71 l0 x18_1).f0.f3))) (fun _ hk => hk.2) (.int .i64 ((rd_T71 l0 x18_1).f1))) (fun _ hk => hk.2) (.int .i64 ((rd_T71 l0 x18_1).f2))) (fun _ hk => ⟨hk.1.1.1, ⟨hk.1.1.2, hk.1.2⟩⟩)))⟩; replace HO_4 : Aside0 (Kd.N k128 128 w11 w.heap.size (fun k_ => (P1_ k_ ∨ w.heap.size ≤ k_) ∧ k_ ≠ gb128) u4 x4_1) := ⟨(by rw [hw]; exact (by (with_reducible repeat (first | apply Kd.N_alloc | apply Kd.N_drewN | apply Kd.N_drew)); exact Kd.N_mono (Kd.N_far (p := ⟨gb128, 5, none⟩) (Kd.N_far (p := ⟨gb128, 4, none⟩) (Kd.N_far (p := ⟨gb128, 3, none⟩) (Kd.N_far (p := ⟨gb128, 2, none⟩) (Kd.N_far (p := ⟨gb128, 1, none⟩) (Kd.N_far (p := ⟨gb128, 0, none⟩) (Kd.N_mono HO_4.out (fun k_ hk => (⟨hk, hk.2⟩ : _ ∧ k_ ≠ gb128))) (fun _ hk => hk.2) (.string ((rd_T71 l0 x18_1).f0.f0))) (fun _ hk => hk.2) (.int .i64 ((rd_T71 l0 x18_1).f0.f1))) (fun _ hk => hk.2) (.int .i64 ((rd_T71 l0 x18_1).f0.f2))) (fun _ hk => hk.2) (.int .i64 ((rd_T71 l0 x18_1).f0.f3))) (fun _ hk => hk.2) (.int .i64 ((rd_T71 l0 x18_1).f1))) (fun _ hk => hk.2) (.int .i64 ((rd_T71 l0 x18_1).f2))) (fun _ hk => ⟨hk.1.1, hk.1.2⟩)))⟩; replace BK128 : Aside0 (w11.heap[gb128]? = some (.cells #[.string ((rd_T71 l0 x18_1).f0.f0), .int .i64 ((rd_T71 l0 x18_1).f0.f1), .int .i64 ((rd_T71 l0 x18_1).f0.f2), .int .i64 ((rd_T71 l0 x18_1).f0.f3), .int .i64 ((rd_T71 l0 x18_1).f1), .int .i64 ((rd_T71 l0 x18_1).f2)] 71 (0, 0))) := ⟨(by rw [hw]; exact (Zp2 BK128.out))⟩; replace HB : Aside0 (Below w.heap.size w w11) := ⟨(by rw [hw]; exact (Zc1 GE128.out))⟩; clear hw))
       go_loopg [4, 24] k1 (fun kq v4 v24 w' => ∃ (x4_2 : List (S128)) (x24_2 : Int), v24 = .int .i64 x24_2 ∧ Aside0 (QaC.l1 kq l1 x4_2 l0 (l0.length : Int) x18_1 l1 (l1.length : Int) x24_2 ((rd_T71 l0 x18_1).f0.f0) ((rd_T71 l0 x18_1).f0.f1) ((rd_T71 l0 x18_1).f0.f2) ((rd_T71 l0 x18_1).f0.f3) ((rd_T71 l0 x18_1).f1) ((rd_T71 l0 x18_1).f2) = some (r1, r2)) ∧ Aside0 (kq ≤ k1) ∧ Aside0 (Kd.V k128 128 w' w.heap.size (fun k_ => (P1_ k_ ∨ w.heap.size ≤ k_) ∧ some k_ ≠ (v4 : Value).ownBlock ∧ k_ ≠ gb128) (.slice A1 l1.length c1) l1) ∧ Aside0 (Kd.N k128 128 w' w.heap.size (fun k_ => (P1_ k_ ∨ w.heap.size ≤ k_) ∧ k_ ≠ gb128) v4 x4_2) ∧ Aside0 (Kd.V k128 128 w' w.heap.size (fun k_ => (P1_ k_ ∨ w.heap.size ≤ k_) ∧ some k_ ≠ (v4 : Value).ownBlock ∧ k_ ≠ gb128) (.slice A1 l1.length c1) l1) ∧ Aside0 (w'.heap[gb128]? = some (.cells #[.string ((rd_T71 l0 x18_1).f0.f0), .int .i64 ((rd_T71 l0 x18_1).f0.f1), .int .i64 ((rd_T71 l0 x18_1).f0.f2), .int .i64 ((rd_T71 l0 x18_1).f0.f3), .int .i64 ((rd_T71 l0 x18_1).f1), .int .i64 ((rd_T71 l0 x18_1).f2)] 71 (0, 0))) ∧ Aside0 (Below w.heap.size w w'))
       case atStart => exact ⟨(x4_1), (0), (Zs), H', ⟨Nat.le_refl _⟩, ⟨by (with_reducible repeat (first | apply Kd.V_alloc | apply Kd.V_drewN | apply Kd.V_drew)); exact HO_1.out⟩, ⟨by (with_reducible repeat (first | apply Kd.N_alloc | apply Kd.N_drewN | apply Kd.N_drew)); exact HO_4.out⟩, ⟨by (with_reducible repeat (first | apply Kd.V_alloc | apply Kd.V_drewN | apply Kd.V_drew)); exact HO_1.out⟩, ⟨Zu BK128.out⟩, ⟨Zc1 GE128.out⟩⟩
       case round =>
        clear H'
        try clear c1
        try clear p1
        try clear q1
        try clear hx1
        try clear p2
        try clear p3
        try clear c5
        try clear c5b0
        try clear c5b1
        try clear c6
        try clear c6b0
        try clear c7
        try clear c7b0
        try clear c8
        try clear c8b0
        try clear hcz10_0
        try clear hcz10_1
        try clear hcz10_2
        try clear hcz10_3
        try clear hcz10_4
        try clear hcz10_5
        try clear hfz10_0
        try clear hfz10_1
        try clear hfz10_2
        try clear hfz10_3
        try clear hfz10_4
        try clear hfz10_5
        try clear hx127_0
        try clear hx127_1
        try clear hx127_2
        try clear hx127_3
        try clear hx127_4
        try clear hx127_5
        try clear p127
        try clear p2
        try clear p3
        try clear q127
        obtain ⟨x4_2, x24_2, rfl, HA, HK2, HO_1, HO_4, HO_22, BK128, HB⟩ := hrel
        cases gk with
        | zero => exact absurd HA.out (by simp [QaC.l1])
        | succ k2 =>
         have H := HA.out
         clear HA
         simp only [QaC.l1] at H
         by_cases c12 : x24_2 < (l1.length : Int)
         ·rw [if_pos c12] at H
          have c12b0 : decide (x24_2 < (l1.length : Int)) = T := decide_eq_true c12
          clear c12
          (try simp only [c12b0])
          by_cases c13 : 0 ≤ x24_2
          ·rw [if_pos c13] at H
           have c13b0 : decide (0 ≤ x24_2) = T := decide_eq_true c13
           clear c13
           by_cases c14 : x24_2 < (l1.length : Int)
           ·rw [if_pos c14] at H
            have c14b0 : decide (x24_2 < (l1.length : Int)) = T := decide_eq_true c14
            clear c14
            have p129 : 0 ≤ (x24_2 : Int) := Ze
            have q129 : x24_2 < (l1.length : Int) := Ze
            obtain ⟨ad129, A129_4, c129_4, e129, hx129_0, hx129_1, hx129_2, hx129_3, hx129_4, hx129_5, hl129_4, hi129_4⟩ := Qbw (Kd.V_reads' HO_22.out).2.2 x24_2 p129 q129
            cases e129
            obtain ⟨ce129, hce129, hMe129, hcc129⟩ := Kd.V_get HO_22.out z128 x24_2 p129 (by first | exact q129 | exact Ze | (have e_ := (Kd.V_reads' HO_22.out).1; omega))
            obtain ⟨ua129_4, uc129_4, rfl, ul129_4, ge129_4⟩ := Qb7 hMe129
            have hv129_4 := hcc129 4 _ rfl
            rw [QaX _ _ 4 (by omega)] at hv129_4
            replace hv129_4 := Option.some.inj (hv129_4.symm.trans hx129_4)
            injection hv129_4 with hva_ hvn_ hvc_
            rw [hva_] at ge129_4
            rw [hvc_] at ul129_4
            have HL129_4 := Aside0.mk (show Kd.V (Kd.int .i64) 3 _ w.heap.size _ _ ((Qad l1 x24_2).f1) from Kd.V_mk ul129_4 ge129_4)
            clear hva_ hvn_ hvc_ ge129_4 ul129_4
            clear hcc129 hce129
            have HR129_4 := Aside0.mk hi129_4
            have HC129_4 := Aside0.mk hl129_4
            clear hi129_4 hl129_4
            replace p129 := eq_true p129
            replace q129 := eq_true q129
            go_upto_if 32 with (first | ((with_reducible refine QaR (N := 9) rfl ?_); refine Zbx (N := 9) (cs := #[.string (⟨#[]⟩ : ByteArray), .int .i64 0, .int .i64 0, .int .i64 0, .slice none 0 0, .int .i64 0]) (t := 128) ?_; intro gb130 hg w15 hbox hb; have BK130 := Aside0.mk (hbox); have GW130 := Aside0.mk (Zt w hg (Zc1 GE128.out)); have GE130 := GW130; have NB128_130 := Aside0.mk (Zn hg BK128.out); have NB130_128 := Aside0.mk NB128_130.out.symm; replace HO_1 := Aside0.mk (Kd.V_below (Kd.V_elderB (by (with_reducible repeat (first | apply Kd.V_alloc | apply Kd.V_drewN | apply Kd.V_drew)); exact HO_1.out) gb130 (Nat.le_of_eq hg.symm)) hb); replace HO_4 := Aside0.mk (Kd.N_below (Kd.N_elderB (by (with_reducible repeat (first | apply Kd.N_alloc | apply Kd.N_drewN | apply Kd.N_drew)); exact HO_4.out) gb130 (Nat.le_of_eq hg.symm)) hb); replace HO_22 := Aside0.mk (Kd.V_below (Kd.V_elderB (by (with_reducible repeat (first | apply Kd.V_alloc | apply Kd.V_drewN | apply Kd.V_drew)); exact HO_22.out) gb130 (Nat.le_of_eq hg.symm)) hb); replace HL129_4 := Aside0.mk (Kd.V_below (Kd.V_elderB (by (with_reducible repeat (first | apply Kd.V_alloc | apply Kd.V_drewN | apply Kd.V_drew)); exact HL129_4.out) gb130 (Nat.le_of_eq hg.symm)) hb); replace BK128 := Aside0.mk (Zi BK128.out hb); replace HR129_4 := Aside0.mk (Kd.C_below (by repeat (first | (with_reducible exact HR129_4.out) | (with_reducible refine Kd.C_alloc ?_ _) | (with_reducible refine Kd.C_drewN ?_ _) | (with_reducible refine Kd.C_drew ?_) | exact HR129_4.out)) hb); replace HB := Aside0.mk (Qap (Zc1 GE128.out) hb); clear hb hbox hg; have hnb16 := NB130_128.out; have hnc16 := NB128_130.out; obtain ⟨hcz17_0, hfz17_0⟩ := Zy (v := (.string (⟨#[]⟩ : ByteArray))) BK130.out 0; obtain ⟨hcz17_1, hfz17_1⟩ := Zy (v := (.int .i64 0)) BK130.out 1; obtain ⟨hcz17_2, hfz17_2⟩ := Zy (v := (.int .i64 0)) BK130.out 2; obtain ⟨hcz17_3, hfz17_3⟩ := Zy (v := (.int .i64 0)) BK130.out 3; obtain ⟨hcz17_4, hfz17_4⟩ := Zy (v := (.slice none 0 0)) BK130.out 4; obtain ⟨hcz17_5, hfz17_5⟩ := Zy (v := (.int .i64 0)) BK130.out 5) | ((with_reducible refine Qbu (t := 128) (p := 9) rfl ?_); refine Qbn (t := 128) (p := 9) (v := ?vo_w18) (w1 := ((((((w15.setCell ⟨gb130, 0, none⟩ (.string ((Qad l1 x24_2).f0.f0))).setCell ⟨gb130, 1, none⟩ (.int .i64 ((Qad l1 x24_2).f0.f1))).setCell ⟨gb130, 2, none⟩ (.int .i64 ((Qad l1 x24_2).f0.f2))).setCell ⟨gb130, 3, none⟩ (.int .i64 ((Qad l1 x24_2).f0.f3))).setCell ⟨gb130, 4, none⟩ (.slice A129_4 ((Qad l1 x24_2).f1).length c129_4)).setCell ⟨gb130, 5, none⟩ (.int .i64 ((Qad l1 x24_2).f2)))) ?hg ?ho ?hn ?hr ?_; (case ho => rfl); (case hg => rfl); (case hn => rfl); (case hr => first | (exact QbJ (cs := #[.string (⟨#[]⟩ : ByteArray), .int .i64 0, .int .i64 0, .int .i64 0, .slice none 0 0, .int .i64 0]) (seg := [.string ((Qad l1 x24_2).f0.f0), .int .i64 ((Qad l1 x24_2).f0.f1), .int .i64 ((Qad l1 x24_2).f0.f2), .int .i64 ((Qad l1 x24_2).f0.f3), .slice A129_4 ((Qad l1 x24_2).f1).length c129_4, .int .i64 ((Qad l1 x24_2).f2)]) BK130.out rfl (by first | rfl | (go_simp; done)) (by first | rfl | (go_simp; done)) (by rfl) (by first | rfl | kernel_rfl) (by simp) (by first | rfl | simp [Value.oneCell'])) | (go_simp; done) | (go_simp; rfl)); intro w18 hw; replace HO_1 : Aside0 (Kd.V k128 128 w18 w.heap.size (fun k_ => (P1_ k_ ∨ w.heap.size ≤ k_) ∧ some k_ ≠ (u4 : Value).ownBlock ∧ k_ ≠ gb128 ∧ k_ ≠ gb130) (.slice (some ad129) l1.length c1) l1) := ⟨(by rw [hw]; exact (by (with_reducible repeat (first | apply Kd.V_alloc | apply Kd.V_drewN | apply Kd.V_drew)); exact Kd.V_mono (Kd.V_far (p := ⟨gb130, 5, none⟩) (Kd.V_far (p := ⟨gb130, 4, none⟩) (Kd.V_far (p := ⟨gb130, 3, none⟩) (Kd.V_far (p := ⟨gb130, 2, none⟩) (Kd.V_far (p := ⟨gb130, 1, none⟩) (Kd.V_far (p := ⟨gb130, 0, none⟩) (Kd.V_mono HO_1.out (fun k_ hk => (⟨hk, hk.2⟩ : _ ∧ k_ ≠ gb130))) (fun _ hk => hk.2) (.string ((Qad l1 x24_2).f0.f0))) (fun _ hk => hk.2) (.int .i64 ((Qad l1 x24_2).f0.f1))) (fun _ hk => hk.2) (.int .i64 ((Qad l1 x24_2).f0.f2))) (fun _ hk => hk.2) (.int .i64 ((Qad l1 x24_2).f0.f3))) (fun _ hk => hk.2) (.slice A129_4 ((Qad l1 x24_2).f1).length c129_4)) (fun _ hk => hk.2) (.int .i64 ((Qad l1 x24_2).f2))) (fun _ hk => ⟨hk.1.1.1, ⟨hk.1.1.2.1, ⟨hk.1.1.2.2, hk.1.2⟩⟩⟩)))⟩; replace HO_4 : Aside0 (Kd.N k128 128 w18 w.heap.size (fun k_ => (P1_ k_ ∨ w.heap.size ≤ k_) ∧ k_ ≠ gb128 ∧ k_ ≠ gb130) u4 x4_2) := ⟨(by rw [hw]; exact (by (with_reducible repeat (first | apply Kd.N_alloc | apply Kd.N_drewN | apply Kd.N_drew)); exact Kd.N_mono (Kd.N_far (p := ⟨gb130, 5, none⟩) (Kd.N_far (p := ⟨gb130, 4, none⟩) (Kd.N_far (p := ⟨gb130, 3, none⟩) (Kd.N_far (p := ⟨gb130, 2, none⟩) (Kd.N_far (p := ⟨gb130, 1, none⟩) (Kd.N_far (p := ⟨gb130, 0, none⟩) (Kd.N_mono HO_4.out (fun k_ hk => (⟨hk, hk.2⟩ : _ ∧ k_ ≠ gb130))) (fun _ hk => hk.2) (.string ((Qad l1 x24_2).f0.f0))) (fun _ hk => hk.2) (.int .i64 ((Qad l1 x24_2).f0.f1))) (fun _ hk => hk.2) (.int .i64 ((Qad l1 x24_2).f0.f2))) (fun _ hk => hk.2) (.int .i64 ((Qad l1 x24_2).f0.f3))) (fun _ hk => hk.2) (.slice A129_4 ((Qad l1 x24_2).f1).length c129_4)) (fun _ hk => hk.2) (.int .i64 ((Qad l1 x24_2).f2))) (fun _ hk => ⟨hk.1.1.1, ⟨hk.1.1.2, hk.1.2⟩⟩)))⟩; replace HO_22 : Aside0 (Kd.V k128 128 w18 w.heap.size (fun k_ => (P1_ k_ ∨ w.heap.size ≤ k_) ∧ some k_ ≠ (u4 : Value).ownBlock ∧ k_ ≠ gb128 ∧ k_ ≠ gb130) (.slice (some ad129) l1.length c1) l1) := ⟨(by rw [hw]; exact (by (with_reducible repeat (first | apply Kd.V_alloc | apply Kd.V_drewN | apply Kd.V_drew)); exact Kd.V_mono (Kd.V_far (p := ⟨gb130, 5, none⟩) (Kd.V_far (p := ⟨gb130, 4, none⟩) (Kd.V_far (p := ⟨gb130, 3, none⟩) (Kd.V_far (p := ⟨gb130, 2, none⟩) (Kd.V_far (p := ⟨gb130, 1, none⟩) (Kd.V_far (p := ⟨gb130, 0, none⟩) (Kd.V_mono HO_22.out (fun k_ hk => (⟨hk, hk.2⟩ : _ ∧ k_ ≠ gb130))) (fun _ hk => hk.2) (.string ((Qad l1 x24_2).f0.f0))) (fun _ hk => hk.2) (.int .i64 ((Qad l1 x24_2).f0.f1))) (fun _ hk => hk.2) (.int .i64 ((Qad l1 x24_2).f0.f2))) (fun _ hk => hk.2) (.int .i64 ((Qad l1 x24_2).f0.f3))) (fun _ hk => hk.2) (.slice A129_4 ((Qad l1 x24_2).f1).length c129_4)) (fun _ hk => hk.2) (.int .i64 ((Qad l1 x24_2).f2))) (fun _ hk => ⟨hk.1.1.1, ⟨hk.1.1.2.1, ⟨hk.1.1.2.2, hk.1.2⟩⟩⟩)))⟩; replace HL129_4 : Aside0 (Kd.V (Kd.int .i64) 3 w18 w.heap.size (fun k_ => (P1_ k_ ∨ w.heap.size ≤ k_) ∧ some k_ ≠ (u4 : Value).ownBlock ∧ k_ ≠ gb128 ∧ k_ ≠ gb130) (.slice A129_4 ((Qad l1 x24_2).f1).length c129_4) ((Qad l1 x24_2).f1)) := ⟨(by rw [hw]; exact (by (with_reducible repeat (first | apply Kd.V_alloc | apply Kd.V_drewN | apply Kd.V_drew)); exact Kd.V_mono (Kd.V_far (p := ⟨gb130, 5, none⟩) (Kd.V_far (p := ⟨gb130, 4, none⟩) (Kd.V_far (p := ⟨gb130, 3, none⟩) (Kd.V_far (p := ⟨gb130, 2, none⟩) (Kd.V_far (p := ⟨gb130, 1, none⟩) (Kd.V_far (p := ⟨gb130, 0, none⟩) (Kd.V_mono HL129_4.out (fun k_ hk => (⟨hk, hk.2⟩ : _ ∧ k_ ≠ gb130))) (fun _ hk => hk.2) (.string ((Qad l1 x24_2).f0.f0))) (fun _ hk => hk.2) (.int .i64 ((Qad l1 x24_2).f0.f1))) (fun _ hk => hk.2) (.int .i64 ((Qad l1 x24_2).f0.f2))) (fun _ hk => hk.2) (.int .i64 ((Qad l1 x24_2).f0.f3))) (fun _ hk => hk.2) (.slice A129_4 ((Qad l1 x24_2).f1).length c129_4)) (fun _ hk => hk.2) (.int .i64 ((Qad l1 x24_2).f2))) (fun _ hk => ⟨hk.1.1.1, ⟨hk.1.1.2.1, ⟨hk.1.1.2.2, hk.1.2⟩⟩⟩)))⟩; replace BK128 : Aside0 (w18.heap[gb128]? = some (.cells #[.string ((rd_T71 l0 x18_1).f0.f0), .int .i64 ((rd_T71 l0 x18_1).f0.f1), .int .i64 ((rd_T71 l0 x18_1).f0.f2), .int .i64 ((rd_T71 l0 x18_1).f0.f3), .int .i64 ((rd_T71 l0 x18_1).f1), .int .i64 ((rd_T71 l0 x18_1).f2)] 71 (0, 0))) := ⟨(by rw [hw]; exact (Zg6 BK128.out NB128_130.out NB128_130.out NB128_130.out NB128_130.out NB128_130.out NB128_130.out))⟩; replace BK130 : Aside0 (w18.heap[gb130]? = some (.cells #[.string ((Qad l1 x24_2).f0.f0), .int .i64 ((Qad l1 x24_2).f0.f1), .int .i64 ((Qad l1 x24_2).f0.f2), .int .i64 ((Qad l1 x24_2).f0.f3), .slice A129_4 ((Qad l1 x24_2).f1).length c129_4, .int .i64 ((Qad l1 x24_2).f2)] 128 (0, 0))) := ⟨(by rw [hw]; exact (Zp2 BK130.out))⟩; replace HB : Aside0 (Below w.heap.size w w18) := ⟨(by rw [hw]; exact (Zc2 GE128.out GE130.out))⟩; clear hw; obtain ⟨hcz19_0, hfz19_0⟩ := Zy (v := (.string ((Qad l1 x24_2).f0.f0))) BK130.out 0; obtain ⟨hcz19_1, hfz19_1⟩ := Zy (v := (.int .i64 ((Qad l1 x24_2).f0.f1))) BK130.out 1; obtain ⟨hcz19_2, hfz19_2⟩ := Zy (v := (.int .i64 ((Qad l1 x24_2).f0.f2))) BK130.out 2; obtain ⟨hcz19_3, hfz19_3⟩ := Zy (v := (.int .i64 ((Qad l1 x24_2).f0.f3))) BK130.out 3; obtain ⟨hcz19_4, hfz19_4⟩ := Zy (v := (.slice A129_4 ((Qad l1 x24_2).f1).length c129_4)) BK130.out 4; obtain ⟨hcz19_5, hfz19_5⟩ := Zy (v := (.int .i64 ((Qad l1 x24_2).f2))) BK130.out 5; obtain ⟨hcz20_0, hfz20_0⟩ := Zy (v := (.string ((rd_T71 l0 x18_1).f0.f0))) BK128.out 0; obtain ⟨hcz20_1, hfz20_1⟩ := Zy (v := (.int .i64 ((rd_T71 l0 x18_1).f0.f1))) BK128.out 1; obtain ⟨hcz20_2, hfz20_2⟩ := Zy (v := (.int .i64 ((rd_T71 l0 x18_1).f0.f2))) BK128.out 2; obtain ⟨hcz20_3, hfz20_3⟩ := Zy (v := (.int .i64 ((rd_T71 l0 x18_1).f0.f3))) BK128.out 3; obtain ⟨hcz20_4, hfz20_4⟩ := Zy (v := (.int .i64 ((rd_T71 l0 x18_1).f1))) BK128.out 4; obtain ⟨hcz20_5, hfz20_5⟩ := Zy (v := (.int .i64 ((rd_T71 l0 x18_1).f2))) BK128.out 5))
            (try simp only [Act.put, Zj, Zk, Zm])
            by_cases c21 : ((((Qad l1 x24_2).f0.f0).toList) == ((rd_T71 l0 x18_1).f0.f0).toList && (((Qad l1 x24_2).f0.f1) == ((rd_T71 l0 x18_1).f0.f1) && (((Qad l1 x24_2).f0.f2) == ((rd_T71 l0 x18_1).f0.f2) && (((Qad l1 x24_2).f0.f3) == ((rd_T71 l0 x18_1).f0.f3))))) = T
            ·rw [if_pos c21] at H
             have c21b0 : ((((Qad l1 x24_2).f0.f0).toList) == ((rd_T71 l0 x18_1).f0.f0).toList && (((Qad l1 x24_2).f0.f1) == ((rd_T71 l0 x18_1).f0.f1) && (((Qad l1 x24_2).f0.f2) == ((rd_T71 l0 x18_1).f0.f2) && (((Qad l1 x24_2).f0.f3) == ((rd_T71 l0 x18_1).f0.f3))))) = T := c21
             (try (have c21b1 : decide ((((Qad l1 x24_2).f0.f0).toList) = ((rd_T71 l0 x18_1).f0.f0).toList && (((Qad l1 x24_2).f0.f1) == ((rd_T71 l0 x18_1).f0.f1) && (((Qad l1 x24_2).f0.f2) == ((rd_T71 l0 x18_1).f0.f2) && (((Qad l1 x24_2).f0.f3) == ((rd_T71 l0 x18_1).f0.f3))))) = T := by simpa using c21))
             (try (have c21b2 : ((((Qad l1 x24_2).f0.f0).toList) == ((rd_T71 l0 x18_1).f0.f0).toList && (((Qad l1 x24_2).f0.f1) == ((rd_T71 l0 x18_1).f0.f1) && (((Qad l1 x24_2).f0.f2) == ((rd_T71 l0 x18_1).f0.f2) && (((Qad l1 x24_2).f0.f3) == ((rd_T71 l0 x18_1).f0.f3))))) = T := by simpa using c21))
             clear c21
             (try simp only [c21b0])
             by_cases c22 : x4_2.length < 1954687338268
             ·rw [if_pos c22] at H
              have LMc22 := Aside0.mk c22
              clear c22
              obtain ⟨y131, hy131⟩ : ∃ y_ : List (S128), y_ = (x4_2 ++ [(⟨(⟨(Qad l1 x24_2).f0.f0, (Qad l1 x24_2).f0.f1, (Qad l1 x24_2).f0.f2, (Qad l1 x24_2).f0.f3⟩ : S69), (Qad l1 x24_2).f1, (Qad l1 x24_2).f2⟩ : S128)]) := ⟨_, rfl⟩
              replace H : (QaC.l0 k2 l1 y131 l0 (l0.length : Int) (wrap64 (x18_1 + 1))) = some (r1, r2) := by first | (rw [hy131]; with_reducible exact H) | (have H2_ := (Option.bind_some _ _).symm.trans H; rw [hy131]; with_reducible exact H2_) | (have H2_ := (Option.bind_some _ _).symm.trans H; with_reducible exact H2_) | with_reducible exact H | (rw [hy131]; exact H) | exact H
              have Ny131 := Aside0.mk hy131
              clear hy131
              have H' := Aside0.mk H
              clear H
              have hnb23 := NB130_128.out
              have hnc23 := NB128_130.out
              obtain ⟨hcz24_0, hfz24_0⟩ := Zy (v := (.string ((Qad l1 x24_2).f0.f0))) BK130.out 0
              obtain ⟨hcz24_1, hfz24_1⟩ := Zy (v := (.int .i64 ((Qad l1 x24_2).f0.f1))) BK130.out 1
              obtain ⟨hcz24_2, hfz24_2⟩ := Zy (v := (.int .i64 ((Qad l1 x24_2).f0.f2))) BK130.out 2
              obtain ⟨hcz24_3, hfz24_3⟩ := Zy (v := (.int .i64 ((Qad l1 x24_2).f0.f3))) BK130.out 3
              obtain ⟨hcz24_4, hfz24_4⟩ := Zy (v := (.slice A129_4 ((Qad l1 x24_2).f1).length c129_4)) BK130.out 4
              obtain ⟨hcz24_5, hfz24_5⟩ := Zy (v := (.int .i64 ((Qad l1 x24_2).f2))) BK130.out 5
              go_wp2_with (first | ((with_reducible refine Qa8 (b := .append) (xs := #[.tmp 33, .tmp 35]) rfl ?_); at_builtin; refine Kd.N_append k128 (w0 := w) w.heap.size rfl (.tmp 33) (.tmp 35) 38 128 (.agg #[(.string ⟨#[]⟩), (.int .i64 0), (.int .i64 0), (.int .i64 0), (.slice none 0 0), (.int .i64 0)]) 72 rfl Try.underlying38 QdP rfl (by decide) (by omega) u4 x4_2 (⟨(⟨(Qad l1 x24_2).f0.f0, (Qad l1 x24_2).f0.f1, (Qad l1 x24_2).f0.f2, (Qad l1 x24_2).f0.f3⟩ : S69), (Qad l1 x24_2).f1, (Qad l1 x24_2).f2⟩ : S128) [.string ((Qad l1 x24_2).f0.f0), .int .i64 ((Qad l1 x24_2).f0.f1), .int .i64 ((Qad l1 x24_2).f0.f2), .int .i64 ((Qad l1 x24_2).f0.f3), .slice A129_4 ((Qad l1 x24_2).f1).length c129_4, .int .i64 ((Qad l1 x24_2).f2)] (fun k_ => (P1_ k_ ∨ w.heap.size ≤ k_) ∧ k_ ≠ gb128 ∧ k_ ≠ gb130) (fun k_ => ((fun k_ => (P1_ k_ ∨ w.heap.size ≤ k_) ∧ k_ ≠ gb128 ∧ k_ ≠ gb130)) k_ ∧ some k_ ≠ (u4 : Value).ownBlock) rfl rfl ?aP (fun _ hk => hk) ?aF ?aO ?aB ?aS ?aL ?_; (case aP => exact (Qb3 _ _ (⟨(⟨(Qad l1 x24_2).f0.f0, (Qad l1 x24_2).f0.f1, (Qad l1 x24_2).f0.f2, (Qad l1 x24_2).f0.f3⟩ : S69), (Qad l1 x24_2).f1, (Qad l1 x24_2).f2⟩ : S128) (Kd.V_reads' (Kd.V_mono (ok' := (fun k_ => ((fun k_ => (P1_ k_ ∨ w.heap.size ≤ k_) ∧ k_ ≠ gb128 ∧ k_ ≠ gb130)) k_ ∧ some k_ ≠ (u4 : Value).ownBlock)) (HL129_4.out) (fun k_ hk => ⟨⟨hk.1, ⟨hk.2.2.1, hk.2.2.2⟩⟩, hk.2.1⟩))).2.1 (Kd.V_F (Kd.V_mono (ok' := (fun k_ => ((fun k_ => (P1_ k_ ∨ w.heap.size ≤ k_) ∧ k_ ≠ gb128 ∧ k_ ≠ gb130)) k_ ∧ some k_ ≠ (u4 : Value).ownBlock)) (HL129_4.out) (fun k_ hk => ⟨⟨hk.1, ⟨hk.2.2.1, hk.2.2.2⟩⟩, hk.2.1⟩))))); (case aB => exact (Zc2 GE128.out GE130.out)); (case aF => exact (fun k_ hk => ⟨(.inr (Nat.le_trans (Qax (Zc2 GE128.out GE130.out)) hk)), Kd.freshB (g := gb128) (o := .cells #[.string ((rd_T71 l0 x18_1).f0.f0), .int .i64 ((rd_T71 l0 x18_1).f0.f1), .int .i64 ((rd_T71 l0 x18_1).f0.f2), .int .i64 ((rd_T71 l0 x18_1).f0.f3), .int .i64 ((rd_T71 l0 x18_1).f1), .int .i64 ((rd_T71 l0 x18_1).f2)] 71 (0, 0)) (Zu BK128.out) k_ hk, Kd.freshB (g := gb130) (o := .cells #[.string ((Qad l1 x24_2).f0.f0), .int .i64 ((Qad l1 x24_2).f0.f1), .int .i64 ((Qad l1 x24_2).f0.f2), .int .i64 ((Qad l1 x24_2).f0.f3), .slice A129_4 ((Qad l1 x24_2).f1).length c129_4, .int .i64 ((Qad l1 x24_2).f2)] 128 (0, 0)) (Zu BK130.out) k_ hk⟩)); (case aO => exact (by (with_reducible repeat (first | apply Kd.N_alloc | apply Kd.N_drewN | apply Kd.N_drew)); exact HO_4.out)); (case aS => exact (Qax (Zc2 GE128.out GE130.out))); (case aL => have := LMc22.out; omega); intro v132 w25 ho hb hg hat; rw [← Ny131.out] at ho; have HO133 := Aside0.mk (ho); replace HO_1 := Aside0.mk (Kd.V_afterv (ok := (fun k_ => (P1_ k_ ∨ w.heap.size ≤ k_) ∧ k_ ≠ gb128 ∧ k_ ≠ gb130)) (by (with_reducible repeat (first | apply Kd.V_alloc | apply Kd.V_drewN | apply Kd.V_drew)); exact Kd.V_mono HO_1.out (fun _ hk => ⟨⟨hk.1, ⟨hk.2.2.1, hk.2.2.2⟩⟩, hk.2.1⟩)) hg hat); replace HO_22 := Aside0.mk (Kd.V_afterv (ok := (fun k_ => (P1_ k_ ∨ w.heap.size ≤ k_) ∧ k_ ≠ gb128 ∧ k_ ≠ gb130)) (by (with_reducible repeat (first | apply Kd.V_alloc | apply Kd.V_drewN | apply Kd.V_drew)); exact Kd.V_mono HO_22.out (fun _ hk => ⟨⟨hk.1, ⟨hk.2.2.1, hk.2.2.2⟩⟩, hk.2.1⟩)) hg hat); replace BK128 := Aside0.mk (QaY (g := gb128) (o := .cells #[.string ((rd_T71 l0 x18_1).f0.f0), .int .i64 ((rd_T71 l0 x18_1).f0.f1), .int .i64 ((rd_T71 l0 x18_1).f0.f2), .int .i64 ((rd_T71 l0 x18_1).f0.f3), .int .i64 ((rd_T71 l0 x18_1).f1), .int .i64 ((rd_T71 l0 x18_1).f2)] 71 (0, 0)) (Zu BK128.out) hg (Kd.N_ne HO_4.out BK128.out (by decide))); replace HL129_4 := Aside0.mk (Kd.V_afterv (ok := (fun k_ => (P1_ k_ ∨ w.heap.size ≤ k_) ∧ k_ ≠ gb128 ∧ k_ ≠ gb130)) (by (with_reducible repeat (first | apply Kd.V_alloc | apply Kd.V_drewN | apply Kd.V_drew)); exact Kd.V_mono HL129_4.out (fun _ hk => ⟨⟨hk.1, ⟨hk.2.2.1, hk.2.2.2⟩⟩, hk.2.1⟩)) hg hat); replace BK130 := Aside0.mk (QaY (g := gb130) (o := .cells #[.string ((Qad l1 x24_2).f0.f0), .int .i64 ((Qad l1 x24_2).f0.f1), .int .i64 ((Qad l1 x24_2).f0.f2), .int .i64 ((Qad l1 x24_2).f0.f3), .slice A129_4 ((Qad l1 x24_2).f1).length c129_4, .int .i64 ((Qad l1 x24_2).f2)] 128 (0, 0)) (Zu BK130.out) hg (Kd.N_away HO_4.out (fun _ hk => hk.2.2))); replace HB := Aside0.mk (hb); clear HO_4; clear ho hb hg hat))
              go_roundg k2
              case measure => have := HK1.out; have := HK2.out; omega
              case rel => exact ⟨(y131), (wrap64 (x18_1 + 1)), (Zs), H', ⟨by have := HK1.out; have := HK2.out; omega⟩, ⟨by (with_reducible repeat (first | apply Kd.V_alloc | apply Kd.V_drewN | apply Kd.V_drew)); exact Kd.V_mono HO_1.out (fun _ hk => ⟨hk.1.1, hk.2⟩)⟩, ⟨by (with_reducible repeat (first | apply Kd.N_alloc | apply Kd.N_drewN | apply Kd.N_drew)); exact Kd.N_mono HO133.out (fun _ hk => hk.1)⟩, ⟨Zc2 GE128.out GE130.out⟩⟩
             rw [if_neg c22] at H
             exact absurd H (by simp)
            rw [if_neg c21] at H
            have c21b0 : ((((Qad l1 x24_2).f0.f0).toList) == ((rd_T71 l0 x18_1).f0.f0).toList && (((Qad l1 x24_2).f0.f1) == ((rd_T71 l0 x18_1).f0.f1) && (((Qad l1 x24_2).f0.f2) == ((rd_T71 l0 x18_1).f0.f2) && (((Qad l1 x24_2).f0.f3) == ((rd_T71 l0 x18_1).f0.f3))))) = F := by simpa using c21
            (try (have c21b1 : decide ((((Qad l1 x24_2).f0.f0).toList) = ((rd_T71 l0 x18_1).f0.f0).toList && (((Qad l1 x24_2).f0.f1) == ((rd_T71 l0 x18_1).f0.f1) && (((Qad l1 x24_2).f0.f2) == ((rd_T71 l0 x18_1).f0.f2) && (((Qad l1 x24_2).f0.f3) == ((rd_T71 l0 x18_1).f0.f3))))) = F := by simpa using c21))
            (try (have c21b2 : ((((Qad l1 x24_2).f0.f0).toList) == ((rd_T71 l0 x18_1).f0.f0).toList && (((Qad l1 x24_2).f0.f1) == ((rd_T71 l0 x18_1).f0.f1) && (((Qad l1 x24_2).f0.f2) == ((rd_T71 l0 x18_1).f0.f2) && (((Qad l1 x24_2).f0.f3) == ((rd_T71 l0 x18_1).f0.f3))))) = F := by simpa using c21))
            (try (have c21b3 : ¬ ((((Qad l1 x24_2).f0.f0).toList) = ((rd_T71 l0 x18_1).f0.f0).toList && (((Qad l1 x24_2).f0.f1) == ((rd_T71 l0 x18_1).f0.f1) && (((Qad l1 x24_2).f0.f2) == ((rd_T71 l0 x18_1).f0.f2) && (((Qad l1 x24_2).f0.f3) == ((rd_T71 l0 x18_1).f0.f3))))) := by simpa using c21))
            clear c21
            (try simp only [c21b0])
            have H' := Aside0.mk H
            clear H
            go_wp2
            go_roundg k2
            case measure => have := HK1.out; have := HK2.out; omega
            case rel => exact ⟨(x4_2), (wrap64 (x24_2 + 1)), (Zs), H', ⟨by have := HK1.out; have := HK2.out; omega⟩, ⟨by (with_reducible repeat (first | apply Kd.V_alloc | apply Kd.V_drewN | apply Kd.V_drew)); exact Kd.V_mono HO_1.out (fun _ hk => ⟨hk.1, ⟨hk.2.1, hk.2.2.1⟩⟩)⟩, ⟨by (with_reducible repeat (first | apply Kd.N_alloc | apply Kd.N_drewN | apply Kd.N_drew)); exact Kd.N_mono HO_4.out (fun _ hk => ⟨hk.1, hk.2.1⟩)⟩, ⟨by (with_reducible repeat (first | apply Kd.V_alloc | apply Kd.V_drewN | apply Kd.V_drew)); exact Kd.V_mono HO_22.out (fun _ hk => ⟨hk.1, ⟨hk.2.1, hk.2.2.1⟩⟩)⟩, ⟨Zu BK128.out⟩, ⟨Zc2 GE128.out GE130.out⟩⟩
           rw [if_neg c14] at H
           exact absurd H (by simp)
          rw [if_neg c13] at H
          exact absurd H (by simp)
         rw [if_neg c12] at H
         have c12b0 : decide (x24_2 < (l1.length : Int)) = F := decide_eq_false c12
         clear c12
         (try simp only [c12b0])
         simp only [Option.some.injEq, Prod.mk.injEq] at H
         obtain ⟨rfl, rfl⟩ := H
         go_wp2
         go_ret2
         exact ⟨_, Zq, by first | exact Kd.S_nil _ _ _ _ _ | exact Kd.N_nil _ _ _ _ _ | exact Kd.V_nil _ _ _ _ _ | exact Kd.Q_nil _ _ _ _ _ | exact Kd.R_nil _ _ _ _ _, Zc1 GE128.out⟩
      rw [if_neg c8] at H
      exact absurd H (by simp)
     rw [if_neg c7] at H
     exact absurd H (by simp)
    rw [if_neg c6] at H
    have c6b0 : decide (x18_1 < (l0.length : Int)) = F := decide_eq_false c6
    clear c6
    (try simp only [c6b0])
    simp only [Option.some.injEq, Prod.mk.injEq] at H
    obtain ⟨rfl, rfl⟩ := H
    go_wp2
    go_ret2
    exact ⟨_, Zq, by (with_reducible repeat (first | apply Kd.N_alloc | apply Kd.N_drewN | apply Kd.N_drew)); exact HO_4.out, Zb⟩
 rw [if_neg c5] at H
 have c5b0 : (t126 == 0) = F := beq_eq_false_iff_ne.mpr c5
 have c5b1 : (t126 != 0) = T := bne_iff_ne.mpr c5
 (try simp only [c5b0, c5b1])
 simp only [Option.some.injEq, Prod.mk.injEq] at H
 obtain ⟨rfl, rfl⟩ := H
 go_wp2
 go_ret2
 exact ⟨_, Zq, by first | exact Kd.S_nil _ _ _ _ _ | exact Kd.N_nil _ _ _ _ _ | exact Kd.V_nil _ _ _ _ _ | exact Kd.Q_nil _ _ _ _ _ | exact Kd.R_nil _ _ _ _ _, Zb⟩
mutual
def Qak.l0 : Nat → List (S71) → List (S71) → List (S71) → Int → Int → Option ((List (S71)) × Bool)
 | 0, _, _, _, _, _ => none
 | k + 1, x0, x1, x6, x7, x8 => if x8 < (x0.length : Int) then (Qak.l1 k x0 x1 x6 x7 x8) else (Qak.l2 k x1 x6 x7)
def Qak.l1 : Nat → List (S71) → List (S71) → List (S71) → Int → Int → Option ((List (S71)) × Bool)
 | 0, _, _, _, _, _ => none
 | k + 1, x0, x1, x6, x7, x8 => if x7 < (x1.length : Int) then (if 0 ≤ x7 then (if 0 ≤ x8 then (if x8 < (x0.length : Int) then ((QaP.f ((rd_T71 x1 x7).f0.f0) ((rd_T71 x1 x7).f0.f1) ((rd_T71 x1 x7).f0.f2) ((rd_T71 x1 x7).f0.f3) ((rd_T71 x0 x8).f0.f0) ((rd_T71 x0 x8).f0.f1) ((rd_T71 x0 x8).f0.f2) ((rd_T71 x0 x8).f0.f3)).bind fun t175 => (if t175 < 0 then (if x6.length < 2513169434916 then (Qak.l1 k x0 x1 (x6 ++ [(⟨(⟨(rd_T71 x1 x7).f0.f0, (rd_T71 x1 x7).f0.f1, (rd_T71 x1 x7).f0.f2, (rd_T71 x1 x7).f0.f3⟩ : S69), (rd_T71 x1 x7).f1, (rd_T71 x1 x7).f2⟩ : S71)]) (wrap64 (x7 + 1)) x8) else (none)) else (if ((((rd_T71 x1 x7).f0.f0).toList) == (((rd_T71 x0 x8).f0.f0).toList) && (((rd_T71 x1 x7).f0.f1) == ((rd_T71 x0 x8).f0.f1) && (((rd_T71 x1 x7).f0.f2) == ((rd_T71 x0 x8).f0.f2) && (((rd_T71 x1 x7).f0.f3) == ((rd_T71 x0 x8).f0.f3))))) = T then (if x6.length < 2513169434916 then (Qak.l0 k x0 x1 (x6 ++ [(⟨(⟨(rd_T71 x0 x8).f0.f0, (rd_T71 x0 x8).f0.f1, (rd_T71 x0 x8).f0.f2, (rd_T71 x0 x8).f0.f3⟩ : S69), wrap64 (((rd_T71 x0 x8).f1) + ((rd_T71 x1 x7).f1)), wrap64 (((rd_T71 x0 x8).f2) + ((rd_T71 x1 x7).f2))⟩ : S71)]) (wrap64 (x7 + 1)) (wrap64 (x8 + 1))) else (none)) else (if x6.length < 2513169434916 then (Qak.l0 k x0 x1 (x6 ++ [(⟨(⟨(rd_T71 x0 x8).f0.f0, (rd_T71 x0 x8).f0.f1, (rd_T71 x0 x8).f0.f2, (rd_T71 x0 x8).f0.f3⟩ : S69), (rd_T71 x0 x8).f1, (rd_T71 x0 x8).f2⟩ : S71)]) x7 (wrap64 (x8 + 1))) else (none))))) else (none)) else (none)) else (none)) else (if 0 ≤ x8 then (if x8 < (x0.length : Int) then (if x6.length < 2513169434916 then (Qak.l0 k x0 x1 (x6 ++ [(⟨(⟨(rd_T71 x0 x8).f0.f0, (rd_T71 x0 x8).f0.f1, (rd_T71 x0 x8).f0.f2, (rd_T71 x0 x8).f0.f3⟩ : S69), (rd_T71 x0 x8).f1, (rd_T71 x0 x8).f2⟩ : S71)]) x7 (wrap64 (x8 + 1))) else (none)) else (none)) else (none))
def Qak.l2 : Nat → List (S71) → List (S71) → Int → Option ((List (S71)) × Bool)
 | 0, _, _, _ => none
 | k + 1, x1, x6, x7 => if x7 < (x1.length : Int) then (if 0 ≤ x7 then (if x6.length < 2513169434916 then (Qak.l2 k x1 (x6 ++ [(⟨(⟨(rd_T71 x1 x7).f0.f0, (rd_T71 x1 x7).f0.f1, (rd_T71 x1 x7).f0.f2, (rd_T71 x1 x7).f0.f3⟩ : S69), (rd_T71 x1 x7).f1, (rd_T71 x1 x7).f2⟩ : S71)]) (wrap64 (x7 + 1))) else (none)) else (none)) else ((Qal.f k x6).bind fun t200 => (some (x6, (t200 == 0))))
end
def Qak.f (k : Nat) (l0 : List (S71)) (l1 : List (S71)) : Option ((List (S71)) × Bool) := Qak.l0 k l0 l1 ([] : List (S71)) 0 0
theorem Qak.mono_l : ∀ k, (∀ y0 y1 y2 y3 y4, LeO (Qak.l0 k y0 y1 y2 y3 y4) (Qak.l0 (k + 1) y0 y1 y2 y3 y4)) ∧ (∀ y0 y1 y2 y3 y4, LeO (Qak.l1 k y0 y1 y2 y3 y4) (Qak.l1 (k + 1) y0 y1 y2 y3 y4)) ∧ (∀ y0 y1 y2, LeO (Qak.l2 k y0 y1 y2) (Qak.l2 (k + 1) y0 y1 y2))
 | 0 => ⟨fun _ _ _ _ _ r h => by simp [Qak.l0] at h, fun _ _ _ _ _ r h => by simp [Qak.l1] at h, fun _ _ _ r h => by simp [Qak.l2] at h⟩
 | k + 1 => by
  obtain ⟨ih0, ih1, ih2⟩ := Qak.mono_l k
  refine ⟨?_, ?_, ?_⟩
  ·intro y0 y1 y2 y3 y4
   unfold Qak.l0
   exact ZM4 ih0 ih1 ih2 Qal.mono
  ·intro y0 y1 y2 y3 y4
   unfold Qak.l1
   exact ZM4 ih0 ih1 ih2 Qal.mono
  intro y0 y1 y2
  unfold Qak.l2
  exact ZM4 ih0 ih1 ih2 Qal.mono
theorem Qak.mono : ∀ a0 a1 k, LeO (Qak.f k a0 a1) (Qak.f (k + 1) a0 a1) := by
 intro a0 a1 k
 obtain ⟨ih0, ih1, ih2⟩ := Qak.mono_l k
 unfold Qak.f
 exact ZM4 ih0 ih1 ih2 Qal.mono
def Qak.T6 : Bool × List (List Nat × List Nat) := (T, [([], []), ([], []), ([1], [1]), ([0, 2], [0, 2]), ([3], [3]), ([4], [4]), ([4], [4]), ([5, 6, 4], [4, 5, 6]), ([7, 4], [4, 7]), ([8, 4], [4, 8]), ([4], [4]), ([4], [4]), ([10, 11, 4], [4, 10, 11]), ([12, 4], [4, 12]), ([13, 4], [4, 13]), ([9, 14, 4, 4], [4, 9, 14]), ([15, 4], [4, 15]), ([4, 16], [4, 16])])
def Qak.B6 : List Nat := [0, 0, 2, 7, 15, 31, 31, 127, 255, 511, 31, 31, 3103, 7199, 15391, 32767, 65535, 131071]
theorem Qak.tab6 : rtab .any (opsOf Try.f11 6) = Qak.T6 := by kernel_rfl
theorem Qak.bits6 : Qa9 Qak.T6.2 Qak.B6 = T := by kernel_rfl
def Qak.T10 : Bool × List (List Nat × List Nat) := (T, [([], []), ([], []), ([1], [1]), ([0, 2], [0, 2]), ([3], [3]), ([4], [4]), ([4], [4]), ([5, 6, 4], [4, 5, 6]), ([7, 4], [4, 7]), ([8, 4], [4, 8]), ([4], [4]), ([10, 4], [4, 10]), ([9, 11, 4], [4, 9, 11]), ([4, 12], [4, 12])])
def Qak.B10 : List Nat := [0, 0, 2, 7, 15, 31, 31, 127, 255, 511, 31, 1055, 4095, 8191]
theorem Qak.tab10 : rtab .any (opsOf Try.f11 10) = Qak.T10 := by kernel_rfl
theorem Qak.bits10 : Qa9 Qak.T10.2 Qak.B10 = T := by kernel_rfl
def Qak.T11 : Bool × List (List Nat × List Nat) := (T, [([], []), ([0], [0]), ([], []), ([], []), ([2, 3], [2, 3]), ([4], [4]), ([5], [5]), ([1, 6], [1, 6]), ([0, 1, 2, 3, 4, 5, 6, 7], []), ([8, 7, 0, 1, 2, 3, 4, 5, 6, 7], [7, 8])])
def Qak.B11 : List Nat := [0, 1, 0, 0, 12, 28, 60, 127, 255, 511]
theorem Qak.tab11 : rtab .any (opsOf Try.f11 11) = Qak.T11 := by kernel_rfl
theorem Qak.bits11 : Qa9 Qak.T11.2 Qak.B11 = T := by kernel_rfl
def Qak.T12 : Bool × List (List Nat × List Nat) := (T, [([], []), ([0], [0]), ([], []), ([], []), ([2, 3], [2, 3]), ([4], [4]), ([5], [5]), ([1, 6], [1, 6]), ([0, 1, 2, 3, 4, 5, 6, 7], []), ([8, 7, 0, 1, 2, 3, 4, 5, 6, 7], [7, 8])])
def Qak.B12 : List Nat := [0, 1, 0, 0, 12, 28, 60, 127, 255, 511]
theorem Qak.tab12 : rtab .any (opsOf Try.f11 12) = Qak.T12 := by kernel_rfl
theorem Qak.bits12 : Qa9 Qak.T12.2 Qak.B12 = T := by kernel_rfl
theorem Qak.calls (k : Nat) (A0 : Option Addr) (c0 : Nat) (l0 : List (S71)) (A1 : Option Addr) (c1 : Nat) (l1 : List (S71)) (r1 : List (S71)) (r2 : Bool) (w : World) (hr0 : Kd.C k71 w A0 l0.length l0) (hc0 : l0.length ≤ c0) (hr1 : Kd.C k71 w A1 l1.length l1) (hc1 : l1.length ≤ c1) (h : Qak.f k l0 l1 = some (r1, r2)) :
  Calls Try.prog 11 #[.slice A0 l0.length c0, .slice A1 l1.length c1] w fun e w' => ∃ v0_ : Value, e = .returned (.tuple #[v0_, .bool r2]) ∧ Kd.R k71 71 w' w.heap.size (fun _ => True) v0_ r1 ∧ Below w.heap.size w w' := by
 have hu69 := Try.underlying69
 have hu71 := Try.underlying71
 have HR0 := Aside0.mk hr0
 have HC0 := Aside0.mk hc0
 clear hr0 hc0
 have HR1 := Aside0.mk hr1
 have HC1 := Aside0.mk hc1
 clear hr1 hc1
 have HB := Aside0.mk (Below.refl w.heap.size w)
 have H : (Qak.l0 k l0 l1 ([] : List (S71)) 0 0) = some (r1, r2) := h
 clear h
 have H' := Aside0.mk H
 clear H
 go_enter Try.func11, Try.ntmps11
 go_wp2
 go_loopg [6, 7, 8] k (fun kq v6 v7 v8 w' => ∃ (x6_1 : List (S71)) (x7_1 : Int) (x8_1 : Int), v7 = .int .i64 x7_1 ∧ v8 = .int .i64 x8_1 ∧ Aside0 (Qak.l0 kq l0 l1 x6_1 x7_1 x8_1 = some (r1, r2)) ∧ Aside0 (kq ≤ k) ∧ Aside0 (Kd.R k71 71 w' w.heap.size (fun _ => True) v6 x6_1) ∧ Aside0 (Below w.heap.size w w'))
 case atStart => exact ⟨(([] : List (S71))), (0), (0), (Zs), (Zs), H', ⟨Nat.le_refl _⟩, ⟨by first | exact Kd.R_nil _ _ _ _ _ | exact Kd.N_nil _ _ _ _ _ | exact Kd.V_nil _ _ _ _ _ | exact Kd.Q_nil _ _ _ _ _ | exact Kd.S_nil _ _ _ _ _⟩, ⟨Zb⟩⟩
 case round =>
  clear H'
  try clear c1
  try clear p2
  obtain ⟨x6_1, x7_1, x8_1, rfl, rfl, HA, HK1, HO_6, HB⟩ := hrel
  cases gk with
  | zero => exact absurd HA.out (by simp [Qak.l0])
  | succ k1 =>
   have H := HA.out
   clear HA
   simp only [Qak.l0] at H
   by_cases c3 : x8_1 < (l0.length : Int)
   ·rw [if_pos c3] at H
    have c3b0 : decide (x8_1 < (l0.length : Int)) = T := decide_eq_true c3
    clear c3
    (try simp only [c3b0])
    have H' := Aside0.mk H
    clear H
    go_wp2
    go_loopg [6, 7] k1 (fun kq v6 v7 w' => ∃ (x6_2 : List (S71)) (x7_2 : Int), v7 = .int .i64 x7_2 ∧ Aside0 (Qak.l1 kq l0 l1 x6_2 x7_2 x8_1 = some (r1, r2)) ∧ Aside0 (kq ≤ k1) ∧ Aside0 (Kd.R k71 71 w' w.heap.size (fun _ => True) v6 x6_2) ∧ Aside0 (Below w.heap.size w w'))
    case atStart => exact ⟨(x6_1), (x7_1), (Zs), H', ⟨Nat.le_refl _⟩, ⟨Zr HO_6.out⟩, ⟨Zb⟩⟩
    case round =>
     clear H'
     try clear c1
     try clear p2
     try clear c3
     try clear c3b0
     try clear p2
     obtain ⟨x6_2, x7_2, rfl, HA, HK2, HO_6, HB⟩ := hrel
     cases gk with
     | zero => exact absurd HA.out (by simp [Qak.l1])
     | succ k2 =>
      have H := HA.out
      clear HA
      simp only [Qak.l1] at H
      by_cases c4 : x7_2 < (l1.length : Int)
      ·rw [if_pos c4] at H
       have c4b0 : decide (x7_2 < (l1.length : Int)) = T := decide_eq_true c4
       clear c4
       by_cases c5 : 0 ≤ x7_2
       ·rw [if_pos c5] at H
        have c5b0 : decide (0 ≤ x7_2) = T := decide_eq_true c5
        clear c5
        by_cases c6 : 0 ≤ x8_1
        ·rw [if_pos c6] at H
         have c6b0 : decide (0 ≤ x8_1) = T := decide_eq_true c6
         clear c6
         by_cases c7 : x8_1 < (l0.length : Int)
         ·rw [if_pos c7] at H
          have c7b0 : decide (x8_1 < (l0.length : Int)) = T := decide_eq_true c7
          clear c7
          replace H := Option.bind_eq_some_iff.mp H
          obtain ⟨t175, A80, H⟩ := H
          replace H : (if t175 < 0 then (if x6_2.length < 2513169434916 then (Qak.l1 k2 l0 l1 (x6_2 ++ [(⟨(⟨(rd_T71 l1 x7_2).f0.f0, (rd_T71 l1 x7_2).f0.f1, (rd_T71 l1 x7_2).f0.f2, (rd_T71 l1 x7_2).f0.f3⟩ : S69), (rd_T71 l1 x7_2).f1, (rd_T71 l1 x7_2).f2⟩ : S71)]) (wrap64 (x7_2 + 1)) x8_1) else (none)) else (if ((((rd_T71 l1 x7_2).f0.f0).toList) == (((rd_T71 l0 x8_1).f0.f0).toList) && (((rd_T71 l1 x7_2).f0.f1) == ((rd_T71 l0 x8_1).f0.f1) && (((rd_T71 l1 x7_2).f0.f2) == ((rd_T71 l0 x8_1).f0.f2) && (((rd_T71 l1 x7_2).f0.f3) == ((rd_T71 l0 x8_1).f0.f3))))) = T then (if x6_2.length < 2513169434916 then (Qak.l0 k2 l0 l1 (x6_2 ++ [(⟨(⟨(rd_T71 l0 x8_1).f0.f0, (rd_T71 l0 x8_1).f0.f1, (rd_T71 l0 x8_1).f0.f2, (rd_T71 l0 x8_1).f0.f3⟩ : S69), wrap64 (((rd_T71 l0 x8_1).f1) + ((rd_T71 l1 x7_2).f1)), wrap64 (((rd_T71 l0 x8_1).f2) + ((rd_T71 l1 x7_2).f2))⟩ : S71)]) (wrap64 (x7_2 + 1)) (wrap64 (x8_1 + 1))) else (none)) else (if x6_2.length < 2513169434916 then (Qak.l0 k2 l0 l1 (x6_2 ++ [(⟨(⟨(rd_T71 l0 x8_1).f0.f0, (rd_T71 l0 x8_1).f0.f1, (rd_T71 l0 x8_1).f0.f2, (rd_T71 l0 x8_1).f0.f3⟩ : S69), (rd_T71 l0 x8_1).f1, (rd_T71 l0 x8_1).f2⟩ : S71)]) x7_2 (wrap64 (x8_1 + 1))) else (none)))) = some (r1, r2) := H
          have A8 := Aside0.mk A80
          clear A80
          try go_wp2
          replace HO_6 := Aside0.mk (Kd.R_drew HO_6.out)
          replace HB := Aside0.mk (Qab HB.out)
          have p173 : 0 ≤ (x7_2 : Int) := Ze
          have q173 : x7_2 < (l1.length : Int) := Ze
          obtain ⟨ad173, e173, hx173_0, hx173_1, hx173_2, hx173_3, hx173_4, hx173_5⟩ := at_T71 HR1.out x7_2 p173 q173
          have hw173_5 := hx173_5
          have hw173_4 := hx173_4
          have hw173_3 := hx173_3
          have hw173_2 := hx173_2
          have hw173_1 := hx173_1
          have hw173_0 := hx173_0
          cases e173
          replace hx173_0 := Zx HB.out hx173_0
          replace hx173_1 := Zx HB.out hx173_1
          replace hx173_2 := Zx HB.out hx173_2
          replace hx173_3 := Zx HB.out hx173_3
          replace hx173_4 := Zx HB.out hx173_4
          replace hx173_5 := Zx HB.out hx173_5
          replace p173 := eq_true p173
          replace q173 := eq_true q173
          have p174 : 0 ≤ (x8_1 : Int) := Ze
          have q174 : x8_1 < (l0.length : Int) := Ze
          obtain ⟨ad174, e174, hx174_0, hx174_1, hx174_2, hx174_3, hx174_4, hx174_5⟩ := at_T71 HR0.out x8_1 p174 q174
          have hw174_5 := hx174_5
          have hw174_4 := hx174_4
          have hw174_3 := hx174_3
          have hw174_2 := hx174_2
          have hw174_1 := hx174_1
          have hw174_0 := hx174_0
          cases e174
          replace hx174_0 := Zx HB.out hx174_0
          replace hx174_1 := Zx HB.out hx174_1
          replace hx174_2 := Zx HB.out hx174_2
          replace hx174_3 := Zx HB.out hx174_3
          replace hx174_4 := Zx HB.out hx174_4
          replace hx174_5 := Zx HB.out hx174_5
          replace p174 := eq_true p174
          replace q174 := eq_true q174
          refine start_ (n := 18) (S := fun w' => w'.cell? (ad173.add ((x7_2).toNat * 6)) = some (.string ((rd_T71 l1 x7_2).f0.f0)) ∧ w'.cell? ⟨(ad173.add ((x7_2).toNat * 6)).block, (ad173.add ((x7_2).toNat * 6)).off + 1, none⟩ = some (.int .i64 ((rd_T71 l1 x7_2).f0.f1)) ∧ w'.cell? ⟨(ad173.add ((x7_2).toNat * 6)).block, (ad173.add ((x7_2).toNat * 6)).off + 2, none⟩ = some (.int .i64 ((rd_T71 l1 x7_2).f0.f2)) ∧ w'.cell? ⟨(ad173.add ((x7_2).toNat * 6)).block, (ad173.add ((x7_2).toNat * 6)).off + 3, none⟩ = some (.int .i64 ((rd_T71 l1 x7_2).f0.f3)) ∧ w'.cell? ⟨(ad173.add ((x7_2).toNat * 6)).block, (ad173.add ((x7_2).toNat * 6)).off + 4, none⟩ = some (.int .i64 ((rd_T71 l1 x7_2).f1)) ∧ w'.cell? ⟨(ad173.add ((x7_2).toNat * 6)).block, (ad173.add ((x7_2).toNat * 6)).off + 5, none⟩ = some (.int .i64 ((rd_T71 l1 x7_2).f2)) ∧ w'.cell? (ad174.add ((x8_1).toNat * 6)) = some (.string ((rd_T71 l0 x8_1).f0.f0)) ∧ w'.cell? ⟨(ad174.add ((x8_1).toNat * 6)).block, (ad174.add ((x8_1).toNat * 6)).off + 1, none⟩ = some (.int .i64 ((rd_T71 l0 x8_1).f0.f1)) ∧ w'.cell? ⟨(ad174.add ((x8_1).toNat * 6)).block, (ad174.add ((x8_1).toNat * 6)).off + 2, none⟩ = some (.int .i64 ((rd_T71 l0 x8_1).f0.f2)) ∧ w'.cell? ⟨(ad174.add ((x8_1).toNat * 6)).block, (ad174.add ((x8_1).toNat * 6)).off + 3, none⟩ = some (.int .i64 ((rd_T71 l0 x8_1).f0.f3)) ∧ w'.cell? ⟨(ad174.add ((x8_1).toNat * 6)).block, (ad174.add ((x8_1).toNat * 6)).off + 4, none⟩ = some (.int .i64 ((rd_T71 l0 x8_1).f1)) ∧ w'.cell? ⟨(ad174.add ((x8_1).toNat * 6)).block, (ad174.add ((x8_1).toNat * 6)).off + 5, none⟩ = some (.int .i64 ((rd_T71 l0 x8_1).f2))) (ds := []) #[F, F, F, F, F, F, F, F, F, F, F, F, F, F, F, F, F, F] (by kernel_rfl) rfl rfl ⟨((HB.out.cell (World.block_lt_of_cell? w _ hw173_0)).trans hw173_0), ((HB.out.cell (World.block_lt_of_cell? w _ hw173_1)).trans hw173_1), ((HB.out.cell (World.block_lt_of_cell? w _ hw173_2)).trans hw173_2), ((HB.out.cell (World.block_lt_of_cell? w _ hw173_3)).trans hw173_3), ((HB.out.cell (World.block_lt_of_cell? w _ hw173_4)).trans hw173_4), ((HB.out.cell (World.block_lt_of_cell? w _ hw173_5)).trans hw173_5), ((HB.out.cell (World.block_lt_of_cell? w _ hw174_0)).trans hw174_0), ((HB.out.cell (World.block_lt_of_cell? w _ hw174_1)).trans hw174_1), ((HB.out.cell (World.block_lt_of_cell? w _ hw174_2)).trans hw174_2), ((HB.out.cell (World.block_lt_of_cell? w _ hw174_3)).trans hw174_3), ((HB.out.cell (World.block_lt_of_cell? w _ hw174_4)).trans hw174_4), ((HB.out.cell (World.block_lt_of_cell? w _ hw174_5)).trans hw174_5)⟩ (fun hHeld => ?_); refine Qa0 Qak.tab6 Qak.bits6 (fun HT_ HW_ => ?_)
          generalize wr.drew = w9 at HO_6 HB hx173_0 hx173_1 hx173_2 hx173_3 hx173_4 hx173_5 hx174_0 hx174_1 hx174_2 hx174_3 hx174_4 hx174_5 hHeld ⊢
          refine Zsp (i := 0) (N := some 16) (pm 18 1) HT_ ?_
          refine Zsp (i := 1) (N := some 17) (pm 18 2) HT_ ?_
          refine Zsp (i := 2) (N := some 18) (pm 18 3) HT_ ?_
          refine Zsp (i := 3) (N := some 19) (pm 18 4) HT_ ?_
          refine Zsp (i := 4) (N := some 20) (pm 18 5) HT_ ?_
          refine Zsp (i := 5) (N := some 21) (pm 18 6) HT_ ?_
          refine Zsp (i := 6) (N := some 22) (pm 18 7) HT_ ?_
          refine Zsp (i := 7) (N := some 23) (pm 18 8) HT_ ?_
          refine Zsp (i := 8) (N := some 24) (pm 18 9) HT_ ?_
          refine Zsp (i := 10) (N := some 26) #[T, T, T, T, T, T, T, T, T, F, T, F, F, F, F, F, F, F] HT_ ?_
          refine Zsp (i := 11) (N := some 27) #[T, T, T, T, T, T, T, T, T, F, T, T, F, F, F, F, F, F] HT_ ?_
          refine Zsp (i := 12) (N := some 28) #[T, T, T, T, T, T, T, T, T, F, T, T, T, F, F, F, F, F] HT_ ?_
          refine Zsp (i := 13) (N := some 29) #[T, T, T, T, T, T, T, T, T, F, T, T, T, T, F, F, F, F] HT_ ?_
          refine Zst (i := 9) (N := some 25) (pm 18 14) HT_ HW_ hHeld ?_ (hy := by (refine Or.inl ⟨by rfl, ?_⟩; rintro w' ⟨s0, s1, s2, s3, s4, s5, s6, s7, s8, s9, s10, s11⟩; go_simp; with_reducible rfl))
          refine Zst (i := 14) (N := some 30) (pm 18 15) HT_ HW_ hHeld ?_ (hy := by (refine Or.inl ⟨by rfl, ?_⟩; rintro w' ⟨s0, s1, s2, s3, s4, s5, s6, s7, s8, s9, s10, s11⟩; go_simp; with_reducible rfl))
          refine one_ (i := 15) (N := some 31) #[T, T, T, T, T, T, T, T, T, T, T, T, T, T, T, T, F, F] rfl rfl (one_of HT_.out (by kernel_rfl)) (by decide) (fun K hK => ?_)
          refine goes_ Try.func49 (by kernel_rfl) rfl #[.agg #[.string ((rd_T71 l1 x7_2).f0.f0), .int .i64 ((rd_T71 l1 x7_2).f0.f1), .int .i64 ((rd_T71 l1 x7_2).f0.f2), .int .i64 ((rd_T71 l1 x7_2).f0.f3)], .agg #[.string ((rd_T71 l0 x8_1).f0.f0), .int .i64 ((rd_T71 l0 x8_1).f0.f1), .int .i64 ((rd_T71 l0 x8_1).f0.f2), .int .i64 ((rd_T71 l0 x8_1).f0.f3)]] (by rfl) rfl rfl (Zl) ?_
          with_reducible refine (QaP.calls ((rd_T71 l1 x7_2).f0.f0) ((rd_T71 l1 x7_2).f0.f1) ((rd_T71 l1 x7_2).f0.f2) ((rd_T71 l1 x7_2).f0.f3) ((rd_T71 l0 x8_1).f0.f0) ((rd_T71 l0 x8_1).f0.f1) ((rd_T71 l0 x8_1).f0.f2) ((rd_T71 l0 x8_1).f0.f3) t175 _ A8.out).mono ?_
          rintro e w10 ⟨rfl, hb⟩
          refine ⟨_, rfl, ?_⟩
          replace HO_6 := Aside0.mk (Kd.R_below (Zr HO_6.out) hb)
          replace HB := Aside0.mk (Qap (Zb) hb)
          (try clear hb)
          (try clear hb2)
          (try clear hk)
          (try clear hi)
          refine hK.out _ _ ⟨((HB.out.cell (World.block_lt_of_cell? w _ hw173_0)).trans hw173_0), ((HB.out.cell (World.block_lt_of_cell? w _ hw173_1)).trans hw173_1), ((HB.out.cell (World.block_lt_of_cell? w _ hw173_2)).trans hw173_2), ((HB.out.cell (World.block_lt_of_cell? w _ hw173_3)).trans hw173_3), ((HB.out.cell (World.block_lt_of_cell? w _ hw173_4)).trans hw173_4), ((HB.out.cell (World.block_lt_of_cell? w _ hw173_5)).trans hw173_5), ((HB.out.cell (World.block_lt_of_cell? w _ hw174_0)).trans hw174_0), ((HB.out.cell (World.block_lt_of_cell? w _ hw174_1)).trans hw174_1), ((HB.out.cell (World.block_lt_of_cell? w _ hw174_2)).trans hw174_2), ((HB.out.cell (World.block_lt_of_cell? w _ hw174_3)).trans hw174_3), ((HB.out.cell (World.block_lt_of_cell? w _ hw174_4)).trans hw174_4), ((HB.out.cell (World.block_lt_of_cell? w _ hw174_5)).trans hw174_5)⟩ (fun hHeld => ?_)
          clear hK K
          refine norm_ (a' := ?_) ?_ ?_
          rotate_left
          ·show Act.put _ (some 31) _ = _
           simp only [Act.put, Zj, Zk, Zm, i64_w, i32_w]
           rfl
          refine Zsp (i := 16) (N := some 32) (pm 18 17) HT_ ?_
          refine Zsp (i := 17) (N := some 33) (pm 18 18) HT_ ?_
          refine done_ (Qa7 HT_.out (by kernel_rfl)) ?_
          go_upto_if 33 with (fail)
          by_cases c11 : t175 < 0
          ·rw [if_pos c11] at H
           have c11b0 : decide (t175 < 0) = T := decide_eq_true c11
           clear c11
           (try simp only [c11b0])
           by_cases c12 : x6_2.length < 2513169434916
           ·rw [if_pos c12] at H
            have LMc12 := Aside0.mk c12
            clear c12
            obtain ⟨y177, hy177⟩ : ∃ y_ : List (S71), y_ = (x6_2 ++ [(⟨(⟨(rd_T71 l1 x7_2).f0.f0, (rd_T71 l1 x7_2).f0.f1, (rd_T71 l1 x7_2).f0.f2, (rd_T71 l1 x7_2).f0.f3⟩ : S69), (rd_T71 l1 x7_2).f1, (rd_T71 l1 x7_2).f2⟩ : S71)]) := ⟨_, rfl⟩
            replace H : (Qak.l1 k2 l0 l1 y177 (wrap64 (x7_2 + 1)) x8_1) = some (r1, r2) := by first | (rw [hy177]; with_reducible exact H) | (have H2_ := (Option.bind_some _ _).symm.trans H; rw [hy177]; with_reducible exact H2_) | (have H2_ := (Option.bind_some _ _).symm.trans H; with_reducible exact H2_) | with_reducible exact H | (rw [hy177]; exact H) | exact H
            have Ny177 := Aside0.mk hy177
            clear hy177
            have H' := Aside0.mk H
            clear H
            have p176 : 0 ≤ (x7_2 : Int) := Ze
            have q176 : x7_2 < (l1.length : Int) := Ze
            obtain ⟨ad176, e176, hx176_0, hx176_1, hx176_2, hx176_3, hx176_4, hx176_5⟩ := at_T71 HR1.out x7_2 p176 q176
            obtain rfl : ad173 = ad176 := (by injection e176)
            replace hx176_0 := Zx HB.out hx176_0
            replace hx176_1 := Zx HB.out hx176_1
            replace hx176_2 := Zx HB.out hx176_2
            replace hx176_3 := Zx HB.out hx176_3
            replace hx176_4 := Zx HB.out hx176_4
            replace hx176_5 := Zx HB.out hx176_5
            replace p176 := eq_true p176
            replace q176 := eq_true q176
            go_wp2_with (first | ((with_reducible refine Qa8 (b := .append) (xs := #[.tmp 34, .tmp 39]) rfl ?_); at_builtin; refine Kd.R_append k71 (w0 := w) w.heap.size rfl (.tmp 34) (.tmp 39) 22 71 (.agg #[(.string ⟨#[]⟩), (.int .i64 0), (.int .i64 0), (.int .i64 0), (.int .i64 0), (.int .i64 0)]) 56 rfl Try.underlying22 info71 rfl (by decide) (by omega) u6 x6_2 (⟨(⟨(rd_T71 l1 x7_2).f0.f0, (rd_T71 l1 x7_2).f0.f1, (rd_T71 l1 x7_2).f0.f2, (rd_T71 l1 x7_2).f0.f3⟩ : S69), (rd_T71 l1 x7_2).f1, (rd_T71 l1 x7_2).f2⟩ : S71) [.string ((rd_T71 l1 x7_2).f0.f0), .int .i64 ((rd_T71 l1 x7_2).f0.f1), .int .i64 ((rd_T71 l1 x7_2).f0.f2), .int .i64 ((rd_T71 l1 x7_2).f0.f3), .int .i64 ((rd_T71 l1 x7_2).f1), .int .i64 ((rd_T71 l1 x7_2).f2)] (fun _ => True) (fun _ => False) rfl rfl ?aP (fun _ hk => hk.elim) ?aF ?aO ?aB ?aS ?aL ?_; (case aP => exact Qbk _ _ _ (⟨(⟨(rd_T71 l1 x7_2).f0.f0, (rd_T71 l1 x7_2).f0.f1, (rd_T71 l1 x7_2).f0.f2, (rd_T71 l1 x7_2).f0.f3⟩ : S69), (rd_T71 l1 x7_2).f1, (rd_T71 l1 x7_2).f2⟩ : S71)); (case aB => exact (Zb)); (case aF => exact (fun _ _ => trivial)); (case aO => exact (Zr HO_6.out)); (case aS => exact (Qax (Zb))); (case aL => have := LMc12.out; omega); intro v178 w13 ho hb hg hat; rw [← Ny177.out] at ho; have HO179 := Aside0.mk (ho); replace HB := Aside0.mk (hb); clear HO_6; clear ho hb hg hat))
            go_roundg k2
            case measure => have := HK1.out; have := HK2.out; omega
            case rel => exact ⟨(y177), (wrap64 (x7_2 + 1)), (Zs), H', ⟨by have := HK1.out; have := HK2.out; omega⟩, ⟨Zr HO179.out⟩, ⟨Zb⟩⟩
           rw [if_neg c12] at H
           exact absurd H (by simp)
          rw [if_neg c11] at H
          have c11b0 : decide (t175 < 0) = F := decide_eq_false c11
          clear c11
          (try simp only [c11b0])
          have p180 : 0 ≤ (x8_1 : Int) := Ze
          have q180 : x8_1 < (l0.length : Int) := Ze
          obtain ⟨ad180, e180, hx180_0, hx180_1, hx180_2, hx180_3, hx180_4, hx180_5⟩ := at_T71 HR0.out x8_1 p180 q180
          obtain rfl : ad174 = ad180 := (by injection e180)
          replace hx180_0 := Zx HB.out hx180_0
          replace hx180_1 := Zx HB.out hx180_1
          replace hx180_2 := Zx HB.out hx180_2
          replace hx180_3 := Zx HB.out hx180_3
          replace hx180_4 := Zx HB.out hx180_4
          replace hx180_5 := Zx HB.out hx180_5
          replace p180 := eq_true p180
          replace q180 := eq_true q180
          try go_wp2_with (first | ((with_reducible refine QaR (N := 9) rfl ?_); refine Zbx (N := 9) (cs := #[.string (⟨#[]⟩ : ByteArray), .int .i64 0, .int .i64 0, .int .i64 0, .int .i64 0, .int .i64 0]) (t := 71) ?_; intro gb181 hg w14 hbox hb; have BK181 := Aside0.mk (hbox); have GW181 := Aside0.mk (Zt w hg (Zb)); have GE181 := GW181; replace HO_6 := Aside0.mk (Kd.R_below (Kd.R_elderB (Zr HO_6.out) gb181 (Nat.le_of_eq hg.symm)) hb); replace HB := Aside0.mk (Qap (Zb) hb); clear hb hbox hg; obtain ⟨hcz15_0, hfz15_0⟩ := Zy (v := (.string (⟨#[]⟩ : ByteArray))) BK181.out 0; obtain ⟨hcz15_1, hfz15_1⟩ := Zy (v := (.int .i64 0)) BK181.out 1; obtain ⟨hcz15_2, hfz15_2⟩ := Zy (v := (.int .i64 0)) BK181.out 2; obtain ⟨hcz15_3, hfz15_3⟩ := Zy (v := (.int .i64 0)) BK181.out 3; obtain ⟨hcz15_4, hfz15_4⟩ := Zy (v := (.int .i64 0)) BK181.out 4; obtain ⟨hcz15_5, hfz15_5⟩ := Zy (v := (.int .i64 0)) BK181.out 5))
          have n0_ : Aside0 (Kd.R k71 71 ((((((w14.setCell ⟨gb181, 0, none⟩ (.string ((rd_T71 l0 x8_1).f0.f0))).setCell ⟨gb181, 1, none⟩ (.int .i64 ((rd_T71 l0 x8_1).f0.f1))).setCell ⟨gb181, 2, none⟩ (.int .i64 ((rd_T71 l0 x8_1).f0.f2))).setCell ⟨gb181, 3, none⟩ (.int .i64 ((rd_T71 l0 x8_1).f0.f3))).setCell ⟨gb181, 4, none⟩ (.int .i64 ((rd_T71 l0 x8_1).f1))).setCell ⟨gb181, 5, none⟩ (.int .i64 ((rd_T71 l0 x8_1).f2))) w.heap.size (fun k_ => k_ ≠ gb181) u6 x6_2) := ⟨by (with_reducible repeat (first | apply Kd.R_alloc | apply Kd.R_drewN | apply Kd.R_drew)); exact Kd.R_mono (Kd.R_far (p := ⟨gb181, 5, none⟩) (Kd.R_far (p := ⟨gb181, 4, none⟩) (Kd.R_far (p := ⟨gb181, 3, none⟩) (Kd.R_far (p := ⟨gb181, 2, none⟩) (Kd.R_far (p := ⟨gb181, 1, none⟩) (Kd.R_far (p := ⟨gb181, 0, none⟩) (Kd.R_mono HO_6.out (fun k_ hk => (⟨hk, hk.2⟩ : _ ∧ k_ ≠ gb181))) (fun _ hk => hk.2) (.string ((rd_T71 l0 x8_1).f0.f0))) (fun _ hk => hk.2) (.int .i64 ((rd_T71 l0 x8_1).f0.f1))) (fun _ hk => hk.2) (.int .i64 ((rd_T71 l0 x8_1).f0.f2))) (fun _ hk => hk.2) (.int .i64 ((rd_T71 l0 x8_1).f0.f3))) (fun _ hk => hk.2) (.int .i64 ((rd_T71 l0 x8_1).f1))) (fun _ hk => hk.2) (.int .i64 ((rd_T71 l0 x8_1).f2))) (fun _ hk => hk.1.2)⟩
          have n1_ : Aside0 (((((((w14.setCell ⟨gb181, 0, none⟩ (.string ((rd_T71 l0 x8_1).f0.f0))).setCell ⟨gb181, 1, none⟩ (.int .i64 ((rd_T71 l0 x8_1).f0.f1))).setCell ⟨gb181, 2, none⟩ (.int .i64 ((rd_T71 l0 x8_1).f0.f2))).setCell ⟨gb181, 3, none⟩ (.int .i64 ((rd_T71 l0 x8_1).f0.f3))).setCell ⟨gb181, 4, none⟩ (.int .i64 ((rd_T71 l0 x8_1).f1))).setCell ⟨gb181, 5, none⟩ (.int .i64 ((rd_T71 l0 x8_1).f2))).heap[gb181]? = some (.cells #[.string ((rd_T71 l0 x8_1).f0.f0), .int .i64 ((rd_T71 l0 x8_1).f0.f1), .int .i64 ((rd_T71 l0 x8_1).f0.f2), .int .i64 ((rd_T71 l0 x8_1).f0.f3), .int .i64 ((rd_T71 l0 x8_1).f1), .int .i64 ((rd_T71 l0 x8_1).f2)] 71 (0, 0))) := ⟨Zp2 BK181.out⟩
          have n2_ : Aside0 (Below w.heap.size w ((((((w14.setCell ⟨gb181, 0, none⟩ (.string ((rd_T71 l0 x8_1).f0.f0))).setCell ⟨gb181, 1, none⟩ (.int .i64 ((rd_T71 l0 x8_1).f0.f1))).setCell ⟨gb181, 2, none⟩ (.int .i64 ((rd_T71 l0 x8_1).f0.f2))).setCell ⟨gb181, 3, none⟩ (.int .i64 ((rd_T71 l0 x8_1).f0.f3))).setCell ⟨gb181, 4, none⟩ (.int .i64 ((rd_T71 l0 x8_1).f1))).setCell ⟨gb181, 5, none⟩ (.int .i64 ((rd_T71 l0 x8_1).f2)))) := ⟨Zc1 GE181.out⟩
          (try clear HO_6)
          (try clear BK181)
          (try clear HB)
          generalize ((((((w14.setCell ⟨gb181, 0, none⟩ (.string ((rd_T71 l0 x8_1).f0.f0))).setCell ⟨gb181, 1, none⟩ (.int .i64 ((rd_T71 l0 x8_1).f0.f1))).setCell ⟨gb181, 2, none⟩ (.int .i64 ((rd_T71 l0 x8_1).f0.f2))).setCell ⟨gb181, 3, none⟩ (.int .i64 ((rd_T71 l0 x8_1).f0.f3))).setCell ⟨gb181, 4, none⟩ (.int .i64 ((rd_T71 l0 x8_1).f1))).setCell ⟨gb181, 5, none⟩ (.int .i64 ((rd_T71 l0 x8_1).f2))) = w16 at n0_ n1_ n2_ ⊢
          have HO_6 := n0_
          have BK181 := n1_
          have HB := n2_
          clear n0_ n1_ n2_
          replace HO_6 := Aside0.mk (Kd.R_drew HO_6.out)
          replace BK181 := Aside0.mk (Qag BK181.out)
          replace HB := Aside0.mk (Qab HB.out)
          have p182 : 0 ≤ (x7_2 : Int) := Ze
          have q182 : x7_2 < (l1.length : Int) := Ze
          obtain ⟨ad182, e182, hx182_0, hx182_1, hx182_2, hx182_3, hx182_4, hx182_5⟩ := at_T71 HR1.out x7_2 p182 q182
          have hw182_5 := hx182_5
          have hw182_4 := hx182_4
          have hw182_3 := hx182_3
          have hw182_2 := hx182_2
          have hw182_1 := hx182_1
          have hw182_0 := hx182_0
          obtain rfl : ad173 = ad182 := (by injection e182)
          replace hx182_0 := Zx HB.out hx182_0
          replace hx182_1 := Zx HB.out hx182_1
          replace hx182_2 := Zx HB.out hx182_2
          replace hx182_3 := Zx HB.out hx182_3
          replace hx182_4 := Zx HB.out hx182_4
          replace hx182_5 := Zx HB.out hx182_5
          replace p182 := eq_true p182
          replace q182 := eq_true q182
          refine start_ (n := 14) (S := fun w' => w'.cell? ⟨gb181, 0, none⟩ = some (.string ((rd_T71 l0 x8_1).f0.f0)) ∧ w'.cell? ⟨gb181, 1, none⟩ = some (.int .i64 ((rd_T71 l0 x8_1).f0.f1)) ∧ w'.cell? ⟨gb181, 2, none⟩ = some (.int .i64 ((rd_T71 l0 x8_1).f0.f2)) ∧ w'.cell? ⟨gb181, 3, none⟩ = some (.int .i64 ((rd_T71 l0 x8_1).f0.f3)) ∧ w'.cell? ⟨gb181, 4, none⟩ = some (.int .i64 ((rd_T71 l0 x8_1).f1)) ∧ w'.cell? ⟨gb181, 5, none⟩ = some (.int .i64 ((rd_T71 l0 x8_1).f2)) ∧ w'.cell? (ad173.add ((x7_2).toNat * 6)) = some (.string ((rd_T71 l1 x7_2).f0.f0)) ∧ w'.cell? ⟨(ad173.add ((x7_2).toNat * 6)).block, (ad173.add ((x7_2).toNat * 6)).off + 1, none⟩ = some (.int .i64 ((rd_T71 l1 x7_2).f0.f1)) ∧ w'.cell? ⟨(ad173.add ((x7_2).toNat * 6)).block, (ad173.add ((x7_2).toNat * 6)).off + 2, none⟩ = some (.int .i64 ((rd_T71 l1 x7_2).f0.f2)) ∧ w'.cell? ⟨(ad173.add ((x7_2).toNat * 6)).block, (ad173.add ((x7_2).toNat * 6)).off + 3, none⟩ = some (.int .i64 ((rd_T71 l1 x7_2).f0.f3)) ∧ w'.cell? ⟨(ad173.add ((x7_2).toNat * 6)).block, (ad173.add ((x7_2).toNat * 6)).off + 4, none⟩ = some (.int .i64 ((rd_T71 l1 x7_2).f1)) ∧ w'.cell? ⟨(ad173.add ((x7_2).toNat * 6)).block, (ad173.add ((x7_2).toNat * 6)).off + 5, none⟩ = some (.int .i64 ((rd_T71 l1 x7_2).f2))) (ds := []) #[F, F, F, F, F, F, F, F, F, F, F, F, F, F] (by kernel_rfl) rfl rfl ⟨(Qah BK181.out 0).trans rfl, (Qah BK181.out 1).trans rfl, (Qah BK181.out 2).trans rfl, (Qah BK181.out 3).trans rfl, (Qah BK181.out 4).trans rfl, (Qah BK181.out 5).trans rfl, ((HB.out.cell (World.block_lt_of_cell? w _ hw182_0)).trans hw182_0), ((HB.out.cell (World.block_lt_of_cell? w _ hw182_1)).trans hw182_1), ((HB.out.cell (World.block_lt_of_cell? w _ hw182_2)).trans hw182_2), ((HB.out.cell (World.block_lt_of_cell? w _ hw182_3)).trans hw182_3), ((HB.out.cell (World.block_lt_of_cell? w _ hw182_4)).trans hw182_4), ((HB.out.cell (World.block_lt_of_cell? w _ hw182_5)).trans hw182_5)⟩ (fun hHeld => ?_); refine Qa0 Qak.tab10 Qak.bits10 (fun HT_ HW_ => ?_)
          generalize w16.drew = w17 at HO_6 BK181 HB hx182_0 hx182_1 hx182_2 hx182_3 hx182_4 hx182_5 hHeld ⊢
          refine Zsp (i := 0) (N := some 47) (pm 14 1) HT_ ?_
          refine Zsp (i := 1) (N := some 48) (pm 14 2) HT_ ?_
          refine Zsp (i := 2) (N := some 49) (pm 14 3) HT_ ?_
          refine Zsp (i := 3) (N := some 50) (pm 14 4) HT_ ?_
          refine Zsp (i := 4) (N := some 51) (pm 14 5) HT_ ?_
          refine Zsp (i := 5) (N := some 52) (pm 14 6) HT_ ?_
          refine Zsp (i := 6) (N := some 53) (pm 14 7) HT_ ?_
          refine Zsp (i := 7) (N := some 54) (pm 14 8) HT_ ?_
          refine Zsp (i := 8) (N := some 55) (pm 14 9) HT_ ?_
          refine Zsp (i := 10) (N := some 57) #[T, T, T, T, T, T, T, T, T, F, T, F, F, F] HT_ ?_
          refine Zst (i := 9) (N := some 56) (pm 14 11) HT_ HW_ hHeld ?_ (hy := by (refine Or.inl ⟨by rfl, ?_⟩; rintro w' ⟨s0, s1, s2, s3, s4, s5, s6, s7, s8, s9, s10, s11⟩; go_simp; with_reducible rfl))
          refine Zst (i := 11) (N := some 58) (pm 14 12) HT_ HW_ hHeld ?_ (hy := by (refine Or.inl ⟨by rfl, ?_⟩; rintro w' ⟨s0, s1, s2, s3, s4, s5, s6, s7, s8, s9, s10, s11⟩; go_simp; with_reducible rfl))
          refine Zsp (i := 12) (N := some 59) (pm 14 13) HT_ ?_
          refine Zsp (i := 13) (N := some 60) (pm 14 14) HT_ ?_
          refine done_ (Qa7 HT_.out (by kernel_rfl)) ?_
          go_upto_if 60 with (fail)
          by_cases c18 : ((((rd_T71 l1 x7_2).f0.f0).toList) == (((rd_T71 l0 x8_1).f0.f0).toList) && (((rd_T71 l1 x7_2).f0.f1) == ((rd_T71 l0 x8_1).f0.f1) && (((rd_T71 l1 x7_2).f0.f2) == ((rd_T71 l0 x8_1).f0.f2) && (((rd_T71 l1 x7_2).f0.f3) == ((rd_T71 l0 x8_1).f0.f3))))) = T
          ·rw [if_pos c18] at H
           have c18b0 : ((((rd_T71 l1 x7_2).f0.f0).toList) == (((rd_T71 l0 x8_1).f0.f0).toList) && (((rd_T71 l1 x7_2).f0.f1) == ((rd_T71 l0 x8_1).f0.f1) && (((rd_T71 l1 x7_2).f0.f2) == ((rd_T71 l0 x8_1).f0.f2) && (((rd_T71 l1 x7_2).f0.f3) == ((rd_T71 l0 x8_1).f0.f3))))) = T := c18
           (try (have c18b1 : decide ((((rd_T71 l1 x7_2).f0.f0).toList) = (((rd_T71 l0 x8_1).f0.f0).toList) && (((rd_T71 l1 x7_2).f0.f1) == ((rd_T71 l0 x8_1).f0.f1) && (((rd_T71 l1 x7_2).f0.f2) == ((rd_T71 l0 x8_1).f0.f2) && (((rd_T71 l1 x7_2).f0.f3) == ((rd_T71 l0 x8_1).f0.f3))))) = T := by simpa using c18))
           (try (have c18b2 : ((((rd_T71 l1 x7_2).f0.f0).toList) == (((rd_T71 l0 x8_1).f0.f0).toList) && (((rd_T71 l1 x7_2).f0.f1) == ((rd_T71 l0 x8_1).f0.f1) && (((rd_T71 l1 x7_2).f0.f2) == ((rd_T71 l0 x8_1).f0.f2) && (((rd_T71 l1 x7_2).f0.f3) == ((rd_T71 l0 x8_1).f0.f3))))) = T := by simpa using c18))
           clear c18
           (try simp only [c18b0])
           by_cases c19 : x6_2.length < 2513169434916
           ·rw [if_pos c19] at H
            have LMc19 := Aside0.mk c19
            clear c19
            obtain ⟨y185, hy185⟩ : ∃ y_ : List (S71), y_ = (x6_2 ++ [(⟨(⟨(rd_T71 l0 x8_1).f0.f0, (rd_T71 l0 x8_1).f0.f1, (rd_T71 l0 x8_1).f0.f2, (rd_T71 l0 x8_1).f0.f3⟩ : S69), wrap64 (((rd_T71 l0 x8_1).f1) + ((rd_T71 l1 x7_2).f1)), wrap64 (((rd_T71 l0 x8_1).f2) + ((rd_T71 l1 x7_2).f2))⟩ : S71)]) := ⟨_, rfl⟩
            replace H : (Qak.l0 k2 l0 l1 y185 (wrap64 (x7_2 + 1)) (wrap64 (x8_1 + 1))) = some (r1, r2) := by first | (rw [hy185]; with_reducible exact H) | (have H2_ := (Option.bind_some _ _).symm.trans H; rw [hy185]; with_reducible exact H2_) | (have H2_ := (Option.bind_some _ _).symm.trans H; with_reducible exact H2_) | with_reducible exact H | (rw [hy185]; exact H) | exact H
            have Ny185 := Aside0.mk hy185
            clear hy185
            have H' := Aside0.mk H
            clear H
            try go_wp2
            replace HO_6 := Aside0.mk (Kd.R_drew HO_6.out)
            replace BK181 := Aside0.mk (Qag BK181.out)
            replace HB := Aside0.mk (Qab HB.out)
            have p183 : 0 ≤ (x7_2 : Int) := Ze
            have q183 : x7_2 < (l1.length : Int) := Ze
            obtain ⟨ad183, e183, hx183_0, hx183_1, hx183_2, hx183_3, hx183_4, hx183_5⟩ := at_T71 HR1.out x7_2 p183 q183
            have hw183_5 := hx183_5
            have hw183_4 := hx183_4
            have hw183_3 := hx183_3
            have hw183_2 := hx183_2
            have hw183_1 := hx183_1
            have hw183_0 := hx183_0
            obtain rfl : ad173 = ad183 := (by injection e183)
            replace hx183_0 := Zx HB.out hx183_0
            replace hx183_1 := Zx HB.out hx183_1
            replace hx183_2 := Zx HB.out hx183_2
            replace hx183_3 := Zx HB.out hx183_3
            replace hx183_4 := Zx HB.out hx183_4
            replace hx183_5 := Zx HB.out hx183_5
            replace p183 := eq_true p183
            replace q183 := eq_true q183
            refine start_ (n := 10) (S := fun w' => w'.cell? ⟨gb181, 0, none⟩ = some (.string ((rd_T71 l0 x8_1).f0.f0)) ∧ w'.cell? ⟨gb181, 1, none⟩ = some (.int .i64 ((rd_T71 l0 x8_1).f0.f1)) ∧ w'.cell? ⟨gb181, 2, none⟩ = some (.int .i64 ((rd_T71 l0 x8_1).f0.f2)) ∧ w'.cell? ⟨gb181, 3, none⟩ = some (.int .i64 ((rd_T71 l0 x8_1).f0.f3)) ∧ w'.cell? ⟨gb181, 4, none⟩ = some (.int .i64 ((rd_T71 l0 x8_1).f1)) ∧ w'.cell? ⟨gb181, 5, none⟩ = some (.int .i64 ((rd_T71 l0 x8_1).f2)) ∧ w'.cell? (ad173.add ((x7_2).toNat * 6)) = some (.string ((rd_T71 l1 x7_2).f0.f0)) ∧ w'.cell? ⟨(ad173.add ((x7_2).toNat * 6)).block, (ad173.add ((x7_2).toNat * 6)).off + 1, none⟩ = some (.int .i64 ((rd_T71 l1 x7_2).f0.f1)) ∧ w'.cell? ⟨(ad173.add ((x7_2).toNat * 6)).block, (ad173.add ((x7_2).toNat * 6)).off + 2, none⟩ = some (.int .i64 ((rd_T71 l1 x7_2).f0.f2)) ∧ w'.cell? ⟨(ad173.add ((x7_2).toNat * 6)).block, (ad173.add ((x7_2).toNat * 6)).off + 3, none⟩ = some (.int .i64 ((rd_T71 l1 x7_2).f0.f3)) ∧ w'.cell? ⟨(ad173.add ((x7_2).toNat * 6)).block, (ad173.add ((x7_2).toNat * 6)).off + 4, none⟩ = some (.int .i64 ((rd_T71 l1 x7_2).f1)) ∧ w'.cell? ⟨(ad173.add ((x7_2).toNat * 6)).block, (ad173.add ((x7_2).toNat * 6)).off + 5, none⟩ = some (.int .i64 ((rd_T71 l1 x7_2).f2))) (ds := [9]) #[F, F, F, F, F, F, F, F, F, F] (by kernel_rfl) rfl rfl ⟨(Qah BK181.out 0).trans rfl, (Qah BK181.out 1).trans rfl, (Qah BK181.out 2).trans rfl, (Qah BK181.out 3).trans rfl, (Qah BK181.out 4).trans rfl, (Qah BK181.out 5).trans rfl, ((HB.out.cell (World.block_lt_of_cell? w _ hw183_0)).trans hw183_0), ((HB.out.cell (World.block_lt_of_cell? w _ hw183_1)).trans hw183_1), ((HB.out.cell (World.block_lt_of_cell? w _ hw183_2)).trans hw183_2), ((HB.out.cell (World.block_lt_of_cell? w _ hw183_3)).trans hw183_3), ((HB.out.cell (World.block_lt_of_cell? w _ hw183_4)).trans hw183_4), ((HB.out.cell (World.block_lt_of_cell? w _ hw183_5)).trans hw183_5)⟩ (fun hHeld => ?_); refine Qa0 Qak.tab11 Qak.bits11 (fun HT_ HW_ => ?_)
            generalize w17.drew = w20 at HO_6 BK181 HB hx183_0 hx183_1 hx183_2 hx183_3 hx183_4 hx183_5 hHeld ⊢
            refine Zsp (i := 0) (N := some 61) (pm 10 1) HT_ ?_
            refine Zsp (i := 2) (N := some 63) #[T, F, T, F, F, F, F, F, F, F] HT_ ?_
            refine Zsp (i := 3) (N := some 64) #[T, F, T, T, F, F, F, F, F, F] HT_ ?_
            refine Zsp (i := 4) (N := some 65) #[T, F, T, T, T, F, F, F, F, F] HT_ ?_
            refine Zsp (i := 5) (N := some 66) #[T, F, T, T, T, T, F, F, F, F] HT_ ?_
            refine Zst (i := 1) (N := some 62) (pm 10 6) HT_ HW_ hHeld ?_ (hy := by (refine Or.inl ⟨by rfl, ?_⟩; rintro w' ⟨s0, s1, s2, s3, s4, s5, s6, s7, s8, s9, s10, s11⟩; go_simp; with_reducible rfl))
            refine Zst (i := 6) (N := some 67) (pm 10 7) HT_ HW_ hHeld ?_ (hy := by (refine Or.inl ⟨by rfl, ?_⟩; rintro w' ⟨s0, s1, s2, s3, s4, s5, s6, s7, s8, s9, s10, s11⟩; go_simp; with_reducible rfl))
            refine Zsp (i := 7) (N := some 68) (pm 10 8) HT_ ?_
            refine Zsp (i := 8) (N := some 69) (pm 10 9) HT_ ?_
            refine last_ (i := 9) (N := none) #[T, T, T, T, T, T, T, T, T, T] rfl rfl (one_of HT_.out (by kernel_rfl)) (by decide) (fun K hK => ?_)
            have hs21 : w20.cell? ⟨gb181, 4, none⟩ = some (.int .i64 ((rd_T71 l0 x8_1).f1)) := (Qah BK181.out 4).trans rfl
            have hfs21 := Qai BK181.out 4
            refine skip_ (w1 := ?_) (by rfl) rfl ?_ ?_
            rotate_left
            ·go_simp
             rfl
            refine hK.out _ _ ?_
            clear hK K
            refine done_ (Qa7 HT_.out (by kernel_rfl)) ?_
            try go_wp2
            have n0_ : Aside0 (Kd.R k71 71 (w20.setCell ⟨gb181, 4, none⟩ (.int .i64 (wrap64 (((rd_T71 l0 x8_1).f1) + ((rd_T71 l1 x7_2).f1))))) w.heap.size (fun k_ => k_ ≠ gb181) u6 x6_2) := ⟨by (with_reducible repeat (first | apply Kd.R_alloc | apply Kd.R_drewN | apply Kd.R_drew)); exact Kd.R_mono (Kd.R_far (p := ⟨gb181, 4, none⟩) (Kd.R_mono HO_6.out (fun k_ hk => (⟨hk, hk⟩ : _ ∧ k_ ≠ gb181))) (fun _ hk => hk.2) (.int .i64 (wrap64 (((rd_T71 l0 x8_1).f1) + ((rd_T71 l1 x7_2).f1))))) (fun _ hk => hk.1)⟩
            have n1_ : Aside0 ((w20.setCell ⟨gb181, 4, none⟩ (.int .i64 (wrap64 (((rd_T71 l0 x8_1).f1) + ((rd_T71 l1 x7_2).f1))))).heap[gb181]? = some (.cells #[.string ((rd_T71 l0 x8_1).f0.f0), .int .i64 ((rd_T71 l0 x8_1).f0.f1), .int .i64 ((rd_T71 l0 x8_1).f0.f2), .int .i64 ((rd_T71 l0 x8_1).f0.f3), .int .i64 (wrap64 (((rd_T71 l0 x8_1).f1) + ((rd_T71 l1 x7_2).f1))), .int .i64 ((rd_T71 l0 x8_1).f2)] 71 (0, 0))) := ⟨Zp2 BK181.out⟩
            have n2_ : Aside0 (Below w.heap.size w (w20.setCell ⟨gb181, 4, none⟩ (.int .i64 (wrap64 (((rd_T71 l0 x8_1).f1) + ((rd_T71 l1 x7_2).f1)))))) := ⟨Zc1 GE181.out⟩
            (try clear HO_6)
            (try clear BK181)
            (try clear HB)
            generalize (w20.setCell ⟨gb181, 4, none⟩ (.int .i64 (wrap64 (((rd_T71 l0 x8_1).f1) + ((rd_T71 l1 x7_2).f1))))) = w22 at n0_ n1_ n2_ ⊢
            have HO_6 := n0_
            have BK181 := n1_
            have HB := n2_
            clear n0_ n1_ n2_
            replace HO_6 := Aside0.mk (Kd.R_drew HO_6.out)
            replace BK181 := Aside0.mk (Qag BK181.out)
            replace HB := Aside0.mk (Qab HB.out)
            have p184 : 0 ≤ (x7_2 : Int) := Ze
            have q184 : x7_2 < (l1.length : Int) := Ze
            obtain ⟨ad184, e184, hx184_0, hx184_1, hx184_2, hx184_3, hx184_4, hx184_5⟩ := at_T71 HR1.out x7_2 p184 q184
            have hw184_5 := hx184_5
            have hw184_4 := hx184_4
            have hw184_3 := hx184_3
            have hw184_2 := hx184_2
            have hw184_1 := hx184_1
            have hw184_0 := hx184_0
            obtain rfl : ad173 = ad184 := (by injection e184)
            replace hx184_0 := Zx HB.out hx184_0
            replace hx184_1 := Zx HB.out hx184_1
            replace hx184_2 := Zx HB.out hx184_2
            replace hx184_3 := Zx HB.out hx184_3
            replace hx184_4 := Zx HB.out hx184_4
            replace hx184_5 := Zx HB.out hx184_5
            replace p184 := eq_true p184
            replace q184 := eq_true q184
            refine start_ (n := 10) (S := fun w' => w'.cell? ⟨gb181, 0, none⟩ = some (.string ((rd_T71 l0 x8_1).f0.f0)) ∧ w'.cell? ⟨gb181, 1, none⟩ = some (.int .i64 ((rd_T71 l0 x8_1).f0.f1)) ∧ w'.cell? ⟨gb181, 2, none⟩ = some (.int .i64 ((rd_T71 l0 x8_1).f0.f2)) ∧ w'.cell? ⟨gb181, 3, none⟩ = some (.int .i64 ((rd_T71 l0 x8_1).f0.f3)) ∧ w'.cell? ⟨gb181, 4, none⟩ = some (.int .i64 (wrap64 (((rd_T71 l0 x8_1).f1) + ((rd_T71 l1 x7_2).f1)))) ∧ w'.cell? ⟨gb181, 5, none⟩ = some (.int .i64 ((rd_T71 l0 x8_1).f2)) ∧ w'.cell? (ad173.add ((x7_2).toNat * 6)) = some (.string ((rd_T71 l1 x7_2).f0.f0)) ∧ w'.cell? ⟨(ad173.add ((x7_2).toNat * 6)).block, (ad173.add ((x7_2).toNat * 6)).off + 1, none⟩ = some (.int .i64 ((rd_T71 l1 x7_2).f0.f1)) ∧ w'.cell? ⟨(ad173.add ((x7_2).toNat * 6)).block, (ad173.add ((x7_2).toNat * 6)).off + 2, none⟩ = some (.int .i64 ((rd_T71 l1 x7_2).f0.f2)) ∧ w'.cell? ⟨(ad173.add ((x7_2).toNat * 6)).block, (ad173.add ((x7_2).toNat * 6)).off + 3, none⟩ = some (.int .i64 ((rd_T71 l1 x7_2).f0.f3)) ∧ w'.cell? ⟨(ad173.add ((x7_2).toNat * 6)).block, (ad173.add ((x7_2).toNat * 6)).off + 4, none⟩ = some (.int .i64 ((rd_T71 l1 x7_2).f1)) ∧ w'.cell? ⟨(ad173.add ((x7_2).toNat * 6)).block, (ad173.add ((x7_2).toNat * 6)).off + 5, none⟩ = some (.int .i64 ((rd_T71 l1 x7_2).f2))) (ds := [9]) #[F, F, F, F, F, F, F, F, F, F] (by kernel_rfl) rfl rfl ⟨(Qah BK181.out 0).trans rfl, (Qah BK181.out 1).trans rfl, (Qah BK181.out 2).trans rfl, (Qah BK181.out 3).trans rfl, (Qah BK181.out 4).trans rfl, (Qah BK181.out 5).trans rfl, ((HB.out.cell (World.block_lt_of_cell? w _ hw184_0)).trans hw184_0), ((HB.out.cell (World.block_lt_of_cell? w _ hw184_1)).trans hw184_1), ((HB.out.cell (World.block_lt_of_cell? w _ hw184_2)).trans hw184_2), ((HB.out.cell (World.block_lt_of_cell? w _ hw184_3)).trans hw184_3), ((HB.out.cell (World.block_lt_of_cell? w _ hw184_4)).trans hw184_4), ((HB.out.cell (World.block_lt_of_cell? w _ hw184_5)).trans hw184_5)⟩ (fun hHeld => ?_); refine Qa0 Qak.tab12 Qak.bits12 (fun HT_ HW_ => ?_)
            generalize w22.drew = w23 at HO_6 BK181 HB hx184_0 hx184_1 hx184_2 hx184_3 hx184_4 hx184_5 hHeld ⊢
            refine Zsp (i := 0) (N := some 70) (pm 10 1) HT_ ?_
            refine Zsp (i := 2) (N := some 72) #[T, F, T, F, F, F, F, F, F, F] HT_ ?_
            refine Zsp (i := 3) (N := some 73) #[T, F, T, T, F, F, F, F, F, F] HT_ ?_
            refine Zsp (i := 4) (N := some 74) #[T, F, T, T, T, F, F, F, F, F] HT_ ?_
            refine Zsp (i := 5) (N := some 75) #[T, F, T, T, T, T, F, F, F, F] HT_ ?_
            refine Zst (i := 1) (N := some 71) (pm 10 6) HT_ HW_ hHeld ?_ (hy := by (refine Or.inl ⟨by rfl, ?_⟩; rintro w' ⟨s0, s1, s2, s3, s4, s5, s6, s7, s8, s9, s10, s11⟩; go_simp; with_reducible rfl))
            refine Zst (i := 6) (N := some 76) (pm 10 7) HT_ HW_ hHeld ?_ (hy := by (refine Or.inl ⟨by rfl, ?_⟩; rintro w' ⟨s0, s1, s2, s3, s4, s5, s6, s7, s8, s9, s10, s11⟩; go_simp; with_reducible rfl))
            refine Zsp (i := 7) (N := some 77) (pm 10 8) HT_ ?_
            refine Zsp (i := 8) (N := some 78) (pm 10 9) HT_ ?_
            refine last_ (i := 9) (N := none) #[T, T, T, T, T, T, T, T, T, T] rfl rfl (one_of HT_.out (by kernel_rfl)) (by decide) (fun K hK => ?_)
            have hs24 : w23.cell? ⟨gb181, 5, none⟩ = some (.int .i64 ((rd_T71 l0 x8_1).f2)) := (Qah BK181.out 5).trans rfl
            have hfs24 := Qai BK181.out 5
            refine skip_ (w1 := ?_) (by rfl) rfl ?_ ?_
            rotate_left
            ·go_simp
             rfl
            refine hK.out _ _ ?_
            clear hK K
            refine done_ (Qa7 HT_.out (by kernel_rfl)) ?_
            obtain ⟨hcz25_0, hfz25_0⟩ := Zy (v := (.string ((rd_T71 l0 x8_1).f0.f0))) BK181.out 0
            obtain ⟨hcz25_1, hfz25_1⟩ := Zy (v := (.int .i64 ((rd_T71 l0 x8_1).f0.f1))) BK181.out 1
            obtain ⟨hcz25_2, hfz25_2⟩ := Zy (v := (.int .i64 ((rd_T71 l0 x8_1).f0.f2))) BK181.out 2
            obtain ⟨hcz25_3, hfz25_3⟩ := Zy (v := (.int .i64 ((rd_T71 l0 x8_1).f0.f3))) BK181.out 3
            obtain ⟨hcz25_4, hfz25_4⟩ := Zy (v := (.int .i64 (wrap64 (((rd_T71 l0 x8_1).f1) + ((rd_T71 l1 x7_2).f1))))) BK181.out 4
            obtain ⟨hcz25_5, hfz25_5⟩ := Zy (v := (.int .i64 ((rd_T71 l0 x8_1).f2))) BK181.out 5
            try go_wp2_with (first | ((with_reducible refine Qa8 (b := .append) (xs := #[.tmp 81, .tmp 83]) rfl ?_); at_builtin; refine Kd.R_append k71 (w0 := w) w.heap.size rfl (.tmp 81) (.tmp 83) 22 71 (.agg #[(.string ⟨#[]⟩), (.int .i64 0), (.int .i64 0), (.int .i64 0), (.int .i64 0), (.int .i64 0)]) 56 rfl Try.underlying22 info71 rfl (by decide) (by omega) u6 x6_2 (⟨(⟨(rd_T71 l0 x8_1).f0.f0, (rd_T71 l0 x8_1).f0.f1, (rd_T71 l0 x8_1).f0.f2, (rd_T71 l0 x8_1).f0.f3⟩ : S69), wrap64 (((rd_T71 l0 x8_1).f1) + ((rd_T71 l1 x7_2).f1)), wrap64 (((rd_T71 l0 x8_1).f2) + ((rd_T71 l1 x7_2).f2))⟩ : S71) [.string ((rd_T71 l0 x8_1).f0.f0), .int .i64 ((rd_T71 l0 x8_1).f0.f1), .int .i64 ((rd_T71 l0 x8_1).f0.f2), .int .i64 ((rd_T71 l0 x8_1).f0.f3), .int .i64 (wrap64 (((rd_T71 l0 x8_1).f1) + ((rd_T71 l1 x7_2).f1))), .int .i64 (wrap64 (((rd_T71 l0 x8_1).f2) + ((rd_T71 l1 x7_2).f2)))] (fun k_ => k_ ≠ gb181) (fun _ => False) rfl (by first | (go_simp; done) | (go_simp; rfl)) ?aP (fun _ hk => hk.elim) ?aF ?aO ?aB ?aS ?aL ?_; (case aP => exact Qbk _ _ _ (⟨(⟨(rd_T71 l0 x8_1).f0.f0, (rd_T71 l0 x8_1).f0.f1, (rd_T71 l0 x8_1).f0.f2, (rd_T71 l0 x8_1).f0.f3⟩ : S69), wrap64 (((rd_T71 l0 x8_1).f1) + ((rd_T71 l1 x7_2).f1)), wrap64 (((rd_T71 l0 x8_1).f2) + ((rd_T71 l1 x7_2).f2))⟩ : S71)); (case aB => exact (Zc1 GE181.out)); (case aF => exact (fun k_ hk => Kd.freshB (g := gb181) (o := .cells #[.string ((rd_T71 l0 x8_1).f0.f0), .int .i64 ((rd_T71 l0 x8_1).f0.f1), .int .i64 ((rd_T71 l0 x8_1).f0.f2), .int .i64 ((rd_T71 l0 x8_1).f0.f3), .int .i64 (wrap64 (((rd_T71 l0 x8_1).f1) + ((rd_T71 l1 x7_2).f1))), .int .i64 (wrap64 (((rd_T71 l0 x8_1).f2) + ((rd_T71 l1 x7_2).f2)))] 71 (0, 0)) (Zp2 BK181.out) k_ hk)); (case aO => exact (by (with_reducible repeat (first | apply Kd.R_alloc | apply Kd.R_drewN | apply Kd.R_drew)); exact Kd.R_mono (Kd.R_far (p := ⟨gb181, 5, none⟩) (Kd.R_mono HO_6.out (fun k_ hk => (⟨hk, hk⟩ : _ ∧ k_ ≠ gb181))) (fun _ hk => hk.2) (.int .i64 (wrap64 (((rd_T71 l0 x8_1).f2) + ((rd_T71 l1 x7_2).f2))))) (fun _ hk => hk.1))); (case aS => exact (Qax (Zc1 GE181.out))); (case aL => have := LMc19.out; omega); intro v186 w26 ho hb hg hat; rw [← Ny185.out] at ho; have HO187 := Aside0.mk (ho); replace BK181 := Aside0.mk (QaY (g := gb181) (o := .cells #[.string ((rd_T71 l0 x8_1).f0.f0), .int .i64 ((rd_T71 l0 x8_1).f0.f1), .int .i64 ((rd_T71 l0 x8_1).f0.f2), .int .i64 ((rd_T71 l0 x8_1).f0.f3), .int .i64 (wrap64 (((rd_T71 l0 x8_1).f1) + ((rd_T71 l1 x7_2).f1))), .int .i64 (wrap64 (((rd_T71 l0 x8_1).f2) + ((rd_T71 l1 x7_2).f2)))] 71 (0, 0)) (Zp2 BK181.out) hg (Kd.R_away HO_6.out (fun _ hk => hk))); replace HB := Aside0.mk (hb); clear HO_6; clear ho hb hg hat))
            go_roundg k2
            case measure => have := HK1.out; have := HK2.out; omega
            case rel => exact ⟨(y185), (wrap64 (x7_2 + 1)), (wrap64 (x8_1 + 1)), (Zs), (Zs), H', ⟨by have := HK1.out; have := HK2.out; omega⟩, ⟨by (with_reducible repeat (first | apply Kd.R_alloc | apply Kd.R_drewN | apply Kd.R_drew)); exact Kd.R_mono HO187.out (fun _ hk => trivial)⟩, ⟨Zc1 GE181.out⟩⟩
           rw [if_neg c19] at H
           exact absurd H (by simp)
          rw [if_neg c18] at H
          have c18b0 : ((((rd_T71 l1 x7_2).f0.f0).toList) == (((rd_T71 l0 x8_1).f0.f0).toList) && (((rd_T71 l1 x7_2).f0.f1) == ((rd_T71 l0 x8_1).f0.f1) && (((rd_T71 l1 x7_2).f0.f2) == ((rd_T71 l0 x8_1).f0.f2) && (((rd_T71 l1 x7_2).f0.f3) == ((rd_T71 l0 x8_1).f0.f3))))) = F := by simpa using c18
          (try (have c18b1 : decide ((((rd_T71 l1 x7_2).f0.f0).toList) = (((rd_T71 l0 x8_1).f0.f0).toList) && (((rd_T71 l1 x7_2).f0.f1) == ((rd_T71 l0 x8_1).f0.f1) && (((rd_T71 l1 x7_2).f0.f2) == ((rd_T71 l0 x8_1).f0.f2) && (((rd_T71 l1 x7_2).f0.f3) == ((rd_T71 l0 x8_1).f0.f3))))) = F := by simpa using c18))
          (try (have c18b2 : ((((rd_T71 l1 x7_2).f0.f0).toList) == (((rd_T71 l0 x8_1).f0.f0).toList) && (((rd_T71 l1 x7_2).f0.f1) == ((rd_T71 l0 x8_1).f0.f1) && (((rd_T71 l1 x7_2).f0.f2) == ((rd_T71 l0 x8_1).f0.f2) && (((rd_T71 l1 x7_2).f0.f3) == ((rd_T71 l0 x8_1).f0.f3))))) = F := by simpa using c18))
          (try (have c18b3 : ¬ ((((rd_T71 l1 x7_2).f0.f0).toList) = (((rd_T71 l0 x8_1).f0.f0).toList) && (((rd_T71 l1 x7_2).f0.f1) == ((rd_T71 l0 x8_1).f0.f1) && (((rd_T71 l1 x7_2).f0.f2) == ((rd_T71 l0 x8_1).f0.f2) && (((rd_T71 l1 x7_2).f0.f3) == ((rd_T71 l0 x8_1).f0.f3))))) := by simpa using c18))
          clear c18
          (try simp only [c18b0])
          by_cases c27 : x6_2.length < 2513169434916
          ·rw [if_pos c27] at H
           have LMc27 := Aside0.mk c27
           clear c27
           obtain ⟨y188, hy188⟩ : ∃ y_ : List (S71), y_ = (x6_2 ++ [(⟨(⟨(rd_T71 l0 x8_1).f0.f0, (rd_T71 l0 x8_1).f0.f1, (rd_T71 l0 x8_1).f0.f2, (rd_T71 l0 x8_1).f0.f3⟩ : S69), (rd_T71 l0 x8_1).f1, (rd_T71 l0 x8_1).f2⟩ : S71)]) := ⟨_, rfl⟩
           replace H : (Qak.l0 k2 l0 l1 y188 x7_2 (wrap64 (x8_1 + 1))) = some (r1, r2) := by first | (rw [hy188]; with_reducible exact H) | (have H2_ := (Option.bind_some _ _).symm.trans H; rw [hy188]; with_reducible exact H2_) | (have H2_ := (Option.bind_some _ _).symm.trans H; with_reducible exact H2_) | with_reducible exact H | (rw [hy188]; exact H) | exact H
           have Ny188 := Aside0.mk hy188
           clear hy188
           have H' := Aside0.mk H
           clear H
           obtain ⟨hcz28_0, hfz28_0⟩ := Zy (v := (.string ((rd_T71 l0 x8_1).f0.f0))) BK181.out 0
           obtain ⟨hcz28_1, hfz28_1⟩ := Zy (v := (.int .i64 ((rd_T71 l0 x8_1).f0.f1))) BK181.out 1
           obtain ⟨hcz28_2, hfz28_2⟩ := Zy (v := (.int .i64 ((rd_T71 l0 x8_1).f0.f2))) BK181.out 2
           obtain ⟨hcz28_3, hfz28_3⟩ := Zy (v := (.int .i64 ((rd_T71 l0 x8_1).f0.f3))) BK181.out 3
           obtain ⟨hcz28_4, hfz28_4⟩ := Zy (v := (.int .i64 ((rd_T71 l0 x8_1).f1))) BK181.out 4
           obtain ⟨hcz28_5, hfz28_5⟩ := Zy (v := (.int .i64 ((rd_T71 l0 x8_1).f2))) BK181.out 5
           go_wp2_with (first | ((with_reducible refine Qa8 (b := .append) (xs := #[.tmp 81, .tmp 83]) rfl ?_); at_builtin; refine Kd.R_append k71 (w0 := w) w.heap.size rfl (.tmp 81) (.tmp 83) 22 71 (.agg #[(.string ⟨#[]⟩), (.int .i64 0), (.int .i64 0), (.int .i64 0), (.int .i64 0), (.int .i64 0)]) 56 rfl Try.underlying22 info71 rfl (by decide) (by omega) u6 x6_2 (⟨(⟨(rd_T71 l0 x8_1).f0.f0, (rd_T71 l0 x8_1).f0.f1, (rd_T71 l0 x8_1).f0.f2, (rd_T71 l0 x8_1).f0.f3⟩ : S69), (rd_T71 l0 x8_1).f1, (rd_T71 l0 x8_1).f2⟩ : S71) [.string ((rd_T71 l0 x8_1).f0.f0), .int .i64 ((rd_T71 l0 x8_1).f0.f1), .int .i64 ((rd_T71 l0 x8_1).f0.f2), .int .i64 ((rd_T71 l0 x8_1).f0.f3), .int .i64 ((rd_T71 l0 x8_1).f1), .int .i64 ((rd_T71 l0 x8_1).f2)] (fun k_ => k_ ≠ gb181) (fun _ => False) rfl rfl ?aP (fun _ hk => hk.elim) ?aF ?aO ?aB ?aS ?aL ?_; (case aP => exact Qbk _ _ _ (⟨(⟨(rd_T71 l0 x8_1).f0.f0, (rd_T71 l0 x8_1).f0.f1, (rd_T71 l0 x8_1).f0.f2, (rd_T71 l0 x8_1).f0.f3⟩ : S69), (rd_T71 l0 x8_1).f1, (rd_T71 l0 x8_1).f2⟩ : S71)); (case aB => exact (Zc1 GE181.out)); (case aF => exact (fun k_ hk => Kd.freshB (g := gb181) (o := .cells #[.string ((rd_T71 l0 x8_1).f0.f0), .int .i64 ((rd_T71 l0 x8_1).f0.f1), .int .i64 ((rd_T71 l0 x8_1).f0.f2), .int .i64 ((rd_T71 l0 x8_1).f0.f3), .int .i64 ((rd_T71 l0 x8_1).f1), .int .i64 ((rd_T71 l0 x8_1).f2)] 71 (0, 0)) (Zu BK181.out) k_ hk)); (case aO => exact (Zr HO_6.out)); (case aS => exact (Qax (Zc1 GE181.out))); (case aL => have := LMc27.out; omega); intro v189 w29 ho hb hg hat; rw [← Ny188.out] at ho; have HO190 := Aside0.mk (ho); replace BK181 := Aside0.mk (QaY (g := gb181) (o := .cells #[.string ((rd_T71 l0 x8_1).f0.f0), .int .i64 ((rd_T71 l0 x8_1).f0.f1), .int .i64 ((rd_T71 l0 x8_1).f0.f2), .int .i64 ((rd_T71 l0 x8_1).f0.f3), .int .i64 ((rd_T71 l0 x8_1).f1), .int .i64 ((rd_T71 l0 x8_1).f2)] 71 (0, 0)) (Zu BK181.out) hg (Kd.R_away HO_6.out (fun _ hk => hk))); replace HB := Aside0.mk (hb); clear HO_6; clear ho hb hg hat))
           go_roundg k2
           case measure => have := HK1.out; have := HK2.out; omega
           case rel => exact ⟨(y188), (x7_2), (wrap64 (x8_1 + 1)), (Zs), (Zs), H', ⟨by have := HK1.out; have := HK2.out; omega⟩, ⟨by (with_reducible repeat (first | apply Kd.R_alloc | apply Kd.R_drewN | apply Kd.R_drew)); exact Kd.R_mono HO190.out (fun _ hk => trivial)⟩, ⟨Zc1 GE181.out⟩⟩
          rw [if_neg c27] at H
          exact absurd H (by simp)
         rw [if_neg c7] at H
         exact absurd H (by simp)
        rw [if_neg c6] at H
        exact absurd H (by simp)
       rw [if_neg c5] at H
       exact absurd H (by simp)
      rw [if_neg c4] at H
      have c4b0 : decide (x7_2 < (l1.length : Int)) = F := decide_eq_false c4
      clear c4
      try go_wp2
      replace HO_6 := Aside0.mk (Kd.R_drew HO_6.out)
      replace HB := Aside0.mk (Qab HB.out)
      refine start_ (n := 18) (S := fun w' => True) (ds := []) #[F, F, F, F, F, F, F, F, F, F, F, F, F, F, F, F, F, F] (by kernel_rfl) rfl rfl trivial (fun hHeld => ?_); refine Qa0 Qak.tab6 Qak.bits6 (fun HT_ HW_ => ?_)
      generalize wr.drew = w30 at HO_6 HB hHeld ⊢
      refine Zsp (i := 0) (N := some 16) (pm 18 1) HT_ ?_
      refine Zsp (i := 1) (N := some 17) (pm 18 2) HT_ ?_
      refine Zsp (i := 2) (N := some 18) (pm 18 3) HT_ ?_
      refine Zsp (i := 3) (N := some 19) (pm 18 4) HT_ ?_
      refine Zsp (i := 4) (N := some 20) (pm 18 5) HT_ ?_
      refine Zso (i := 5) (N := some 21) (pm 18 6) HT_ ?_
      refine Zso (i := 6) (N := some 22) (pm 18 7) HT_ ?_
      refine Zso (i := 7) (N := some 23) (pm 18 8) HT_ ?_
      refine Zso (i := 8) (N := some 24) (pm 18 9) HT_ ?_
      refine Zso (i := 9) (N := some 25) (pm 18 10) HT_ ?_
      refine Zso (i := 10) (N := some 26) (pm 18 11) HT_ ?_
      refine Zso (i := 11) (N := some 27) (pm 18 12) HT_ ?_
      refine Zso (i := 12) (N := some 28) (pm 18 13) HT_ ?_
      refine Zso (i := 13) (N := some 29) (pm 18 14) HT_ ?_
      refine Zso (i := 14) (N := some 30) (pm 18 15) HT_ ?_
      refine Zso (i := 15) (N := some 31) (pm 18 16) HT_ ?_
      refine Zso (i := 16) (N := some 32) (pm 18 17) HT_ ?_
      refine Zsp (i := 17) (N := some 33) (pm 18 18) HT_ ?_
      refine done_ (Qa7 HT_.out (by kernel_rfl)) ?_
      go_upto_if 33 with (fail)
      by_cases c31 : 0 ≤ x8_1
      ·rw [if_pos c31] at H
       have c31b0 : decide (0 ≤ x8_1) = T := decide_eq_true c31
       clear c31
       (try simp only [c31b0])
       by_cases c32 : x8_1 < (l0.length : Int)
       ·rw [if_pos c32] at H
        have c32b0 : decide (x8_1 < (l0.length : Int)) = T := decide_eq_true c32
        clear c32
        by_cases c33 : x6_2.length < 2513169434916
        ·rw [if_pos c33] at H
         have LMc33 := Aside0.mk c33
         clear c33
         obtain ⟨y193, hy193⟩ : ∃ y_ : List (S71), y_ = (x6_2 ++ [(⟨(⟨(rd_T71 l0 x8_1).f0.f0, (rd_T71 l0 x8_1).f0.f1, (rd_T71 l0 x8_1).f0.f2, (rd_T71 l0 x8_1).f0.f3⟩ : S69), (rd_T71 l0 x8_1).f1, (rd_T71 l0 x8_1).f2⟩ : S71)]) := ⟨_, rfl⟩
         replace H : (Qak.l0 k2 l0 l1 y193 x7_2 (wrap64 (x8_1 + 1))) = some (r1, r2) := by first | (rw [hy193]; with_reducible exact H) | (have H2_ := (Option.bind_some _ _).symm.trans H; rw [hy193]; with_reducible exact H2_) | (have H2_ := (Option.bind_some _ _).symm.trans H; with_reducible exact H2_) | with_reducible exact H | (rw [hy193]; exact H) | exact H
         have Ny193 := Aside0.mk hy193
         clear hy193
         have H' := Aside0.mk H
         clear H
         have p191 : 0 ≤ (x8_1 : Int) := Ze
         have q191 : x8_1 < (l0.length : Int) := Ze
         obtain ⟨ad191, e191, hx191_0, hx191_1, hx191_2, hx191_3, hx191_4, hx191_5⟩ := at_T71 HR0.out x8_1 p191 q191
         cases e191
         replace hx191_0 := Zx HB.out hx191_0
         replace hx191_1 := Zx HB.out hx191_1
         replace hx191_2 := Zx HB.out hx191_2
         replace hx191_3 := Zx HB.out hx191_3
         replace hx191_4 := Zx HB.out hx191_4
         replace hx191_5 := Zx HB.out hx191_5
         replace p191 := eq_true p191
         replace q191 := eq_true q191
         try go_wp2_with (first | ((with_reducible refine QaR (N := 9) rfl ?_); refine Zbx (N := 9) (cs := #[.string (⟨#[]⟩ : ByteArray), .int .i64 0, .int .i64 0, .int .i64 0, .int .i64 0, .int .i64 0]) (t := 71) ?_; intro gb192 hg w34 hbox hb; have BK192 := Aside0.mk (hbox); have GW192 := Aside0.mk (Zt w hg (Zb)); have GE192 := GW192; replace HO_6 := Aside0.mk (Kd.R_below (Kd.R_elderB (Zr HO_6.out) gb192 (Nat.le_of_eq hg.symm)) hb); replace HB := Aside0.mk (Qap (Zb) hb); clear hb hbox hg; obtain ⟨hcz35_0, hfz35_0⟩ := Zy (v := (.string (⟨#[]⟩ : ByteArray))) BK192.out 0; obtain ⟨hcz35_1, hfz35_1⟩ := Zy (v := (.int .i64 0)) BK192.out 1; obtain ⟨hcz35_2, hfz35_2⟩ := Zy (v := (.int .i64 0)) BK192.out 2; obtain ⟨hcz35_3, hfz35_3⟩ := Zy (v := (.int .i64 0)) BK192.out 3; obtain ⟨hcz35_4, hfz35_4⟩ := Zy (v := (.int .i64 0)) BK192.out 4; obtain ⟨hcz35_5, hfz35_5⟩ := Zy (v := (.int .i64 0)) BK192.out 5))
         have n0_ : Aside0 (Kd.R k71 71 ((((((w34.setCell ⟨gb192, 0, none⟩ (.string ((rd_T71 l0 x8_1).f0.f0))).setCell ⟨gb192, 1, none⟩ (.int .i64 ((rd_T71 l0 x8_1).f0.f1))).setCell ⟨gb192, 2, none⟩ (.int .i64 ((rd_T71 l0 x8_1).f0.f2))).setCell ⟨gb192, 3, none⟩ (.int .i64 ((rd_T71 l0 x8_1).f0.f3))).setCell ⟨gb192, 4, none⟩ (.int .i64 ((rd_T71 l0 x8_1).f1))).setCell ⟨gb192, 5, none⟩ (.int .i64 ((rd_T71 l0 x8_1).f2))) w.heap.size (fun k_ => k_ ≠ gb192) u6 x6_2) := ⟨by (with_reducible repeat (first | apply Kd.R_alloc | apply Kd.R_drewN | apply Kd.R_drew)); exact Kd.R_mono (Kd.R_far (p := ⟨gb192, 5, none⟩) (Kd.R_far (p := ⟨gb192, 4, none⟩) (Kd.R_far (p := ⟨gb192, 3, none⟩) (Kd.R_far (p := ⟨gb192, 2, none⟩) (Kd.R_far (p := ⟨gb192, 1, none⟩) (Kd.R_far (p := ⟨gb192, 0, none⟩) (Kd.R_mono HO_6.out (fun k_ hk => (⟨hk, hk.2⟩ : _ ∧ k_ ≠ gb192))) (fun _ hk => hk.2) (.string ((rd_T71 l0 x8_1).f0.f0))) (fun _ hk => hk.2) (.int .i64 ((rd_T71 l0 x8_1).f0.f1))) (fun _ hk => hk.2) (.int .i64 ((rd_T71 l0 x8_1).f0.f2))) (fun _ hk => hk.2) (.int .i64 ((rd_T71 l0 x8_1).f0.f3))) (fun _ hk => hk.2) (.int .i64 ((rd_T71 l0 x8_1).f1))) (fun _ hk => hk.2) (.int .i64 ((rd_T71 l0 x8_1).f2))) (fun _ hk => hk.1.2)⟩
         have n1_ : Aside0 (((((((w34.setCell ⟨gb192, 0, none⟩ (.string ((rd_T71 l0 x8_1).f0.f0))).setCell ⟨gb192, 1, none⟩ (.int .i64 ((rd_T71 l0 x8_1).f0.f1))).setCell ⟨gb192, 2, none⟩ (.int .i64 ((rd_T71 l0 x8_1).f0.f2))).setCell ⟨gb192, 3, none⟩ (.int .i64 ((rd_T71 l0 x8_1).f0.f3))).setCell ⟨gb192, 4, none⟩ (.int .i64 ((rd_T71 l0 x8_1).f1))).setCell ⟨gb192, 5, none⟩ (.int .i64 ((rd_T71 l0 x8_1).f2))).heap[gb192]? = some (.cells #[.string ((rd_T71 l0 x8_1).f0.f0), .int .i64 ((rd_T71 l0 x8_1).f0.f1), .int .i64 ((rd_T71 l0 x8_1).f0.f2), .int .i64 ((rd_T71 l0 x8_1).f0.f3), .int .i64 ((rd_T71 l0 x8_1).f1), .int .i64 ((rd_T71 l0 x8_1).f2)] 71 (0, 0))) := ⟨Zp2 BK192.out⟩
         have n2_ : Aside0 (Below w.heap.size w ((((((w34.setCell ⟨gb192, 0, none⟩ (.string ((rd_T71 l0 x8_1).f0.f0))).setCell ⟨gb192, 1, none⟩ (.int .i64 ((rd_T71 l0 x8_1).f0.f1))).setCell ⟨gb192, 2, none⟩ (.int .i64 ((rd_T71 l0 x8_1).f0.f2))).setCell ⟨gb192, 3, none⟩ (.int .i64 ((rd_T71 l0 x8_1).f0.f3))).setCell ⟨gb192, 4, none⟩ (.int .i64 ((rd_T71 l0 x8_1).f1))).setCell ⟨gb192, 5, none⟩ (.int .i64 ((rd_T71 l0 x8_1).f2)))) := ⟨Zc1 GE192.out⟩
         (try clear HO_6)
         (try clear BK192)
         (try clear HB)
         generalize ((((((w34.setCell ⟨gb192, 0, none⟩ (.string ((rd_T71 l0 x8_1).f0.f0))).setCell ⟨gb192, 1, none⟩ (.int .i64 ((rd_T71 l0 x8_1).f0.f1))).setCell ⟨gb192, 2, none⟩ (.int .i64 ((rd_T71 l0 x8_1).f0.f2))).setCell ⟨gb192, 3, none⟩ (.int .i64 ((rd_T71 l0 x8_1).f0.f3))).setCell ⟨gb192, 4, none⟩ (.int .i64 ((rd_T71 l0 x8_1).f1))).setCell ⟨gb192, 5, none⟩ (.int .i64 ((rd_T71 l0 x8_1).f2))) = w36 at n0_ n1_ n2_ ⊢
         have HO_6 := n0_
         have BK192 := n1_
         have HB := n2_
         clear n0_ n1_ n2_
         replace HO_6 := Aside0.mk (Kd.R_drew HO_6.out)
         replace BK192 := Aside0.mk (Qag BK192.out)
         replace HB := Aside0.mk (Qab HB.out)
         refine start_ (n := 14) (S := fun w' => True) (ds := []) #[F, F, F, F, F, F, F, F, F, F, F, F, F, F] (by kernel_rfl) rfl rfl trivial (fun hHeld => ?_); refine Qa0 Qak.tab10 Qak.bits10 (fun HT_ HW_ => ?_)
         generalize w36.drew = w37 at HO_6 BK192 HB hHeld ⊢
         refine Zsp (i := 0) (N := some 47) (pm 14 1) HT_ ?_
         refine Zsp (i := 1) (N := some 48) (pm 14 2) HT_ ?_
         refine Zsp (i := 2) (N := some 49) (pm 14 3) HT_ ?_
         refine Zsp (i := 3) (N := some 50) (pm 14 4) HT_ ?_
         refine Zsp (i := 4) (N := some 51) (pm 14 5) HT_ ?_
         refine Zso (i := 5) (N := some 52) (pm 14 6) HT_ ?_
         refine Zso (i := 6) (N := some 53) (pm 14 7) HT_ ?_
         refine Zso (i := 7) (N := some 54) (pm 14 8) HT_ ?_
         refine Zso (i := 8) (N := some 55) (pm 14 9) HT_ ?_
         refine Zso (i := 9) (N := some 56) (pm 14 10) HT_ ?_
         refine Zso (i := 10) (N := some 57) (pm 14 11) HT_ ?_
         refine Zso (i := 11) (N := some 58) (pm 14 12) HT_ ?_
         refine Zso (i := 12) (N := some 59) (pm 14 13) HT_ ?_
         refine Zsp (i := 13) (N := some 60) (pm 14 14) HT_ ?_
         refine done_ (Qa7 HT_.out (by kernel_rfl)) ?_
         obtain ⟨hcz38_0, hfz38_0⟩ := Zy (v := (.string ((rd_T71 l0 x8_1).f0.f0))) BK192.out 0
         obtain ⟨hcz38_1, hfz38_1⟩ := Zy (v := (.int .i64 ((rd_T71 l0 x8_1).f0.f1))) BK192.out 1
         obtain ⟨hcz38_2, hfz38_2⟩ := Zy (v := (.int .i64 ((rd_T71 l0 x8_1).f0.f2))) BK192.out 2
         obtain ⟨hcz38_3, hfz38_3⟩ := Zy (v := (.int .i64 ((rd_T71 l0 x8_1).f0.f3))) BK192.out 3
         obtain ⟨hcz38_4, hfz38_4⟩ := Zy (v := (.int .i64 ((rd_T71 l0 x8_1).f1))) BK192.out 4
         obtain ⟨hcz38_5, hfz38_5⟩ := Zy (v := (.int .i64 ((rd_T71 l0 x8_1).f2))) BK192.out 5
         try go_wp2_with (first | ((with_reducible refine Qa8 (b := .append) (xs := #[.tmp 81, .tmp 83]) rfl ?_); at_builtin; refine Kd.R_append k71 (w0 := w) w.heap.size rfl (.tmp 81) (.tmp 83) 22 71 (.agg #[(.string ⟨#[]⟩), (.int .i64 0), (.int .i64 0), (.int .i64 0), (.int .i64 0), (.int .i64 0)]) 56 rfl Try.underlying22 info71 rfl (by decide) (by omega) u6 x6_2 (⟨(⟨(rd_T71 l0 x8_1).f0.f0, (rd_T71 l0 x8_1).f0.f1, (rd_T71 l0 x8_1).f0.f2, (rd_T71 l0 x8_1).f0.f3⟩ : S69), (rd_T71 l0 x8_1).f1, (rd_T71 l0 x8_1).f2⟩ : S71) [.string ((rd_T71 l0 x8_1).f0.f0), .int .i64 ((rd_T71 l0 x8_1).f0.f1), .int .i64 ((rd_T71 l0 x8_1).f0.f2), .int .i64 ((rd_T71 l0 x8_1).f0.f3), .int .i64 ((rd_T71 l0 x8_1).f1), .int .i64 ((rd_T71 l0 x8_1).f2)] (fun k_ => k_ ≠ gb192) (fun _ => False) rfl rfl ?aP (fun _ hk => hk.elim) ?aF ?aO ?aB ?aS ?aL ?_; (case aP => exact Qbk _ _ _ (⟨(⟨(rd_T71 l0 x8_1).f0.f0, (rd_T71 l0 x8_1).f0.f1, (rd_T71 l0 x8_1).f0.f2, (rd_T71 l0 x8_1).f0.f3⟩ : S69), (rd_T71 l0 x8_1).f1, (rd_T71 l0 x8_1).f2⟩ : S71)); (case aB => exact (Zc1 GE192.out)); (case aF => exact (fun k_ hk => Kd.freshB (g := gb192) (o := .cells #[.string ((rd_T71 l0 x8_1).f0.f0), .int .i64 ((rd_T71 l0 x8_1).f0.f1), .int .i64 ((rd_T71 l0 x8_1).f0.f2), .int .i64 ((rd_T71 l0 x8_1).f0.f3), .int .i64 ((rd_T71 l0 x8_1).f1), .int .i64 ((rd_T71 l0 x8_1).f2)] 71 (0, 0)) (Zu BK192.out) k_ hk)); (case aO => exact (Zr HO_6.out)); (case aS => exact (Qax (Zc1 GE192.out))); (case aL => have := LMc33.out; omega); intro v194 w39 ho hb hg hat; rw [← Ny193.out] at ho; have HO195 := Aside0.mk (ho); replace BK192 := Aside0.mk (QaY (g := gb192) (o := .cells #[.string ((rd_T71 l0 x8_1).f0.f0), .int .i64 ((rd_T71 l0 x8_1).f0.f1), .int .i64 ((rd_T71 l0 x8_1).f0.f2), .int .i64 ((rd_T71 l0 x8_1).f0.f3), .int .i64 ((rd_T71 l0 x8_1).f1), .int .i64 ((rd_T71 l0 x8_1).f2)] 71 (0, 0)) (Zu BK192.out) hg (Kd.R_away HO_6.out (fun _ hk => hk))); replace HB := Aside0.mk (hb); clear HO_6; clear ho hb hg hat))
         go_roundg k2
         case measure => have := HK1.out; have := HK2.out; omega
         case rel => exact ⟨(y193), (x7_2), (wrap64 (x8_1 + 1)), (Zs), (Zs), H', ⟨by have := HK1.out; have := HK2.out; omega⟩, ⟨by (with_reducible repeat (first | apply Kd.R_alloc | apply Kd.R_drewN | apply Kd.R_drew)); exact Kd.R_mono HO195.out (fun _ hk => trivial)⟩, ⟨Zc1 GE192.out⟩⟩
        rw [if_neg c33] at H
        exact absurd H (by simp)
       rw [if_neg c32] at H
       exact absurd H (by simp)
      rw [if_neg c31] at H
      exact absurd H (by simp)
   rw [if_neg c3] at H
   have c3b0 : decide (x8_1 < (l0.length : Int)) = F := decide_eq_false c3
   clear c3
   (try simp only [c3b0])
   have H' := Aside0.mk H
   clear H
   go_wp2
   go_loopg [6, 7] k1 (fun kq v6 v7 w' => ∃ (x6_2 : List (S71)) (x7_2 : Int), v7 = .int .i64 x7_2 ∧ Aside0 (Qak.l2 kq l1 x6_2 x7_2 = some (r1, r2)) ∧ Aside0 (kq ≤ k1) ∧ Aside0 (Kd.R k71 71 w' w.heap.size (fun _ => True) v6 x6_2) ∧ Aside0 (Below w.heap.size w w'))
   case atStart => exact ⟨(x6_1), (x7_1), (Zs), H', ⟨Nat.le_refl _⟩, ⟨Zr HO_6.out⟩, ⟨Zb⟩⟩
   case round =>
    clear H'
    try clear c1
    try clear p1
    try clear q1
    try clear hx1
    try clear c2
    try clear p2
    try clear c3
    try clear c3b0
    try clear c4
    try clear c4b0
    try clear c5
    try clear c6
    try clear p6
    try clear c7
    try clear c18
    try clear c18b0
    try clear c18b1
    try clear c18b2
    try clear p18
    try clear q18
    try clear hx18
    try clear c19
    try clear p19
    try clear q19
    try clear hx19
    try clear c27
    try clear c31
    try clear c31b0
    try clear c32
    try clear c32b0
    try clear c33
    try clear hcz25_0
    try clear hcz25_1
    try clear hcz25_2
    try clear hcz25_3
    try clear hcz25_4
    try clear hcz25_5
    try clear hcz28_0
    try clear hcz28_1
    try clear hcz28_2
    try clear hcz28_3
    try clear hcz28_4
    try clear hcz28_5
    try clear hcz35_0
    try clear hcz35_1
    try clear hcz35_2
    try clear hcz35_3
    try clear hcz35_4
    try clear hcz35_5
    try clear hcz38_0
    try clear hcz38_1
    try clear hcz38_2
    try clear hcz38_3
    try clear hcz38_4
    try clear hcz38_5
    try clear hfz25_0
    try clear hfz25_1
    try clear hfz25_2
    try clear hfz25_3
    try clear hfz25_4
    try clear hfz25_5
    try clear hfz28_0
    try clear hfz28_1
    try clear hfz28_2
    try clear hfz28_3
    try clear hfz28_4
    try clear hfz28_5
    try clear hfz35_0
    try clear hfz35_1
    try clear hfz35_2
    try clear hfz35_3
    try clear hfz35_4
    try clear hfz35_5
    try clear hfz38_0
    try clear hfz38_1
    try clear hfz38_2
    try clear hfz38_3
    try clear hfz38_4
    try clear hfz38_5
    try clear hx183_0
    try clear hx183_1
    try clear hx183_2
    try clear hx183_3
    try clear hx183_4
    try clear hx183_5
    try clear hx184_0
    try clear hx184_1
    try clear hx184_2
    try clear hx184_3
    try clear hx184_4
    try clear hx184_5
    try clear hx191_0
    try clear hx191_1
    try clear hx191_2
    try clear hx191_3
    try clear hx191_4
    try clear hx191_5
    try clear p183
    try clear p184
    try clear p191
    try clear q183
    try clear q184
    try clear q191
    obtain ⟨x6_2, x7_2, rfl, HA, HK2, HO_6, HB⟩ := hrel
    cases gk with
    | zero => exact absurd HA.out (by simp [Qak.l2])
    | succ k2 =>
     have H := HA.out
     clear HA
     simp only [Qak.l2] at H
     by_cases c40 : x7_2 < (l1.length : Int)
     ·rw [if_pos c40] at H
      have c40b0 : decide (x7_2 < (l1.length : Int)) = T := decide_eq_true c40
      clear c40
      (try simp only [c40b0])
      by_cases c41 : 0 ≤ x7_2
      ·rw [if_pos c41] at H
       have c41b0 : decide (0 ≤ x7_2) = T := decide_eq_true c41
       clear c41
       by_cases c42 : x6_2.length < 2513169434916
       ·rw [if_pos c42] at H
        have LMc42 := Aside0.mk c42
        clear c42
        obtain ⟨y197, hy197⟩ : ∃ y_ : List (S71), y_ = (x6_2 ++ [(⟨(⟨(rd_T71 l1 x7_2).f0.f0, (rd_T71 l1 x7_2).f0.f1, (rd_T71 l1 x7_2).f0.f2, (rd_T71 l1 x7_2).f0.f3⟩ : S69), (rd_T71 l1 x7_2).f1, (rd_T71 l1 x7_2).f2⟩ : S71)]) := ⟨_, rfl⟩
        replace H : (Qak.l2 k2 l1 y197 (wrap64 (x7_2 + 1))) = some (r1, r2) := by first | (rw [hy197]; with_reducible exact H) | (have H2_ := (Option.bind_some _ _).symm.trans H; rw [hy197]; with_reducible exact H2_) | (have H2_ := (Option.bind_some _ _).symm.trans H; with_reducible exact H2_) | with_reducible exact H | (rw [hy197]; exact H) | exact H
        have Ny197 := Aside0.mk hy197
        clear hy197
        have H' := Aside0.mk H
        clear H
        have p196 : 0 ≤ (x7_2 : Int) := Ze
        have q196 : x7_2 < (l1.length : Int) := Ze
        obtain ⟨ad196, e196, hx196_0, hx196_1, hx196_2, hx196_3, hx196_4, hx196_5⟩ := at_T71 HR1.out x7_2 p196 q196
        cases e196
        replace hx196_0 := Zx HB.out hx196_0
        replace hx196_1 := Zx HB.out hx196_1
        replace hx196_2 := Zx HB.out hx196_2
        replace hx196_3 := Zx HB.out hx196_3
        replace hx196_4 := Zx HB.out hx196_4
        replace hx196_5 := Zx HB.out hx196_5
        replace p196 := eq_true p196
        replace q196 := eq_true q196
        go_wp2_with (first | ((with_reducible refine Qa8 (b := .append) (xs := #[.tmp 91, .tmp 96]) rfl ?_); at_builtin; refine Kd.R_append k71 (w0 := w) w.heap.size rfl (.tmp 91) (.tmp 96) 22 71 (.agg #[(.string ⟨#[]⟩), (.int .i64 0), (.int .i64 0), (.int .i64 0), (.int .i64 0), (.int .i64 0)]) 56 rfl Try.underlying22 info71 rfl (by decide) (by omega) u6 x6_2 (⟨(⟨(rd_T71 l1 x7_2).f0.f0, (rd_T71 l1 x7_2).f0.f1, (rd_T71 l1 x7_2).f0.f2, (rd_T71 l1 x7_2).f0.f3⟩ : S69), (rd_T71 l1 x7_2).f1, (rd_T71 l1 x7_2).f2⟩ : S71) [.string ((rd_T71 l1 x7_2).f0.f0), .int .i64 ((rd_T71 l1 x7_2).f0.f1), .int .i64 ((rd_T71 l1 x7_2).f0.f2), .int .i64 ((rd_T71 l1 x7_2).f0.f3), .int .i64 ((rd_T71 l1 x7_2).f1), .int .i64 ((rd_T71 l1 x7_2).f2)] (fun _ => True) (fun _ => False) rfl rfl ?aP (fun _ hk => hk.elim) ?aF ?aO ?aB ?aS ?aL ?_; (case aP => exact Qbk _ _ _ (⟨(⟨(rd_T71 l1 x7_2).f0.f0, (rd_T71 l1 x7_2).f0.f1, (rd_T71 l1 x7_2).f0.f2, (rd_T71 l1 x7_2).f0.f3⟩ : S69), (rd_T71 l1 x7_2).f1, (rd_T71 l1 x7_2).f2⟩ : S71)); (case aB => exact (Zb)); (case aF => exact (fun _ _ => trivial)); (case aO => exact (Zr HO_6.out)); (case aS => exact (Qax (Zb))); (case aL => have := LMc42.out; omega); intro v198 w43 ho hb hg hat; rw [← Ny197.out] at ho; have HO199 := Aside0.mk (ho); replace HB := Aside0.mk (hb); clear HO_6; clear ho hb hg hat))
        go_roundg k2
        case measure => have := HK1.out; have := HK2.out; omega
        case rel => exact ⟨(y197), (wrap64 (x7_2 + 1)), (Zs), H', ⟨by have := HK1.out; have := HK2.out; omega⟩, ⟨Zr HO199.out⟩, ⟨Zb⟩⟩
       rw [if_neg c42] at H
       exact absurd H (by simp)
      rw [if_neg c41] at H
      exact absurd H (by simp)
     rw [if_neg c40] at H
     have c40b0 : decide (x7_2 < (l1.length : Int)) = F := decide_eq_false c40
     clear c40
     (try simp only [c40b0])
     replace H := Option.bind_eq_some_iff.mp H
     obtain ⟨t200, A440, H⟩ := H
     replace H : (some (x6_2, (t200 == 0))) = some (r1, r2) := H
     have A44 := Aside0.mk A440
     clear A440
     simp only [Option.some.injEq, Prod.mk.injEq] at H
     obtain ⟨rfl, rfl⟩ := H
     obtain ⟨Ao45, co45, eo45⟩ := Kd.R_slice HO_6.out
     subst eo45
     go_wp2_with (first | ((with_reducible refine QaI (f := 9) rfl ?_); refine goesL_ (some 100) rfl rfl Try.func9 (by kernel_rfl) rfl #[.slice Ao45 x6_2.length co45] rfl (Zl) ?_; (with_reducible refine (Qal.calls k2 _ _ x6_2 t200 _ ?side1 ?side2 A44.out).mono ?_); (case side1 => exact Zv (Kd.R_reads' HO_6.out).2.2); (case side2 => exact (Kd.R_reads' HO_6.out).2.1); rintro e w46 ⟨rfl, hb⟩; refine ⟨_, rfl, ?_⟩; replace HO_6 := Aside0.mk (Kd.R_below (Zr HO_6.out) hb); replace HB := Aside0.mk (Qap (Zb) hb); (try clear hb); (try clear hb2); (try clear hk); (try clear hi)))
     go_ret2
     exact ⟨_, Zq, Zr HO_6.out, Zb⟩
def QaE.l0 : Nat → List (S69) → Int → Int → ByteArray → Int → Int → Int → Option (Int × Bool)
 | 0, _, _, _, _, _, _, _ => none
 | k + 1, x308, x309, x310, x211000, x211001, x211002, x211003 => if x310 < x309 then (if 0 ≤ x310 then (if x310 < (x308.length : Int) then (if ((((rd_T69 x308 x310).f0).toList) == x211000.toList && (((rd_T69 x308 x310).f1) == x211001 && (((rd_T69 x308 x310).f2) == x211002 && (((rd_T69 x308 x310).f3) == x211003)))) = T then (some (x310, T)) else (QaE.l0 k x308 x309 (wrap64 (x310 + 1)) x211000 x211001 x211002 x211003)) else (none)) else (none)) else (some (0, F))
def QaE.f (k : Nat) (l0 : List (S69)) (a1_0 : ByteArray) (a1_1 : Int) (a1_2 : Int) (a1_3 : Int) : Option (Int × Bool) := QaE.l0 k l0 (l0.length : Int) 0 a1_0 a1_1 a1_2 a1_3
theorem QaE.mono_l : ∀ k, (∀ y0 y1 y2 y3 y4 y5 y6, LeO (QaE.l0 k y0 y1 y2 y3 y4 y5 y6) (QaE.l0 (k + 1) y0 y1 y2 y3 y4 y5 y6))
 | 0 => fun _ _ _ _ _ _ _ r h => by simp [QaE.l0] at h
 | k + 1 => by
  have ih0 := QaE.mono_l k
  intro y0 y1 y2 y3 y4 y5 y6
  unfold QaE.l0
  exact ZM1 ih0
theorem QaE.mono : ∀ a0 a1 a2 a3 a4 k, LeO (QaE.f k a0 a1 a2 a3 a4) (QaE.f (k + 1) a0 a1 a2 a3 a4) := by
 intro a0 a1 a2 a3 a4 k
 have ih0 := QaE.mono_l k
 unfold QaE.f
 exact ZM1 ih0
theorem QaE.calls (k : Nat) (A0 : Option Addr) (c0 : Nat) (l0 : List (S69)) (a1_0 : ByteArray) (a1_1 : Int) (a1_2 : Int) (a1_3 : Int) (r1 : Int) (r2 : Bool) (w : World) (hr0 : Kd.C k69 w A0 l0.length l0) (hc0 : l0.length ≤ c0) (h : QaE.f k l0 a1_0 a1_1 a1_2 a1_3 = some (r1, r2)) :
  Calls Try.prog 52 #[.slice A0 l0.length c0, .agg #[.string a1_0, .int .i64 a1_1, .int .i64 a1_2, .int .i64 a1_3]] w fun e w' => e = .returned (.tuple #[.int .i64 r1, .bool r2]) ∧ Below w.heap.size w w' := by
 have hu69 := Try.underlying69
 have HR0 := Aside0.mk hr0
 have HC0 := Aside0.mk hc0
 clear hr0 hc0
 have HB := Aside0.mk (Below.refl w.heap.size w)
 have H : (QaE.l0 k l0 (l0.length : Int) 0 a1_0 a1_1 a1_2 a1_3) = some (r1, r2) := h
 clear h
 have H' := Aside0.mk H
 clear H
 go_enter Try.func52, Try.ntmps52
 go_wp2_with (first | ((with_reducible refine QaR (N := 3) rfl ?_); (refine gate_n (n := 11) rfl ?_); refine Zbx (N := 3) (cs := #[.string a1_0, .int .i64 a1_1, .int .i64 a1_2, .int .i64 a1_3]) (t := 69) ?_; intro gb210 hg w3 hbox hb; have BK210 := Aside0.mk (hbox); have GW210 := Aside0.mk (Zt w hg (Zb)); have GE210 := GW210; replace HB := Aside0.mk (Qap (Zb) hb); clear hb hbox hg) | (go_at_call 134; go_in))
 go_loopg [10] k (fun kq v310 w' => ∃ (x310_1 : Int), v310 = .int .i64 x310_1 ∧ Aside0 (QaE.l0 kq l0 (l0.length : Int) x310_1 a1_0 a1_1 a1_2 a1_3 = some (r1, r2)) ∧ Aside0 (kq ≤ k) ∧ Aside0 (w'.heap[gb210]? = some (.cells #[.string a1_0, .int .i64 a1_1, .int .i64 a1_2, .int .i64 a1_3] 69 (0, 0))) ∧ Aside0 (Below w.heap.size w w'))
 case atStart => exact ⟨(0), (Zs), H', ⟨Nat.le_refl _⟩, ⟨Zu BK210.out⟩, ⟨Zc1 GE210.out⟩⟩
 case round =>
  clear H'
  try clear p2
  obtain ⟨x310_1, rfl, HA, HK1, BK210, HB⟩ := hrel
  cases gk with
  | zero => exact absurd HA.out (by simp [QaE.l0])
  | succ k1 =>
   have H := HA.out
   clear HA
   simp only [QaE.l0] at H
   by_cases c4 : x310_1 < (l0.length : Int)
   ·rw [if_pos c4] at H
    have c4b0 : decide (x310_1 < (l0.length : Int)) = T := decide_eq_true c4
    clear c4
    (try simp only [c4b0])
    by_cases c5 : 0 ≤ x310_1
    ·rw [if_pos c5] at H
     have c5b0 : decide (0 ≤ x310_1) = T := decide_eq_true c5
     clear c5
     by_cases c6 : x310_1 < (l0.length : Int)
     ·rw [if_pos c6] at H
      have c6b0 : decide (x310_1 < (l0.length : Int)) = T := decide_eq_true c6
      clear c6
      have p211 : 0 ≤ (x310_1 : Int) := Ze
      have q211 : x310_1 < (l0.length : Int) := Ze
      obtain ⟨ad211, e211, hx211_0, hx211_1, hx211_2, hx211_3⟩ := at_T69 HR0.out x310_1 p211 q211
      cases e211
      replace hx211_0 := Zx HB.out hx211_0
      replace hx211_1 := Zx HB.out hx211_1
      replace hx211_2 := Zx HB.out hx211_2
      replace hx211_3 := Zx HB.out hx211_3
      replace p211 := eq_true p211
      replace q211 := eq_true q211
      go_upto_if 17 with (first | ((with_reducible refine QaR (N := 7) rfl ?_); (refine gate_n (n := 20) rfl ?_); refine Zbx (N := 7) (cs := #[.string (⟨#[]⟩ : ByteArray), .int .i64 0, .int .i64 0, .int .i64 0]) (t := 69) ?_; intro gb212 hg w7 hbox hb; have BK212 := Aside0.mk (hbox); have GW212 := Aside0.mk (Zt w hg (Zc1 GE210.out)); have GE212 := GW212; have NB210_212 := Aside0.mk (Zn hg BK210.out); have NB212_210 := Aside0.mk NB210_212.out.symm; replace BK210 := Aside0.mk (Zi BK210.out hb); replace HB := Aside0.mk (Qap (Zc1 GE210.out) hb); clear hb hbox hg; have hnb8 := NB212_210.out; have hnc8 := NB210_212.out; obtain ⟨hcz9_0, hfz9_0⟩ := Zy (v := (.string (⟨#[]⟩ : ByteArray))) BK212.out 0; obtain ⟨hcz9_1, hfz9_1⟩ := Zy (v := (.int .i64 0)) BK212.out 1; obtain ⟨hcz9_2, hfz9_2⟩ := Zy (v := (.int .i64 0)) BK212.out 2; obtain ⟨hcz9_3, hfz9_3⟩ := Zy (v := (.int .i64 0)) BK212.out 3) | (go_at_call 135; go_in) | ((with_reducible refine QaR (N := 2) rfl ?_); (refine gate_n (n := 7) rfl ?_); refine Zbx (N := 2) (cs := #[.string ((rd_T69 l0 x310_1).f0), .int .i64 ((rd_T69 l0 x310_1).f1), .int .i64 ((rd_T69 l0 x310_1).f2), .int .i64 ((rd_T69 l0 x310_1).f3)]) (t := 69) ?_; intro gb213 hg w10 hbox hb; have BK213 := Aside0.mk (hbox); have GW213 := Aside0.mk (Zt w hg (Zc2 GE210.out GE212.out)); have GE213 := GW213; have NB210_213 := Aside0.mk ((by rw [hg]; exact Nat.ne_of_lt (blk_lt (g := gb210) (o := .cells #[.string a1_0, .int .i64 a1_1, .int .i64 a1_2, .int .i64 a1_3] 69 (0, 0)) (Zg4 BK210.out NB210_212.out NB210_212.out NB210_212.out NB210_212.out)) : gb210 ≠ gb213)); have NB213_210 := Aside0.mk ((by rw [hg]; exact Nat.ne_of_gt (blk_lt (g := gb210) (o := .cells #[.string a1_0, .int .i64 a1_1, .int .i64 a1_2, .int .i64 a1_3] 69 (0, 0)) (Zg4 BK210.out NB210_212.out NB210_212.out NB210_212.out NB210_212.out)) : gb213 ≠ gb210)); have NB212_213 := Aside0.mk ((by rw [hg]; exact Nat.ne_of_lt (blk_lt (g := gb212) (o := .cells #[.string ((rd_T69 l0 x310_1).f0), .int .i64 ((rd_T69 l0 x310_1).f1), .int .i64 ((rd_T69 l0 x310_1).f2), .int .i64 ((rd_T69 l0 x310_1).f3)] 69 (0, 0)) (Zp2 BK212.out)) : gb212 ≠ gb213)); have NB213_212 := Aside0.mk ((by rw [hg]; exact Nat.ne_of_gt (blk_lt (g := gb212) (o := .cells #[.string ((rd_T69 l0 x310_1).f0), .int .i64 ((rd_T69 l0 x310_1).f1), .int .i64 ((rd_T69 l0 x310_1).f2), .int .i64 ((rd_T69 l0 x310_1).f3)] 69 (0, 0)) (Zp2 BK212.out)) : gb213 ≠ gb212)); replace BK210 := Aside0.mk (Qau (g := gb210) (o := .cells #[.string a1_0, .int .i64 a1_1, .int .i64 a1_2, .int .i64 a1_3] 69 (0, 0)) (Zg4 BK210.out NB210_212.out NB210_212.out NB210_212.out NB210_212.out) hb); replace BK212 := Aside0.mk (Zpi #[.string ((rd_T69 l0 x310_1).f0), .int .i64 ((rd_T69 l0 x310_1).f1), .int .i64 ((rd_T69 l0 x310_1).f2), .int .i64 ((rd_T69 l0 x310_1).f3)] BK212.out hb); replace HB := Aside0.mk (Qap (Zc2 GE210.out GE212.out) hb); clear hb hbox hg; have hnb11 := NB213_210.out; have hnc11 := NB210_213.out; have hnb12 := NB213_212.out; have hnc12 := NB212_213.out; obtain ⟨hcz13_0, hfz13_0⟩ := Zy (v := (.string ((rd_T69 l0 x310_1).f0))) BK213.out 0; obtain ⟨hcz13_1, hfz13_1⟩ := Zy (v := (.int .i64 ((rd_T69 l0 x310_1).f1))) BK213.out 1; obtain ⟨hcz13_2, hfz13_2⟩ := Zy (v := (.int .i64 ((rd_T69 l0 x310_1).f2))) BK213.out 2; obtain ⟨hcz13_3, hfz13_3⟩ := Zy (v := (.int .i64 ((rd_T69 l0 x310_1).f3))) BK213.out 3; obtain ⟨hcz14_0, hfz14_0⟩ := Zy (v := (.string a1_0)) BK210.out 0; obtain ⟨hcz14_1, hfz14_1⟩ := Zy (v := (.int .i64 a1_1)) BK210.out 1; obtain ⟨hcz14_2, hfz14_2⟩ := Zy (v := (.int .i64 a1_2)) BK210.out 2; obtain ⟨hcz14_3, hfz14_3⟩ := Zy (v := (.int .i64 a1_3)) BK210.out 3))
      (try simp only [Act.put, Zj, Zk, Zm])
      by_cases c15 : ((((rd_T69 l0 x310_1).f0).toList) == a1_0.toList && (((rd_T69 l0 x310_1).f1) == a1_1 && (((rd_T69 l0 x310_1).f2) == a1_2 && (((rd_T69 l0 x310_1).f3) == a1_3)))) = T
      ·rw [if_pos c15] at H
       have c15b0 : ((((rd_T69 l0 x310_1).f0).toList) == a1_0.toList && (((rd_T69 l0 x310_1).f1) == a1_1 && (((rd_T69 l0 x310_1).f2) == a1_2 && (((rd_T69 l0 x310_1).f3) == a1_3)))) = T := c15
       (try (have c15b1 : decide ((((rd_T69 l0 x310_1).f0).toList) = a1_0.toList && (((rd_T69 l0 x310_1).f1) == a1_1 && (((rd_T69 l0 x310_1).f2) == a1_2 && (((rd_T69 l0 x310_1).f3) == a1_3)))) = T := by simpa using c15))
       (try (have c15b2 : ((((rd_T69 l0 x310_1).f0).toList) == a1_0.toList && (((rd_T69 l0 x310_1).f1) == a1_1 && (((rd_T69 l0 x310_1).f2) == a1_2 && (((rd_T69 l0 x310_1).f3) == a1_3)))) = T := by simpa using c15))
       clear c15
       (try simp only [c15b0])
       simp only [Option.some.injEq, Prod.mk.injEq] at H
       obtain ⟨rfl, rfl⟩ := H
       go_wp2
       go_ret2
       exact ⟨Zq, Zc3 GE210.out GE212.out GE213.out⟩
      rw [if_neg c15] at H
      have c15b0 : ((((rd_T69 l0 x310_1).f0).toList) == a1_0.toList && (((rd_T69 l0 x310_1).f1) == a1_1 && (((rd_T69 l0 x310_1).f2) == a1_2 && (((rd_T69 l0 x310_1).f3) == a1_3)))) = F := by simpa using c15
      (try (have c15b1 : decide ((((rd_T69 l0 x310_1).f0).toList) = a1_0.toList && (((rd_T69 l0 x310_1).f1) == a1_1 && (((rd_T69 l0 x310_1).f2) == a1_2 && (((rd_T69 l0 x310_1).f3) == a1_3)))) = F := by simpa using c15))
      (try (have c15b2 : ((((rd_T69 l0 x310_1).f0).toList) == a1_0.toList && (((rd_T69 l0 x310_1).f1) == a1_1 && (((rd_T69 l0 x310_1).f2) == a1_2 && (((rd_T69 l0 x310_1).f3) == a1_3)))) = F := by simpa using c15))
      (try (have c15b3 : ¬ ((((rd_T69 l0 x310_1).f0).toList) = a1_0.toList && (((rd_T69 l0 x310_1).f1) == a1_1 && (((rd_T69 l0 x310_1).f2) == a1_2 && (((rd_T69 l0 x310_1).f3) == a1_3)))) := by simpa using c15))
      clear c15
      (try simp only [c15b0])
      have H' := Aside0.mk H
      clear H
      go_wp2
      go_roundg k1
      case measure => have := HK1.out; omega
      case rel => exact ⟨(wrap64 (x310_1 + 1)), (Zs), H', ⟨by have := HK1.out; omega⟩, ⟨Zu BK210.out⟩, ⟨Zc3 GE210.out GE212.out GE213.out⟩⟩
     rw [if_neg c6] at H
     exact absurd H (by simp)
    rw [if_neg c5] at H
    exact absurd H (by simp)
   rw [if_neg c4] at H
   have c4b0 : decide (x310_1 < (l0.length : Int)) = F := decide_eq_false c4
   clear c4
   (try simp only [c4b0])
   simp only [Option.some.injEq, Prod.mk.injEq] at H
   obtain ⟨rfl, rfl⟩ := H
   go_wp2
   go_ret2
   exact ⟨Zq, Zc1 GE210.out⟩
end Go.Proofs.Ytgnmhfjfefgbfaa.Pr
