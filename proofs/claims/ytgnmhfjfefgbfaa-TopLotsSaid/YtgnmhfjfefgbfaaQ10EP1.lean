/- Functions' values and contracts, as the print wrote them. -/
import Derived.Test.YtgnmhfjfefgbfaaQ10EP0
namespace Go.Proofs.Ytgnmhfjfefgbfaa.Pr
open Go.RowKit Go.Proofs.YtgnmhfjfefgbfaaW.PrintWords Go.Proofs.YtgnmhfjfefgbfaaW.PrintLast Go.Proofs.YtgnmhfjfefgbfaaW.PrintMore
attribute [local go_sem] QaO QaQ QaU QaV QaK QaL QaP QaR   -- for this text's walks alone
set_option linter.unusedVariables false
set_option linter.unusedSimpArgs false
attribute [local go_sem high] eqA69
mutual
def QaA.l0 : Nat → List (S128) → List (S128) → List (S71) → Int → Int → Option ((List (S128)) × Int)
 | 0, _, _, _, _, _ => none
 | k + 1, x1, x4, x16, x17, x18 => if x18 < x17 then (if 0 ≤ x18 then (if x18 < (x16.length : Int) then (QaA.l1 k x1 x4 x16 x17 x18 x1 (x1.length : Int) 0 ((rd_T71 x16 x18).f0.f0) ((rd_T71 x16 x18).f0.f1) ((rd_T71 x16 x18).f0.f2) ((rd_T71 x16 x18).f0.f3) ((rd_T71 x16 x18).f1) ((rd_T71 x16 x18).f2)) else (none)) else (none)) else (some (x4, 0))
def QaA.l1 : Nat → List (S128) → List (S128) → List (S71) → Int → Int → List (S128) → Int → Int → ByteArray → Int → Int → Int → Int → Int → Option ((List (S128)) × Int)
 | 0, _, _, _, _, _, _, _, _, _, _, _, _, _, _ => none
 | k + 1, x1, x4, x16, x17, x18, x22, x23, x24, x129000, x129001, x129002, x129003, x129004, x129005 => if x24 < x23 then (if 0 ≤ x24 then (if x24 < (x22.length : Int) then (if ((((Qaa x22 x24).f0.f0).toList) == x129000.toList && (((Qaa x22 x24).f0.f1) == x129001 && (((Qaa x22 x24).f0.f2) == x129002 && (((Qaa x22 x24).f0.f3) == x129003)))) = true then (if x4.length < 1954687338268 then (QaA.l0 k x1 (x4 ++ [(⟨(⟨(Qaa x22 x24).f0.f0, (Qaa x22 x24).f0.f1, (Qaa x22 x24).f0.f2, (Qaa x22 x24).f0.f3⟩ : S69), (Qaa x22 x24).f1, (Qaa x22 x24).f2⟩ : S128)]) x16 x17 (wrap64 (x18 + 1))) else (none)) else (QaA.l1 k x1 x4 x16 x17 x18 x22 x23 (wrap64 (x24 + 1)) x129000 x129001 x129002 x129003 x129004 x129005)) else (none)) else (none)) else (some (([] : List (S128)), 11))
end
def QaA.f (k : Nat) (l0 : List (S71)) (l1 : List (S128)) : Option ((List (S128)) × Int) := (Qa0.f k l0 l1).bind fun t126 => (if t126 = 0 then (QaA.l0 k l1 ([] : List (S128)) l0 (l0.length : Int) 0) else (some (([] : List (S128)), t126)))
theorem QaA.mono_l : ∀ k, (∀ y0 y1 y2 y3 y4, LeO (QaA.l0 k y0 y1 y2 y3 y4) (QaA.l0 (k + 1) y0 y1 y2 y3 y4)) ∧ (∀ y0 y1 y2 y3 y4 y5 y6 y7 y8 y9 y10 y11 y12 y13, LeO (QaA.l1 k y0 y1 y2 y3 y4 y5 y6 y7 y8 y9 y10 y11 y12 y13) (QaA.l1 (k + 1) y0 y1 y2 y3 y4 y5 y6 y7 y8 y9 y10 y11 y12 y13))
 | 0 => ⟨fun _ _ _ _ _ r h => by simp [QaA.l0] at h, fun _ _ _ _ _ _ _ _ _ _ _ _ _ _ r h => by simp [QaA.l1] at h⟩
 | k + 1 => by
  obtain ⟨ih0, ih1⟩ := QaA.mono_l k
  refine ⟨?_, ?_⟩
  ·intro y0 y1 y2 y3 y4
   unfold QaA.l0
   exact ZM3 ih0 ih1 Qa0.mono
  intro y0 y1 y2 y3 y4 y5 y6 y7 y8 y9 y10 y11 y12 y13
  unfold QaA.l1
  exact ZM3 ih0 ih1 Qa0.mono
theorem QaA.mono : ∀ a0 a1 k, LeO (QaA.f k a0 a1) (QaA.f (k + 1) a0 a1) := by
 intro a0 a1 k
 obtain ⟨ih0, ih1⟩ := QaA.mono_l k
 unfold QaA.f
 exact ZM3 ih0 ih1 Qa0.mono
set_option maxHeartbeats 8000000 in
set_option maxRecDepth 100000 in
theorem QaA.calls (k : Nat) (A0 : Option Addr) (c0 : Nat) (l0 : List (S71)) (P1_ : Nat → Prop) (A1 : Option Addr) (c1 : Nat) (l1 : List (S128)) (r1 : List (S128)) (r2 : Int) (w : World) (hr0 : Kd.C k71 w A0 l0.length l0) (hc0 : l0.length ≤ c0) (hs1 : Kd.V k128 128 w w.heap.size (fun k_ => P1_ k_) (.slice A1 l1.length c1) l1) (h : QaA.f k l0 l1 = some (r1, r2)) :
  Calls Try.prog 58 #[.slice A0 l0.length c0, .slice A1 l1.length c1] w fun e w' => ∃ v0_ : Value, e = .returned (.tuple #[v0_, .int .i64 r2]) ∧ Kd.N k128 128 w' w.heap.size (fun k_ => (P1_ k_ ∨ w.heap.size ≤ k_)) v0_ r1 ∧ Below w.heap.size w w' := by
 have hu71 := Try.underlying71
 have hu128 := Try.underlying128
 have hu69 := Try.underlying69
 have HR0 := Aside0.mk hr0
 have HC0 := Aside0.mk hc0
 clear hr0 hc0
 have HO1 := Aside0.mk (show Kd.V k128 128 w w.heap.size (fun k_ => (P1_ k_ ∨ w.heap.size ≤ k_)) (.slice A1 l1.length c1) l1 from Kd.V_mono hs1 (fun k_ hk => .inl hk))
 have HB := Aside0.mk (Below.refl w.heap.size w)
 have H : ((Qa0.f k l0 l1).bind fun t126 => (if t126 = 0 then (QaA.l0 k l1 ([] : List (S128)) l0 (l0.length : Int) 0) else (some (([] : List (S128)), t126)))) = some (r1, r2) := h
 clear h
 replace H := Option.bind_eq_some_iff.mp H
 obtain ⟨t126, A30, H⟩ := H
 replace H : (if t126 = 0 then (QaA.l0 k l1 ([] : List (S128)) l0 (l0.length : Int) 0) else (some (([] : List (S128)), t126))) = some (r1, r2) := H
 have A3 := Aside0.mk A30
 clear A30
 go_enter Try.func58, Try.ntmps58
 try go_wp2
 refine Qej ?_
 go_upto_if 14 with (first | ((with_reducible refine QaF (f := 141) rfl ?_); refine goesL_ (some 12) rfl rfl Try.func141 (by kernel_rfl) rfl #[.slice A0 l0.length c0, .slice A1 l1.length c1] rfl (Zl) ?_; (with_reducible refine (Qa0.calls k _ _ l0 _ _ l1 t126 _ ?side1 ?side2 ?side3 ?side4 A3.out).mono ?_); (case side1 => exact Zv HR0.out); (case side2 => exact HC0.out); (case side3 => exact Zv (Kd.V_reads' HO1.out).2.2); (case side4 => exact (Kd.V_reads' HO1.out).2.1); rintro e w4 ⟨rfl, hb⟩; refine ⟨_, rfl, ?_⟩; replace HO1 := Aside0.mk (Kd.V_below (by (with_reducible repeat (first | apply Kd.V_alloc | apply Kd.V_drewN | apply Kd.V_drew)); exact HO1.out) hb); replace HB := Aside0.mk (Qav (Zb) hb); (try clear hb); (try clear hb2); (try clear hk); (try clear hi)))
 (try simp only [Act.put, Zj, Zk, Zm])
 by_cases c5 : t126 = 0
 ·rw [if_pos c5] at H
  have c5b0 : (t126 == 0) = true := beq_iff_eq.mpr c5
  have c5b1 : (t126 != 0) = false := bne_eq_false_iff_eq.mpr c5
  clear c5
  (try simp only [c5b0, c5b1])
  have H' := Aside0.mk H
  clear H
  go_wp2
  go_step3
  go_wp2
  go_loopg [4, 18] k (fun kq v4 v18 w' => ∃ (x4_1 : List (S128)) (x18_1 : Int), v18 = .int .i64 x18_1 ∧ Aside0 (QaA.l0 kq l1 x4_1 l0 (l0.length : Int) x18_1 = some (r1, r2)) ∧ Aside0 (kq ≤ k) ∧ Aside0 (Kd.V k128 128 w' w.heap.size (fun k_ => (P1_ k_ ∨ w.heap.size ≤ k_) ∧ some k_ ≠ (v4 : Value).ownBlock) (.slice A1 l1.length c1) l1) ∧ Aside0 (Kd.N k128 128 w' w.heap.size (fun k_ => (P1_ k_ ∨ w.heap.size ≤ k_)) v4 x4_1) ∧ Aside0 (Below w.heap.size w w'))
  case atStart => exact ⟨(([] : List (S128))), (0), (Zs), H', ⟨Nat.le_refl _⟩, ⟨by (with_reducible repeat (first | apply Kd.V_alloc | apply Kd.V_drewN | apply Kd.V_drew)); exact Kd.V_mono HO1.out (fun _ hk => ⟨hk, (by simp [Value.ownBlock])⟩)⟩, ⟨by first | exact Kd.S_nil _ _ _ _ _ | exact Kd.N_nil _ _ _ _ _ | exact Kd.V_nil _ _ _ _ _ | exact Kd.Q_nil _ _ _ _ _ | exact Kd.R_nil _ _ _ _ _⟩, ⟨Zb⟩⟩
  case round =>
   clear H'
   try clear c1
   try clear p2
   try clear p3
   try clear c5
   try clear c5b0
   try clear c5b1
   obtain ⟨x4_1, x18_1, rfl, HA, HK1, HO_1, HO_4, HB⟩ := hrel
   cases gk with
   | zero => exact absurd HA.out (by simp [QaA.l0])
   | succ k1 =>
    have H := HA.out
    clear HA
    simp only [QaA.l0] at H
    by_cases c6 : x18_1 < (l0.length : Int)
    ·rw [if_pos c6] at H
     have c6b0 : decide (x18_1 < (l0.length : Int)) = true := decide_eq_true c6
     clear c6
     (try simp only [c6b0])
     by_cases c7 : 0 ≤ x18_1
     ·rw [if_pos c7] at H
      have c7b0 : decide (0 ≤ x18_1) = true := decide_eq_true c7
      clear c7
      by_cases c8 : x18_1 < (l0.length : Int)
      ·rw [if_pos c8] at H
       have c8b0 : decide (x18_1 < (l0.length : Int)) = true := decide_eq_true c8
       clear c8
       have H' := Aside0.mk H
       clear H
       have p127 : 0 ≤ (x18_1 : Int) := Ze
       have q127 : x18_1 < (l0.length : Int) := Ze
       obtain ⟨ad127, e127, hx127_0, hx127_1, hx127_2, hx127_3, hx127_4, hx127_5⟩ := at_T71 HR0.out x18_1 p127 q127
       cases e127
       replace hx127_0 := Zx HB.out hx127_0
       replace hx127_1 := Zx HB.out hx127_1
       replace hx127_2 := Zx HB.out hx127_2
       replace hx127_3 := Zx HB.out hx127_3
       replace hx127_4 := Zx HB.out hx127_4
       replace hx127_5 := Zx HB.out hx127_5
       replace p127 := eq_true p127
       replace q127 := eq_true q127
       go_wp2_with (first | ((with_reducible refine QaX (N := 7) rfl ?_); refine Zbx (N := 7) (cs := #[.string (⟨#[]⟩ : ByteArray), .int .i64 0, .int .i64 0, .int .i64 0, .int .i64 0, .int .i64 0]) (t := 71) ?_; intro gb128 hg w9 hbox hb; have BK128 := Aside0.mk (hbox); have GW128 := Aside0.mk (Zt w hg (Zb)); have GE128 := GW128; replace HO_1 := Aside0.mk (Kd.V_below (Kd.V_elderB (by (with_reducible repeat (first | apply Kd.V_alloc | apply Kd.V_drewN | apply Kd.V_drew)); exact HO_1.out) gb128 (Nat.le_of_eq hg.symm)) hb); replace HO_4 := Aside0.mk (Kd.N_below (Kd.N_elderB (by (with_reducible repeat (first | apply Kd.N_alloc | apply Kd.N_drewN | apply Kd.N_drew)); exact HO_4.out) gb128 (Nat.le_of_eq hg.symm)) hb); replace HB := Aside0.mk (Qav (Zb) hb); clear hb hbox hg; obtain ⟨hcz10_0, hfz10_0⟩ := Zy (v := (.string (⟨#[]⟩ : ByteArray))) BK128.out 0; obtain ⟨hcz10_1, hfz10_1⟩ := Zy (v := (.int .i64 0)) BK128.out 1; obtain ⟨hcz10_2, hfz10_2⟩ := Zy (v := (.int .i64 0)) BK128.out 2; obtain ⟨hcz10_3, hfz10_3⟩ := Zy (v := (.int .i64 0)) BK128.out 3; obtain ⟨hcz10_4, hfz10_4⟩ := Zy (v := (.int .i64 0)) BK128.out 4; obtain ⟨hcz10_5, hfz10_5⟩ := Zy (v := (.int .i64 0)) BK128.out 5) | ((with_reducible refine Qba (t := 71) (p := 7) rfl ?_); refine Qa6 (t := 71) (p := 7) (v := ?vo_w11) (w1 := ((((((w9.setCell ⟨gb128, 0, none⟩ (.string ((rd_T71 l0 x18_1).f0.f0))).setCell ⟨gb128, 1, none⟩ (.int .i64 ((rd_T71 l0 x18_1).f0.f1))).setCell ⟨gb128, 2, none⟩ (.int .i64 ((rd_T71 l0 x18_1).f0.f2))).setCell ⟨gb128, 3, none⟩ (.int .i64 ((rd_T71 l0 x18_1).f0.f3))).setCell ⟨gb128, 4, none⟩ (.int .i64 ((rd_T71 l0 x18_1).f1))).setCell ⟨gb128, 5, none⟩ (.int .i64 ((rd_T71 l0 x18_1).f2)))) ?hg ?ho ?hn ?hr ?_; (case ho => rfl); (case hg => rfl); (case hn => rfl); (case hr => first | (exact Qbl (cs := #[.string (⟨#[]⟩ : ByteArray), .int .i64 0, .int .i64 0, .int .i64 0, .int .i64 0, .int .i64 0]) (seg := [.string ((rd_T71 l0 x18_1).f0.f0), .int .i64 ((rd_T71 l0 x18_1).f0.f1), .int .i64 ((rd_T71 l0 x18_1).f0.f2), .int .i64 ((rd_T71 l0 x18_1).f0.f3), .int .i64 ((rd_T71 l0 x18_1).f1), .int .i64 ((rd_T71 l0 x18_1).f2)]) BK128.out rfl (by first | rfl | (go_simp; done)) (by first | rfl | (go_simp; done)) (by rfl) (by first | rfl | kernel_rfl) (by simp) (by first | rfl | simp [Value.oneCell'])) | (go_simp; done) | (go_simp; rfl)); intro w11 hw; replace HO_1 : Aside0 (Kd.V k128 128 w11 w.heap.size (fun k_ => (P1_ k_ ∨ w.heap.size ≤ k_) ∧ some k_ ≠ (u4 : Value).ownBlock ∧ k_ ≠ gb128) (.slice A1 l1.length c1) l1) := ⟨(by rw [hw]; exact (by (with_reducible repeat (first | apply Kd.V_alloc | apply Kd.V_drewN | apply Kd.V_drew)); exact Kd.V_mono (Kd.V_far (p := ⟨gb128, 5, none⟩) (Kd.V_far (p := ⟨gb128, 4, none⟩) (Kd.V_far (p := ⟨gb128, 3, none⟩) (Kd.V_far (p := ⟨gb128, 2, none⟩) (Kd.V_far (p := ⟨gb128, 1, none⟩) (Kd.V_far (p := ⟨gb128, 0, none⟩) (Kd.V_mono HO_1.out (fun k_ hk => (⟨hk, hk.2⟩ : _ ∧ k_ ≠ gb128))) (fun _ hk => hk.2) (.string ((rd_T71 l0 x18_1).f0.f0))) (fun _ hk => hk.2) (.int .i64 ((rd_T71 l0 x18_1).f0.f1))) (fun _ hk => hk.2) (.int .i64 ((rd_T71 l0 x18_1).f0.f2))) (fun _ hk => hk.2) (.int .i64 ((rd_T71 l0 x18_1).f0.f3))) (fun _ hk => hk.2) (.int .i64 ((rd_T71 l0 x18_1).f1))) (fun _ hk => hk.2) (.int .i64 ((rd_T71 l0 x18_1).f2))) (fun _ hk => ⟨hk.1.1.1, ⟨hk.1.1.2, hk.1.2⟩⟩)))⟩; replace HO_4 : Aside0 (Kd.N k128 128 w11 w.heap.size (fun k_ => (P1_ k_ ∨ w.heap.size ≤ k_) ∧ k_ ≠ gb128) u4 x4_1) := ⟨(by rw [hw]; exact (by (with_reducible repeat (first | apply Kd.N_alloc | apply Kd.N_drewN | apply Kd.N_drew)); exact Kd.N_mono (Kd.N_far (p := ⟨gb128, 5, none⟩) (Kd.N_far (p := ⟨gb128, 4, none⟩) (Kd.N_far (p := ⟨gb128, 3, none⟩) (Kd.N_far (p := ⟨gb128, 2, none⟩) (Kd.N_far (p := ⟨gb128, 1, none⟩) (Kd.N_far (p := ⟨gb128, 0, none⟩) (Kd.N_mono HO_4.out (fun k_ hk => (⟨hk, hk.2⟩ : _ ∧ k_ ≠ gb128))) (fun _ hk => hk.2) (.string ((rd_T71 l0 x18_1).f0.f0))) (fun _ hk => hk.2) (.int .i64 ((rd_T71 l0 x18_1).f0.f1))) (fun _ hk => hk.2) (.int .i64 ((rd_T71 l0 x18_1).f0.f2))) (fun _ hk => hk.2) (.int .i64 ((rd_T71 l0 x18_1).f0.f3))) (fun _ hk => hk.2) (.int .i64 ((rd_T71 l0 x18_1).f1))) (fun _ hk => hk.2) (.int .i64 ((rd_T71 l0 x18_1).f2))) (fun _ hk => ⟨hk.1.1, hk.1.2⟩)))⟩; replace BK128 : Aside0 (w11.heap[gb128]? = some (.cells #[.string ((rd_T71 l0 x18_1).f0.f0), .int .i64 ((rd_T71 l0 x18_1).f0.f1), .int .i64 ((rd_T71 l0 x18_1).f0.f2), .int .i64 ((rd_T71 l0 x18_1).f0.f3), .int .i64 ((rd_T71 l0 x18_1).f1), .int .i64 ((rd_T71 l0 x18_1).f2)] 71 (0, 0))) := ⟨(by rw [hw]; exact (Zp2 BK128.out))⟩; replace HB : Aside0 (Below w.heap.size w w11) := ⟨(by rw [hw]; exact (Zc1 GE128.out))⟩; clear hw))
       go_loopg [4, 24] k1 (fun kq v4 v24 w' => ∃ (x4_2 : List (S128)) (x24_2 : Int), v24 = .int .i64 x24_2 ∧ Aside0 (QaA.l1 kq l1 x4_2 l0 (l0.length : Int) x18_1 l1 (l1.length : Int) x24_2 ((rd_T71 l0 x18_1).f0.f0) ((rd_T71 l0 x18_1).f0.f1) ((rd_T71 l0 x18_1).f0.f2) ((rd_T71 l0 x18_1).f0.f3) ((rd_T71 l0 x18_1).f1) ((rd_T71 l0 x18_1).f2) = some (r1, r2)) ∧ Aside0 (kq ≤ k1) ∧ Aside0 (Kd.V k128 128 w' w.heap.size (fun k_ => (P1_ k_ ∨ w.heap.size ≤ k_) ∧ some k_ ≠ (v4 : Value).ownBlock ∧ k_ ≠ gb128) (.slice A1 l1.length c1) l1) ∧ Aside0 (Kd.N k128 128 w' w.heap.size (fun k_ => (P1_ k_ ∨ w.heap.size ≤ k_) ∧ k_ ≠ gb128) v4 x4_2) ∧ Aside0 (Kd.V k128 128 w' w.heap.size (fun k_ => (P1_ k_ ∨ w.heap.size ≤ k_) ∧ some k_ ≠ (v4 : Value).ownBlock ∧ k_ ≠ gb128) (.slice A1 l1.length c1) l1) ∧ Aside0 (w'.heap[gb128]? = some (.cells #[.string ((rd_T71 l0 x18_1).f0.f0), .int .i64 ((rd_T71 l0 x18_1).f0.f1), .int .i64 ((rd_T71 l0 x18_1).f0.f2), .int .i64 ((rd_T71 l0 x18_1).f0.f3), .int .i64 ((rd_T71 l0 x18_1).f1), .int .i64 ((rd_T71 l0 x18_1).f2)] 71 (0, 0))) ∧ Aside0 (Below w.heap.size w w'))
       case atStart => exact ⟨(x4_1), (0), (Zs), H', ⟨Nat.le_refl _⟩, ⟨by (with_reducible repeat (first | apply Kd.V_alloc | apply Kd.V_drewN | apply Kd.V_drew)); exact HO_1.out⟩, ⟨by (with_reducible repeat (first | apply Kd.N_alloc | apply Kd.N_drewN | apply Kd.N_drew)); exact HO_4.out⟩, ⟨by (with_reducible repeat (first | apply Kd.V_alloc | apply Kd.V_drewN | apply Kd.V_drew)); exact HO_1.out⟩, ⟨Zu BK128.out⟩, ⟨Zc1 GE128.out⟩⟩
       case round =>
        clear H'
        try clear c1
        try clear p1
        try clear q1
        try clear hx1
        try clear p2
        try clear p3
        try clear c5
        try clear c5b0
        try clear c5b1
        try clear c6
        try clear c6b0
        try clear c7
        try clear c7b0
        try clear c8
        try clear c8b0
        try clear hcz10_0
        try clear hcz10_1
        try clear hcz10_2
        try clear hcz10_3
        try clear hcz10_4
        try clear hcz10_5
        try clear hfz10_0
        try clear hfz10_1
        try clear hfz10_2
        try clear hfz10_3
        try clear hfz10_4
        try clear hfz10_5
        try clear hx127_0
        try clear hx127_1
        try clear hx127_2
        try clear hx127_3
        try clear hx127_4
        try clear hx127_5
        try clear p127
        try clear p2
        try clear p3
        try clear q127
        obtain ⟨x4_2, x24_2, rfl, HA, HK2, HO_1, HO_4, HO_22, BK128, HB⟩ := hrel
        cases gk with
        | zero => exact absurd HA.out (by simp [QaA.l1])
        | succ k2 =>
         have H := HA.out
         clear HA
         simp only [QaA.l1] at H
         by_cases c12 : x24_2 < (l1.length : Int)
         ·rw [if_pos c12] at H
          have c12b0 : decide (x24_2 < (l1.length : Int)) = true := decide_eq_true c12
          clear c12
          (try simp only [c12b0])
          by_cases c13 : 0 ≤ x24_2
          ·rw [if_pos c13] at H
           have c13b0 : decide (0 ≤ x24_2) = true := decide_eq_true c13
           clear c13
           by_cases c14 : x24_2 < (l1.length : Int)
           ·rw [if_pos c14] at H
            have c14b0 : decide (x24_2 < (l1.length : Int)) = true := decide_eq_true c14
            clear c14
            have p129 : 0 ≤ (x24_2 : Int) := Ze
            have q129 : x24_2 < (l1.length : Int) := Ze
            obtain ⟨ad129, A129_4, c129_4, e129, hx129_0, hx129_1, hx129_2, hx129_3, hx129_4, hx129_5, hl129_4, hi129_4⟩ := Qbm (Kd.V_reads' HO_22.out).2.2 x24_2 p129 q129
            cases e129
            obtain ⟨ce129, hce129, hMe129, hcc129⟩ := Kd.V_get HO_22.out z128 x24_2 p129 (by first | exact q129 | exact Ze | (have e_ := (Kd.V_reads' HO_22.out).1; omega))
            obtain ⟨ua129_4, uc129_4, rfl, ul129_4, ge129_4⟩ := Qbo hMe129
            have hv129_4 := hcc129 4 _ rfl
            rw [QaZ _ _ 4 (by omega)] at hv129_4
            replace hv129_4 := Option.some.inj (hv129_4.symm.trans hx129_4)
            injection hv129_4 with hva_ hvn_ hvc_
            rw [hva_] at ge129_4
            rw [hvc_] at ul129_4
            have HL129_4 := Aside0.mk (show Kd.V (Kd.int .i64) 3 _ w.heap.size _ _ ((Qaa l1 x24_2).f1) from Kd.V_mk ul129_4 ge129_4)
            clear hva_ hvn_ hvc_ ge129_4 ul129_4
            clear hcc129 hce129
            have HR129_4 := Aside0.mk hi129_4
            have HC129_4 := Aside0.mk hl129_4
            clear hi129_4 hl129_4
            replace p129 := eq_true p129
            replace q129 := eq_true q129
            go_upto_if 32 with (first | ((with_reducible refine QaX (N := 9) rfl ?_); refine Zbx (N := 9) (cs := #[.string (⟨#[]⟩ : ByteArray), .int .i64 0, .int .i64 0, .int .i64 0, .slice none 0 0, .int .i64 0]) (t := 128) ?_; intro gb130 hg w15 hbox hb; have BK130 := Aside0.mk (hbox); have GW130 := Aside0.mk (Zt w hg (Zc1 GE128.out)); have GE130 := GW130; have NB128_130 := Aside0.mk (Zn hg BK128.out); have NB130_128 := Aside0.mk NB128_130.out.symm; replace HO_1 := Aside0.mk (Kd.V_below (Kd.V_elderB (by (with_reducible repeat (first | apply Kd.V_alloc | apply Kd.V_drewN | apply Kd.V_drew)); exact HO_1.out) gb130 (Nat.le_of_eq hg.symm)) hb); replace HO_4 := Aside0.mk (Kd.N_below (Kd.N_elderB (by (with_reducible repeat (first | apply Kd.N_alloc | apply Kd.N_drewN | apply Kd.N_drew)); exact HO_4.out) gb130 (Nat.le_of_eq hg.symm)) hb); replace HO_22 := Aside0.mk (Kd.V_below (Kd.V_elderB (by (with_reducible repeat (first | apply Kd.V_alloc | apply Kd.V_drewN | apply Kd.V_drew)); exact HO_22.out) gb130 (Nat.le_of_eq hg.symm)) hb); replace HL129_4 := Aside0.mk (Kd.V_below (Kd.V_elderB (by (with_reducible repeat (first | apply Kd.V_alloc | apply Kd.V_drewN | apply Kd.V_drew)); exact HL129_4.out) gb130 (Nat.le_of_eq hg.symm)) hb); replace BK128 := Aside0.mk (Zi BK128.out hb); replace HR129_4 := Aside0.mk (Kd.C_below (by repeat (first | (with_reducible exact HR129_4.out) | (with_reducible refine Kd.C_alloc ?_ _) | (with_reducible refine Kd.C_drewN ?_ _) | (with_reducible refine Kd.C_drew ?_) | exact HR129_4.out)) hb); replace HB := Aside0.mk (Qav (Zc1 GE128.out) hb); clear hb hbox hg; have hnb16 := NB130_128.out; have hnc16 := NB128_130.out; obtain ⟨hcz17_0, hfz17_0⟩ := Zy (v := (.string (⟨#[]⟩ : ByteArray))) BK130.out 0; obtain ⟨hcz17_1, hfz17_1⟩ := Zy (v := (.int .i64 0)) BK130.out 1; obtain ⟨hcz17_2, hfz17_2⟩ := Zy (v := (.int .i64 0)) BK130.out 2; obtain ⟨hcz17_3, hfz17_3⟩ := Zy (v := (.int .i64 0)) BK130.out 3; obtain ⟨hcz17_4, hfz17_4⟩ := Zy (v := (.slice none 0 0)) BK130.out 4; obtain ⟨hcz17_5, hfz17_5⟩ := Zy (v := (.int .i64 0)) BK130.out 5) | ((with_reducible refine Qba (t := 128) (p := 9) rfl ?_); refine Qa6 (t := 128) (p := 9) (v := ?vo_w18) (w1 := ((((((w15.setCell ⟨gb130, 0, none⟩ (.string ((Qaa l1 x24_2).f0.f0))).setCell ⟨gb130, 1, none⟩ (.int .i64 ((Qaa l1 x24_2).f0.f1))).setCell ⟨gb130, 2, none⟩ (.int .i64 ((Qaa l1 x24_2).f0.f2))).setCell ⟨gb130, 3, none⟩ (.int .i64 ((Qaa l1 x24_2).f0.f3))).setCell ⟨gb130, 4, none⟩ (.slice A129_4 ((Qaa l1 x24_2).f1).length c129_4)).setCell ⟨gb130, 5, none⟩ (.int .i64 ((Qaa l1 x24_2).f2)))) ?hg ?ho ?hn ?hr ?_; (case ho => rfl); (case hg => rfl); (case hn => rfl); (case hr => first | (exact Qbl (cs := #[.string (⟨#[]⟩ : ByteArray), .int .i64 0, .int .i64 0, .int .i64 0, .slice none 0 0, .int .i64 0]) (seg := [.string ((Qaa l1 x24_2).f0.f0), .int .i64 ((Qaa l1 x24_2).f0.f1), .int .i64 ((Qaa l1 x24_2).f0.f2), .int .i64 ((Qaa l1 x24_2).f0.f3), .slice A129_4 ((Qaa l1 x24_2).f1).length c129_4, .int .i64 ((Qaa l1 x24_2).f2)]) BK130.out rfl (by first | rfl | (go_simp; done)) (by first | rfl | (go_simp; done)) (by rfl) (by first | rfl | kernel_rfl) (by simp) (by first | rfl | simp [Value.oneCell'])) | (go_simp; done) | (go_simp; rfl)); intro w18 hw; replace HO_1 : Aside0 (Kd.V k128 128 w18 w.heap.size (fun k_ => (P1_ k_ ∨ w.heap.size ≤ k_) ∧ some k_ ≠ (u4 : Value).ownBlock ∧ k_ ≠ gb128 ∧ k_ ≠ gb130) (.slice (some ad129) l1.length c1) l1) := ⟨(by rw [hw]; exact (by (with_reducible repeat (first | apply Kd.V_alloc | apply Kd.V_drewN | apply Kd.V_drew)); exact Kd.V_mono (Kd.V_far (p := ⟨gb130, 5, none⟩) (Kd.V_far (p := ⟨gb130, 4, none⟩) (Kd.V_far (p := ⟨gb130, 3, none⟩) (Kd.V_far (p := ⟨gb130, 2, none⟩) (Kd.V_far (p := ⟨gb130, 1, none⟩) (Kd.V_far (p := ⟨gb130, 0, none⟩) (Kd.V_mono HO_1.out (fun k_ hk => (⟨hk, hk.2⟩ : _ ∧ k_ ≠ gb130))) (fun _ hk => hk.2) (.string ((Qaa l1 x24_2).f0.f0))) (fun _ hk => hk.2) (.int .i64 ((Qaa l1 x24_2).f0.f1))) (fun _ hk => hk.2) (.int .i64 ((Qaa l1 x24_2).f0.f2))) (fun _ hk => hk.2) (.int .i64 ((Qaa l1 x24_2).f0.f3))) (fun _ hk => hk.2) (.slice A129_4 ((Qaa l1 x24_2).f1).length c129_4)) (fun _ hk => hk.2) (.int .i64 ((Qaa l1 x24_2).f2))) (fun _ hk => ⟨hk.1.1.1, ⟨hk.1.1.2.1, ⟨hk.1.1.2.2, hk.1.2⟩⟩⟩)))⟩; replace HO_4 : Aside0 (Kd.N k128 128 w18 w.heap.size (fun k_ => (P1_ k_ ∨ w.heap.size ≤ k_) ∧ k_ ≠ gb128 ∧ k_ ≠ gb130) u4 x4_2) := ⟨(by rw [hw]; exact (by (with_reducible repeat (first | apply Kd.N_alloc | apply Kd.N_drewN | apply Kd.N_drew)); exact Kd.N_mono (Kd.N_far (p := ⟨gb130, 5, none⟩) (Kd.N_far (p := ⟨gb130, 4, none⟩) (Kd.N_far (p := ⟨gb130, 3, none⟩) (Kd.N_far (p := ⟨gb130, 2, none⟩) (Kd.N_far (p := ⟨gb130, 1, none⟩) (Kd.N_far (p := ⟨gb130, 0, none⟩) (Kd.N_mono HO_4.out (fun k_ hk => (⟨hk, hk.2⟩ : _ ∧ k_ ≠ gb130))) (fun _ hk => hk.2) (.string ((Qaa l1 x24_2).f0.f0))) (fun _ hk => hk.2) (.int .i64 ((Qaa l1 x24_2).f0.f1))) (fun _ hk => hk.2) (.int .i64 ((Qaa l1 x24_2).f0.f2))) (fun _ hk => hk.2) (.int .i64 ((Qaa l1 x24_2).f0.f3))) (fun _ hk => hk.2) (.slice A129_4 ((Qaa l1 x24_2).f1).length c129_4)) (fun _ hk => hk.2) (.int .i64 ((Qaa l1 x24_2).f2))) (fun _ hk => ⟨hk.1.1.1, ⟨hk.1.1.2, hk.1.2⟩⟩)))⟩; replace HO_22 : Aside0 (Kd.V k128 128 w18 w.heap.size (fun k_ => (P1_ k_ ∨ w.heap.size ≤ k_) ∧ some k_ ≠ (u4 : Value).ownBlock ∧ k_ ≠ gb128 ∧ k_ ≠ gb130) (.slice (some ad129) l1.length c1) l1) := ⟨(by rw [hw]; exact (by (with_reducible repeat (first | apply Kd.V_alloc | apply Kd.V_drewN | apply Kd.V_drew)); exact Kd.V_mono (Kd.V_far (p := ⟨gb130, 5, none⟩) (Kd.V_far (p := ⟨gb130, 4, none⟩) (Kd.V_far (p := ⟨gb130, 3, none⟩) (Kd.V_far (p := ⟨gb130, 2, none⟩) (Kd.V_far (p := ⟨gb130, 1, none⟩) (Kd.V_far (p := ⟨gb130, 0, none⟩) (Kd.V_mono HO_22.out (fun k_ hk => (⟨hk, hk.2⟩ : _ ∧ k_ ≠ gb130))) (fun _ hk => hk.2) (.string ((Qaa l1 x24_2).f0.f0))) (fun _ hk => hk.2) (.int .i64 ((Qaa l1 x24_2).f0.f1))) (fun _ hk => hk.2) (.int .i64 ((Qaa l1 x24_2).f0.f2))) (fun _ hk => hk.2) (.int .i64 ((Qaa l1 x24_2).f0.f3))) (fun _ hk => hk.2) (.slice A129_4 ((Qaa l1 x24_2).f1).length c129_4)) (fun _ hk => hk.2) (.int .i64 ((Qaa l1 x24_2).f2))) (fun _ hk => ⟨hk.1.1.1, ⟨hk.1.1.2.1, ⟨hk.1.1.2.2, hk.1.2⟩⟩⟩)))⟩; replace HL129_4 : Aside0 (Kd.V (Kd.int .i64) 3 w18 w.heap.size (fun k_ => (P1_ k_ ∨ w.heap.size ≤ k_) ∧ some k_ ≠ (u4 : Value).ownBlock ∧ k_ ≠ gb128 ∧ k_ ≠ gb130) (.slice A129_4 ((Qaa l1 x24_2).f1).length c129_4) ((Qaa l1 x24_2).f1)) := ⟨(by rw [hw]; exact (by (with_reducible repeat (first | apply Kd.V_alloc | apply Kd.V_drewN | apply Kd.V_drew)); exact Kd.V_mono (Kd.V_far (p := ⟨gb130, 5, none⟩) (Kd.V_far (p := ⟨gb130, 4, none⟩) (Kd.V_far (p := ⟨gb130, 3, none⟩) (Kd.V_far (p := ⟨gb130, 2, none⟩) (Kd.V_far (p := ⟨gb130, 1, none⟩) (Kd.V_far (p := ⟨gb130, 0, none⟩) (Kd.V_mono HL129_4.out (fun k_ hk => (⟨hk, hk.2⟩ : _ ∧ k_ ≠ gb130))) (fun _ hk => hk.2) (.string ((Qaa l1 x24_2).f0.f0))) (fun _ hk => hk.2) (.int .i64 ((Qaa l1 x24_2).f0.f1))) (fun _ hk => hk.2) (.int .i64 ((Qaa l1 x24_2).f0.f2))) (fun _ hk => hk.2) (.int .i64 ((Qaa l1 x24_2).f0.f3))) (fun _ hk => hk.2) (.slice A129_4 ((Qaa l1 x24_2).f1).length c129_4)) (fun _ hk => hk.2) (.int .i64 ((Qaa l1 x24_2).f2))) (fun _ hk => ⟨hk.1.1.1, ⟨hk.1.1.2.1, ⟨hk.1.1.2.2, hk.1.2⟩⟩⟩)))⟩; replace BK128 : Aside0 (w18.heap[gb128]? = some (.cells #[.string ((rd_T71 l0 x18_1).f0.f0), .int .i64 ((rd_T71 l0 x18_1).f0.f1), .int .i64 ((rd_T71 l0 x18_1).f0.f2), .int .i64 ((rd_T71 l0 x18_1).f0.f3), .int .i64 ((rd_T71 l0 x18_1).f1), .int .i64 ((rd_T71 l0 x18_1).f2)] 71 (0, 0))) := ⟨(by rw [hw]; exact (Zg6 BK128.out NB128_130.out NB128_130.out NB128_130.out NB128_130.out NB128_130.out NB128_130.out))⟩; replace BK130 : Aside0 (w18.heap[gb130]? = some (.cells #[.string ((Qaa l1 x24_2).f0.f0), .int .i64 ((Qaa l1 x24_2).f0.f1), .int .i64 ((Qaa l1 x24_2).f0.f2), .int .i64 ((Qaa l1 x24_2).f0.f3), .slice A129_4 ((Qaa l1 x24_2).f1).length c129_4, .int .i64 ((Qaa l1 x24_2).f2)] 128 (0, 0))) := ⟨(by rw [hw]; exact (Zp2 BK130.out))⟩; replace HB : Aside0 (Below w.heap.size w w18) := ⟨(by rw [hw]; exact (Zc2 GE128.out GE130.out))⟩; clear hw; obtain ⟨hcz19_0, hfz19_0⟩ := Zy (v := (.string ((Qaa l1 x24_2).f0.f0))) BK130.out 0; obtain ⟨hcz19_1, hfz19_1⟩ := Zy (v := (.int .i64 ((Qaa l1 x24_2).f0.f1))) BK130.out 1; obtain ⟨hcz19_2, hfz19_2⟩ := Zy (v := (.int .i64 ((Qaa l1 x24_2).f0.f2))) BK130.out 2; obtain ⟨hcz19_3, hfz19_3⟩ := Zy (v := (.int .i64 ((Qaa l1 x24_2).f0.f3))) BK130.out 3; obtain ⟨hcz19_4, hfz19_4⟩ := Zy (v := (.slice A129_4 ((Qaa l1 x24_2).f1).length c129_4)) BK130.out 4; obtain ⟨hcz19_5, hfz19_5⟩ := Zy (v := (.int .i64 ((Qaa l1 x24_2).f2))) BK130.out 5; obtain ⟨hcz20_0, hfz20_0⟩ := Zy (v := (.string ((rd_T71 l0 x18_1).f0.f0))) BK128.out 0; obtain ⟨hcz20_1, hfz20_1⟩ := Zy (v := (.int .i64 ((rd_T71 l0 x18_1).f0.f1))) BK128.out 1; obtain ⟨hcz20_2, hfz20_2⟩ := Zy (v := (.int .i64 ((rd_T71 l0 x18_1).f0.f2))) BK128.out 2; obtain ⟨hcz20_3, hfz20_3⟩ := Zy (v := (.int .i64 ((rd_T71 l0 x18_1).f0.f3))) BK128.out 3; obtain ⟨hcz20_4, hfz20_4⟩ := Zy (v := (.int .i64 ((rd_T71 l0 x18_1).f1))) BK128.out 4; obtain ⟨hcz20_5, hfz20_5⟩ := Zy (v := (.int .i64 ((rd_T71 l0 x18_1).f2))) BK128.out 5))
            (try simp only [Act.put, Zj, Zk, Zm])
            by_cases c21 : ((((Qaa l1 x24_2).f0.f0).toList) == ((rd_T71 l0 x18_1).f0.f0).toList && (((Qaa l1 x24_2).f0.f1) == ((rd_T71 l0 x18_1).f0.f1) && (((Qaa l1 x24_2).f0.f2) == ((rd_T71 l0 x18_1).f0.f2) && (((Qaa l1 x24_2).f0.f3) == ((rd_T71 l0 x18_1).f0.f3))))) = true
            ·rw [if_pos c21] at H
             have c21b0 : ((((Qaa l1 x24_2).f0.f0).toList) == ((rd_T71 l0 x18_1).f0.f0).toList && (((Qaa l1 x24_2).f0.f1) == ((rd_T71 l0 x18_1).f0.f1) && (((Qaa l1 x24_2).f0.f2) == ((rd_T71 l0 x18_1).f0.f2) && (((Qaa l1 x24_2).f0.f3) == ((rd_T71 l0 x18_1).f0.f3))))) = true := c21
             (try (have c21b1 : decide ((((Qaa l1 x24_2).f0.f0).toList) = ((rd_T71 l0 x18_1).f0.f0).toList && (((Qaa l1 x24_2).f0.f1) == ((rd_T71 l0 x18_1).f0.f1) && (((Qaa l1 x24_2).f0.f2) == ((rd_T71 l0 x18_1).f0.f2) && (((Qaa l1 x24_2).f0.f3) == ((rd_T71 l0 x18_1).f0.f3))))) = true := by simpa using c21))
             (try (have c21b2 : ((((Qaa l1 x24_2).f0.f0).toList) == ((rd_T71 l0 x18_1).f0.f0).toList && (((Qaa l1 x24_2).f0.f1) == ((rd_T71 l0 x18_1).f0.f1) && (((Qaa l1 x24_2).f0.f2) == ((rd_T71 l0 x18_1).f0.f2) && (((Qaa l1 x24_2).f0.f3) == ((rd_T71 l0 x18_1).f0.f3))))) = true := by simpa using c21))
             clear c21
             (try simp only [c21b0])
             by_cases c22 : x4_2.length < 1954687338268
             ·rw [if_pos c22] at H
              have LMc22 := Aside0.mk c22
              clear c22
              obtain ⟨y131, hy131⟩ : ∃ y_ : List (S128), y_ = (x4_2 ++ [(⟨(⟨(Qaa l1 x24_2).f0.f0, (Qaa l1 x24_2).f0.f1, (Qaa l1 x24_2).f0.f2, (Qaa l1 x24_2).f0.f3⟩ : S69), (Qaa l1 x24_2).f1, (Qaa l1 x24_2).f2⟩ : S128)]) := ⟨_, rfl⟩
              replace H : (QaA.l0 k2 l1 y131 l0 (l0.length : Int) (wrap64 (x18_1 + 1))) = some (r1, r2) := by first | (rw [hy131]; with_reducible exact H) | (have H2_ := (Option.bind_some _ _).symm.trans H; rw [hy131]; with_reducible exact H2_) | (have H2_ := (Option.bind_some _ _).symm.trans H; with_reducible exact H2_) | with_reducible exact H | (rw [hy131]; exact H) | exact H
              have Ny131 := Aside0.mk hy131
              clear hy131
              have H' := Aside0.mk H
              clear H
              have hnb23 := NB130_128.out
              have hnc23 := NB128_130.out
              obtain ⟨hcz24_0, hfz24_0⟩ := Zy (v := (.string ((Qaa l1 x24_2).f0.f0))) BK130.out 0
              obtain ⟨hcz24_1, hfz24_1⟩ := Zy (v := (.int .i64 ((Qaa l1 x24_2).f0.f1))) BK130.out 1
              obtain ⟨hcz24_2, hfz24_2⟩ := Zy (v := (.int .i64 ((Qaa l1 x24_2).f0.f2))) BK130.out 2
              obtain ⟨hcz24_3, hfz24_3⟩ := Zy (v := (.int .i64 ((Qaa l1 x24_2).f0.f3))) BK130.out 3
              obtain ⟨hcz24_4, hfz24_4⟩ := Zy (v := (.slice A129_4 ((Qaa l1 x24_2).f1).length c129_4)) BK130.out 4
              obtain ⟨hcz24_5, hfz24_5⟩ := Zy (v := (.int .i64 ((Qaa l1 x24_2).f2))) BK130.out 5
              go_wp2_with (first | ((with_reducible refine Qa9 (b := .append) (xs := #[.tmp 33, .tmp 35]) rfl ?_); at_builtin; refine Kd.N_append k128 (w0 := w) w.heap.size rfl (.tmp 33) (.tmp 35) 38 128 (.agg #[(.string ⟨#[]⟩), (.int .i64 0), (.int .i64 0), (.int .i64 0), (.slice none 0 0), (.int .i64 0)]) 72 rfl Try.underlying38 Qd0 rfl (by decide) (by omega) u4 x4_2 (⟨(⟨(Qaa l1 x24_2).f0.f0, (Qaa l1 x24_2).f0.f1, (Qaa l1 x24_2).f0.f2, (Qaa l1 x24_2).f0.f3⟩ : S69), (Qaa l1 x24_2).f1, (Qaa l1 x24_2).f2⟩ : S128) [.string ((Qaa l1 x24_2).f0.f0), .int .i64 ((Qaa l1 x24_2).f0.f1), .int .i64 ((Qaa l1 x24_2).f0.f2), .int .i64 ((Qaa l1 x24_2).f0.f3), .slice A129_4 ((Qaa l1 x24_2).f1).length c129_4, .int .i64 ((Qaa l1 x24_2).f2)] (fun k_ => (P1_ k_ ∨ w.heap.size ≤ k_) ∧ k_ ≠ gb128 ∧ k_ ≠ gb130) (fun k_ => ((fun k_ => (P1_ k_ ∨ w.heap.size ≤ k_) ∧ k_ ≠ gb128 ∧ k_ ≠ gb130)) k_ ∧ some k_ ≠ (u4 : Value).ownBlock) rfl rfl ?aP (fun _ hk => hk) ?aF ?aO ?aB ?aS ?aL ?_; (case aP => exact (Qdq _ _ (⟨(⟨(Qaa l1 x24_2).f0.f0, (Qaa l1 x24_2).f0.f1, (Qaa l1 x24_2).f0.f2, (Qaa l1 x24_2).f0.f3⟩ : S69), (Qaa l1 x24_2).f1, (Qaa l1 x24_2).f2⟩ : S128) (Kd.V_reads' (Kd.V_mono (ok' := (fun k_ => ((fun k_ => (P1_ k_ ∨ w.heap.size ≤ k_) ∧ k_ ≠ gb128 ∧ k_ ≠ gb130)) k_ ∧ some k_ ≠ (u4 : Value).ownBlock)) (HL129_4.out) (fun k_ hk => ⟨⟨hk.1, ⟨hk.2.2.1, hk.2.2.2⟩⟩, hk.2.1⟩))).2.1 (Kd.V_F (Kd.V_mono (ok' := (fun k_ => ((fun k_ => (P1_ k_ ∨ w.heap.size ≤ k_) ∧ k_ ≠ gb128 ∧ k_ ≠ gb130)) k_ ∧ some k_ ≠ (u4 : Value).ownBlock)) (HL129_4.out) (fun k_ hk => ⟨⟨hk.1, ⟨hk.2.2.1, hk.2.2.2⟩⟩, hk.2.1⟩))))); (case aB => exact (Zc2 GE128.out GE130.out)); (case aF => exact (fun k_ hk => ⟨(.inr (Nat.le_trans (Qau (Zc2 GE128.out GE130.out)) hk)), Kd.freshB (g := gb128) (o := .cells #[.string ((rd_T71 l0 x18_1).f0.f0), .int .i64 ((rd_T71 l0 x18_1).f0.f1), .int .i64 ((rd_T71 l0 x18_1).f0.f2), .int .i64 ((rd_T71 l0 x18_1).f0.f3), .int .i64 ((rd_T71 l0 x18_1).f1), .int .i64 ((rd_T71 l0 x18_1).f2)] 71 (0, 0)) (Zu BK128.out) k_ hk, Kd.freshB (g := gb130) (o := .cells #[.string ((Qaa l1 x24_2).f0.f0), .int .i64 ((Qaa l1 x24_2).f0.f1), .int .i64 ((Qaa l1 x24_2).f0.f2), .int .i64 ((Qaa l1 x24_2).f0.f3), .slice A129_4 ((Qaa l1 x24_2).f1).length c129_4, .int .i64 ((Qaa l1 x24_2).f2)] 128 (0, 0)) (Zu BK130.out) k_ hk⟩)); (case aO => exact (by (with_reducible repeat (first | apply Kd.N_alloc | apply Kd.N_drewN | apply Kd.N_drew)); exact HO_4.out)); (case aS => exact (Qau (Zc2 GE128.out GE130.out))); (case aL => have := LMc22.out; omega); intro v132 w25 ho hb hg hat; rw [← Ny131.out] at ho; have HO133 := Aside0.mk (ho); replace HO_1 := Aside0.mk (Kd.V_afterv (ok := (fun k_ => (P1_ k_ ∨ w.heap.size ≤ k_) ∧ k_ ≠ gb128 ∧ k_ ≠ gb130)) (by (with_reducible repeat (first | apply Kd.V_alloc | apply Kd.V_drewN | apply Kd.V_drew)); exact Kd.V_mono HO_1.out (fun _ hk => ⟨⟨hk.1, ⟨hk.2.2.1, hk.2.2.2⟩⟩, hk.2.1⟩)) hg hat); replace HO_22 := Aside0.mk (Kd.V_afterv (ok := (fun k_ => (P1_ k_ ∨ w.heap.size ≤ k_) ∧ k_ ≠ gb128 ∧ k_ ≠ gb130)) (by (with_reducible repeat (first | apply Kd.V_alloc | apply Kd.V_drewN | apply Kd.V_drew)); exact Kd.V_mono HO_22.out (fun _ hk => ⟨⟨hk.1, ⟨hk.2.2.1, hk.2.2.2⟩⟩, hk.2.1⟩)) hg hat); replace BK128 := Aside0.mk (QaN (g := gb128) (o := .cells #[.string ((rd_T71 l0 x18_1).f0.f0), .int .i64 ((rd_T71 l0 x18_1).f0.f1), .int .i64 ((rd_T71 l0 x18_1).f0.f2), .int .i64 ((rd_T71 l0 x18_1).f0.f3), .int .i64 ((rd_T71 l0 x18_1).f1), .int .i64 ((rd_T71 l0 x18_1).f2)] 71 (0, 0)) (Zu BK128.out) hg (Kd.N_ne HO_4.out BK128.out (by decide))); replace HL129_4 := Aside0.mk (Kd.V_afterv (ok := (fun k_ => (P1_ k_ ∨ w.heap.size ≤ k_) ∧ k_ ≠ gb128 ∧ k_ ≠ gb130)) (by (with_reducible repeat (first | apply Kd.V_alloc | apply Kd.V_drewN | apply Kd.V_drew)); exact Kd.V_mono HL129_4.out (fun _ hk => ⟨⟨hk.1, ⟨hk.2.2.1, hk.2.2.2⟩⟩, hk.2.1⟩)) hg hat); replace BK130 := Aside0.mk (QaN (g := gb130) (o := .cells #[.string ((Qaa l1 x24_2).f0.f0), .int .i64 ((Qaa l1 x24_2).f0.f1), .int .i64 ((Qaa l1 x24_2).f0.f2), .int .i64 ((Qaa l1 x24_2).f0.f3), .slice A129_4 ((Qaa l1 x24_2).f1).length c129_4, .int .i64 ((Qaa l1 x24_2).f2)] 128 (0, 0)) (Zu BK130.out) hg (Kd.N_away HO_4.out (fun _ hk => hk.2.2))); replace HB := Aside0.mk (hb); clear HO_4; clear ho hb hg hat))
              go_roundg k2
              case measure => have := HK1.out; have := HK2.out; omega
              case rel => exact ⟨(y131), (wrap64 (x18_1 + 1)), (Zs), H', ⟨by have := HK1.out; have := HK2.out; omega⟩, ⟨by (with_reducible repeat (first | apply Kd.V_alloc | apply Kd.V_drewN | apply Kd.V_drew)); exact Kd.V_mono HO_1.out (fun _ hk => ⟨hk.1.1, hk.2⟩)⟩, ⟨by (with_reducible repeat (first | apply Kd.N_alloc | apply Kd.N_drewN | apply Kd.N_drew)); exact Kd.N_mono HO133.out (fun _ hk => hk.1)⟩, ⟨Zc2 GE128.out GE130.out⟩⟩
             rw [if_neg c22] at H
             exact absurd H (by simp)
            rw [if_neg c21] at H
            have c21b0 : ((((Qaa l1 x24_2).f0.f0).toList) == ((rd_T71 l0 x18_1).f0.f0).toList && (((Qaa l1 x24_2).f0.f1) == ((rd_T71 l0 x18_1).f0.f1) && (((Qaa l1 x24_2).f0.f2) == ((rd_T71 l0 x18_1).f0.f2) && (((Qaa l1 x24_2).f0.f3) == ((rd_T71 l0 x18_1).f0.f3))))) = false := by simpa using c21
            (try (have c21b1 : decide ((((Qaa l1 x24_2).f0.f0).toList) = ((rd_T71 l0 x18_1).f0.f0).toList && (((Qaa l1 x24_2).f0.f1) == ((rd_T71 l0 x18_1).f0.f1) && (((Qaa l1 x24_2).f0.f2) == ((rd_T71 l0 x18_1).f0.f2) && (((Qaa l1 x24_2).f0.f3) == ((rd_T71 l0 x18_1).f0.f3))))) = false := by simpa using c21))
            (try (have c21b2 : ((((Qaa l1 x24_2).f0.f0).toList) == ((rd_T71 l0 x18_1).f0.f0).toList && (((Qaa l1 x24_2).f0.f1) == ((rd_T71 l0 x18_1).f0.f1) && (((Qaa l1 x24_2).f0.f2) == ((rd_T71 l0 x18_1).f0.f2) && (((Qaa l1 x24_2).f0.f3) == ((rd_T71 l0 x18_1).f0.f3))))) = false := by simpa using c21))
            (try (have c21b3 : ¬ ((((Qaa l1 x24_2).f0.f0).toList) = ((rd_T71 l0 x18_1).f0.f0).toList && (((Qaa l1 x24_2).f0.f1) == ((rd_T71 l0 x18_1).f0.f1) && (((Qaa l1 x24_2).f0.f2) == ((rd_T71 l0 x18_1).f0.f2) && (((Qaa l1 x24_2).f0.f3) == ((rd_T71 l0 x18_1).f0.f3))))) := by simpa using c21))
            clear c21
            (try simp only [c21b0])
            have H' := Aside0.mk H
            clear H
            go_wp2
            go_roundg k2
            case measure => have := HK1.out; have := HK2.out; omega
            case rel => exact ⟨(x4_2), (wrap64 (x24_2 + 1)), (Zs), H', ⟨by have := HK1.out; have := HK2.out; omega⟩, ⟨by (with_reducible repeat (first | apply Kd.V_alloc | apply Kd.V_drewN | apply Kd.V_drew)); exact Kd.V_mono HO_1.out (fun _ hk => ⟨hk.1, ⟨hk.2.1, hk.2.2.1⟩⟩)⟩, ⟨by (with_reducible repeat (first | apply Kd.N_alloc | apply Kd.N_drewN | apply Kd.N_drew)); exact Kd.N_mono HO_4.out (fun _ hk => ⟨hk.1, hk.2.1⟩)⟩, ⟨by (with_reducible repeat (first | apply Kd.V_alloc | apply Kd.V_drewN | apply Kd.V_drew)); exact Kd.V_mono HO_22.out (fun _ hk => ⟨hk.1, ⟨hk.2.1, hk.2.2.1⟩⟩)⟩, ⟨Zu BK128.out⟩, ⟨Zc2 GE128.out GE130.out⟩⟩
           rw [if_neg c14] at H
           exact absurd H (by simp)
          rw [if_neg c13] at H
          exact absurd H (by simp)
         rw [if_neg c12] at H
         have c12b0 : decide (x24_2 < (l1.length : Int)) = false := decide_eq_false c12
         clear c12
         (try simp only [c12b0])
         simp only [Option.some.injEq, Prod.mk.injEq] at H
         obtain ⟨rfl, rfl⟩ := H
         go_wp2
         go_ret2
         exact ⟨_, Zq, by first | exact Kd.S_nil _ _ _ _ _ | exact Kd.N_nil _ _ _ _ _ | exact Kd.V_nil _ _ _ _ _ | exact Kd.Q_nil _ _ _ _ _ | exact Kd.R_nil _ _ _ _ _, Zc1 GE128.out⟩
      rw [if_neg c8] at H
      exact absurd H (by simp)
     rw [if_neg c7] at H
     exact absurd H (by simp)
    rw [if_neg c6] at H
    have c6b0 : decide (x18_1 < (l0.length : Int)) = false := decide_eq_false c6
    clear c6
    (try simp only [c6b0])
    simp only [Option.some.injEq, Prod.mk.injEq] at H
    obtain ⟨rfl, rfl⟩ := H
    go_wp2
    go_ret2
    exact ⟨_, Zq, by (with_reducible repeat (first | apply Kd.N_alloc | apply Kd.N_drewN | apply Kd.N_drew)); exact HO_4.out, Zb⟩
 rw [if_neg c5] at H
 have c5b0 : (t126 == 0) = false := beq_eq_false_iff_ne.mpr c5
 have c5b1 : (t126 != 0) = true := bne_iff_ne.mpr c5
 (try simp only [c5b0, c5b1])
 simp only [Option.some.injEq, Prod.mk.injEq] at H
 obtain ⟨rfl, rfl⟩ := H
 go_wp2
 go_ret2
 exact ⟨_, Zq, by first | exact Kd.S_nil _ _ _ _ _ | exact Kd.N_nil _ _ _ _ _ | exact Kd.V_nil _ _ _ _ _ | exact Kd.Q_nil _ _ _ _ _ | exact Kd.R_nil _ _ _ _ _, Zb⟩
end Go.Proofs.Ytgnmhfjfefgbfaa.Pr
