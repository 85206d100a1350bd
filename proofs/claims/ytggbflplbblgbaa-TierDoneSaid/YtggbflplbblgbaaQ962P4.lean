/- Functions' values and contracts, as the print wrote them. -/
import Derived.Test.YtggbflplbblgbaaQ962P0
import Derived.Test.YtggbflplbblgbaaQ962P3
import Derived.Test.YtggbflplbblgbaaQ962P1
import Derived.Test.YtggbflplbblgbaaQ962P2
namespace Go.Proofs.Ytggbflplbblgbaa.Pr
open Bool renaming true → T
open Bool renaming false → F
open Go.RowKit Go.Proofs.YtggbflplbblgbaaW.PrintWords Go.Proofs.YtggbflplbblgbaaW.PrintLast Go.Proofs.YtggbflplbblgbaaW.PrintMore
attribute [local go_sem] QaD QaF QaJ QaK QaB QaC QaE QaG   -- for this text's walks alone
set_option linter.unusedVariables false
set_option linter.unusedSimpArgs false
set_option maxRecDepth 100000
set_option maxHeartbeats 8000000
def Qan.l0 : Nat → List (S91) → List Int → List Int → List Int → Int → Option (Int × List Int × Int)
 | 0, _, _, _, _, _ => none
 | k + 1, x2, x9, x10, x12, x13 => if x13 < (x2.length : Int) then (if 0 ≤ x13 then (if x13 < (x9.length : Int) then ((Qao.f k (rd x9 x13) ((rd_T91 x2 x13).f2)).bind fun bt672 => (if bt672.2 = 0 then (if x12.length < 17592186044416 then (Qan.l0 k x2 x9 x10 (x12 ++ [bt672.1]) (wrap64 (x13 + 1))) else (none)) else (some (0, ([] : List Int), bt672.2)))) else (none)) else (none)) else ((Qau.f k x12).bind fun bt677 => (if bt677.2 = 0 then (some (bt677.1, x10, 0)) else (some (0, ([] : List Int), bt677.2))))
def Qan.f (k : Nat) (l0 : List Int) (l1 : List Int) (l2 : List (S91)) : Option (Int × List Int × Int) := (Qad.f k l0 l1 l2).bind fun bt663 => (if bt663.2.2 = 0 then (Qan.l0 k l2 bt663.1 bt663.2.1 ([] : List Int) 0) else (some (0, ([] : List Int), bt663.2.2)))
theorem Qan.mono_l : ∀ k, (∀ y0 y1 y2 y3 y4, LeO (Qan.l0 k y0 y1 y2 y3 y4) (Qan.l0 (k + 1) y0 y1 y2 y3 y4))
 | 0 => fun _ _ _ _ _ r h => by simp [Qan.l0] at h
 | k + 1 => by
  have ih0 := Qan.mono_l k
  intro y0 y1 y2 y3 y4
  unfold Qan.l0
  exact ZM4 ih0 Qao.mono Qau.mono Qad.mono
theorem Qan.mono : ∀ a0 a1 a2 k, LeO (Qan.f k a0 a1 a2) (Qan.f (k + 1) a0 a1 a2) := by
 intro a0 a1 a2 k
 have ih0 := Qan.mono_l k
 unfold Qan.f
 exact ZM4 ih0 Qao.mono Qau.mono Qad.mono
theorem Qan.calls (k : Nat) (A0 : Option Addr) (c0 : Nat) (l0 : List Int) (A1 : Option Addr) (c1 : Nat) (l1 : List Int) (A2 : Option Addr) (c2 : Nat) (l2 : List (S91)) (r1 : Int) (r2 : List Int) (r3 : Int) (w : World) (hr0 : Kd.C (Kd.int .i64) w A0 l0.length l0) (hc0 : l0.length ≤ c0) (hr1 : Kd.C (Kd.int .i64) w A1 l1.length l1) (hc1 : l1.length ≤ c1) (hr2 : Kd.C k91 w A2 l2.length l2) (hc2 : l2.length ≤ c2) (h : Qan.f k l0 l1 l2 = some (r1, r2, r3)) :
  Calls Try.prog 36 #[.slice A0 l0.length c0, .slice A1 l1.length c1, .slice A2 l2.length c2] w fun e w' => ∃ v1_ : Value, e = .returned (.tuple #[.int .i64 r1, v1_, .int .i64 r3]) ∧ Kd.R (Kd.int .i64) 3 w' w.heap.size (fun _ => True) v1_ r2 ∧ Below w.heap.size w w' := by
 have HR0 := Aside0.mk hr0
 have HC0 := Aside0.mk hc0
 clear hr0 hc0
 have HR1 := Aside0.mk hr1
 have HC1 := Aside0.mk hc1
 clear hr1 hc1
 have HR2 := Aside0.mk hr2
 have HC2 := Aside0.mk hc2
 clear hr2 hc2
 have HB := Aside0.mk (Below.refl w.heap.size w)
 have H : ((Qad.f k l0 l1 l2).bind fun bt663 => (if bt663.2.2 = 0 then (Qan.l0 k l2 bt663.1 bt663.2.1 ([] : List Int) 0) else (some (0, ([] : List Int), bt663.2.2)))) = some (r1, r2, r3) := h
 clear h
 replace H := Option.bind_eq_some_iff.mp H
 obtain ⟨⟨t663, t664, t665⟩, A40, H⟩ := H
 replace H : (if t665 = 0 then (Qan.l0 k l2 t663 t664 ([] : List Int) 0) else (some (0, ([] : List Int), t665))) = some (r1, r2, r3) := H
 have A4 := Aside0.mk A40
 clear A40
 go_enter Try.func36, Try.ntmps36
 go_upto_if 27 with (first | (go_at_call 34; (with_reducible refine (Qad.calls k _ _ l0 _ _ l1 _ _ l2 t663 t664 t665 _ ?side1 ?side2 ?side3 ?side4 ?side5 ?side6 A4.out).mono ?_); (case side1 => exact Zv HR0.out); (case side2 => exact HC0.out); (case side3 => exact Zv HR1.out); (case side4 => exact HC1.out); (case side5 => exact Zv HR2.out); (case side6 => exact HC2.out); rintro e w5 ⟨v666, v668, rfl, ho0, ho1, hb⟩; have HO667 := Aside0.mk (Kd.R_lower ho0 (Qay (Zb))); have HO669 := Aside0.mk (Kd.R_lower ho1 (Qay (Zb))); replace HB := Aside0.mk (Qax (Zb) hb); (try clear hb); (try clear hb2); (try clear hk); (try clear hi); (try clear ho0); (try clear ho1)))
 repeat (go_quiet (first | (go_at_call 34; (with_reducible refine (Qad.calls k _ _ l0 _ _ l1 _ _ l2 t663 t664 t665 _ ?side1 ?side2 ?side3 ?side4 ?side5 ?side6 A4.out).mono ?_); (case side1 => exact Zv HR0.out); (case side2 => exact HC0.out); (case side3 => exact Zv HR1.out); (case side4 => exact HC1.out); (case side5 => exact Zv HR2.out); (case side6 => exact HC2.out); rintro e w5 ⟨v666, v668, rfl, ho0, ho1, hb⟩; have HO667 := Aside0.mk (Kd.R_lower ho0 (Qay (Zb))); have HO669 := Aside0.mk (Kd.R_lower ho1 (Qay (Zb))); replace HB := Aside0.mk (Qax (Zb) hb); (try clear hb); (try clear hb2); (try clear hk); (try clear hi); (try clear ho0); (try clear ho1))); go_upto_if 27 with (first | (go_at_call 34; (with_reducible refine (Qad.calls k _ _ l0 _ _ l1 _ _ l2 t663 t664 t665 _ ?side1 ?side2 ?side3 ?side4 ?side5 ?side6 A4.out).mono ?_); (case side1 => exact Zv HR0.out); (case side2 => exact HC0.out); (case side3 => exact Zv HR1.out); (case side4 => exact HC1.out); (case side5 => exact Zv HR2.out); (case side6 => exact HC2.out); rintro e w5 ⟨v666, v668, rfl, ho0, ho1, hb⟩; have HO667 := Aside0.mk (Kd.R_lower ho0 (Qay (Zb))); have HO669 := Aside0.mk (Kd.R_lower ho1 (Qay (Zb))); replace HB := Aside0.mk (Qax (Zb) hb); (try clear hb); (try clear hb2); (try clear hk); (try clear hi); (try clear ho0); (try clear ho1))))
 (try simp only [Act.put, Zj, Zk, Zm])
 by_cases c6 : t665 = 0
 ·rw [if_pos c6] at H
  have c6b0 : (t665 == 0) = T := beq_iff_eq.mpr c6
  have c6b1 : (t665 != 0) = F := bne_eq_false_iff_eq.mpr c6
  clear c6
  (try simp only [c6b0, c6b1])
  have H' := Aside0.mk H
  clear H
  go_wp2
  repeat (go_quiet (fail); try go_wp2)
  go_loopg [12, 13] k (fun kq v12 v13 w' => ∃ (x12_1 : List Int) (x13_1 : Int), v13 = .int .i64 x13_1 ∧ Aside0 (Qan.l0 kq l2 t663 t664 x12_1 x13_1 = some (r1, r2, r3)) ∧ Aside0 (kq ≤ k) ∧ Aside0 (Kd.R (Kd.int .i64) 3 w' w.heap.size (fun k_ => some k_ ≠ (v668 : Value).ownBlock ∧ some k_ ≠ (v12 : Value).ownBlock) v666 t663) ∧ Aside0 (Kd.R (Kd.int .i64) 3 w' w.heap.size (fun k_ => some k_ ≠ (v666 : Value).ownBlock ∧ some k_ ≠ (v12 : Value).ownBlock) v668 t664) ∧ Aside0 (Kd.R (Kd.int .i64) 3 w' w.heap.size (fun k_ => some k_ ≠ (v666 : Value).ownBlock ∧ some k_ ≠ (v668 : Value).ownBlock) v12 x12_1) ∧ Aside0 (Below w.heap.size w w'))
  case atStart => exact ⟨(([] : List Int)), (0), (Zs), H', ⟨Nat.le_refl _⟩, ⟨by (with_reducible repeat (first | apply Kd.R_alloc | apply Kd.R_drewN | apply Kd.R_drew)); exact Kd.R_mono HO667.out (fun _ hk => ⟨hk, (by simp [Value.ownBlock])⟩)⟩, ⟨by (with_reducible repeat (first | apply Kd.R_alloc | apply Kd.R_drewN | apply Kd.R_drew)); exact Kd.R_mono HO669.out (fun _ hk => ⟨hk, (by simp [Value.ownBlock])⟩)⟩, ⟨by first | exact Kd.R_nil _ _ _ _ _ | exact Kd.N_nil _ _ _ _ _ | exact Kd.V_nil _ _ _ _ _ | exact Kd.Q_nil _ _ _ _ _ | exact Kd.S_nil _ _ _ _ _⟩, ⟨Zb⟩⟩
  case round =>
   clear H'
   try clear c1
   try clear c2
   try clear p2
   try clear c3
   try clear c6
   try clear c6b0
   try clear c6b1
   obtain ⟨x12_1, x13_1, rfl, HA, HK1, HO_9, HO_10, HO_12, HB⟩ := hrel
   cases gk with
   | zero => exact absurd HA.out (by simp [Qan.l0])
   | succ k1 =>
    have H := HA.out
    clear HA
    simp only [Qan.l0] at H
    by_cases c7 : x13_1 < (l2.length : Int)
    ·rw [if_pos c7] at H
     have c7b0 : decide (x13_1 < (l2.length : Int)) = T := decide_eq_true c7
     clear c7
     (try simp only [c7b0])
     by_cases c8 : 0 ≤ x13_1
     ·rw [if_pos c8] at H
      have c8b0 : decide (0 ≤ x13_1) = T := decide_eq_true c8
      clear c8
      by_cases c9 : x13_1 < (t663.length : Int)
      ·rw [if_pos c9] at H
       have c9b0 : decide (x13_1 < (t663.length : Int)) = T := decide_eq_true c9
       clear c9
       replace H := Option.bind_eq_some_iff.mp H
       obtain ⟨⟨t672, t673⟩, A100, H⟩ := H
       replace H : (if t673 = 0 then (if x12_1.length < 17592186044416 then (Qan.l0 k1 l2 t663 t664 (x12_1 ++ [t672]) (wrap64 (x13_1 + 1))) else (none)) else (some (0, ([] : List Int), t673))) = some (r1, r2, r3) := H
       have A10 := Aside0.mk A100
       clear A100
       obtain ⟨Ao11, co11, eo11⟩ := Kd.R_slice HO_9.out
       subst eo11
       have p670 : 0 ≤ (x13_1 : Int) := Ze
       have q670 : x13_1 < (t663.length : Int) := Ze
       obtain ⟨ad670, e670, hx670_0⟩ := Kd.at_int (Kd.R_reads' HO_9.out).2.2 x13_1 p670 q670
       cases e670
       replace p670 := eq_true p670
       replace q670 := eq_true q670
       have p671 : 0 ≤ (x13_1 : Int) := Ze
       have q671 : x13_1 < (l2.length : Int) := Ze
       obtain ⟨ad671, e671, hx671_0, hx671_1, hx671_2⟩ := at_T91 HR2.out x13_1 p671 q671
       cases e671
       replace hx671_0 := Zx HB.out hx671_0
       replace hx671_1 := Zx HB.out hx671_1
       replace hx671_2 := Zx HB.out hx671_2
       replace p671 := eq_true p671
       replace q671 := eq_true q671
       go_upto_if 49 with (first | (go_at_call 70; (with_reducible refine (Qao.calls k1 (rd t663 x13_1) ((rd_T91 l2 x13_1).f2) t672 t673 _ A10.out).mono ?_); rintro e w' ⟨rfl, ⟨nd, rfl⟩⟩; (try first | exact ⟨rfl, _, World.drewN_drewN _ _ _⟩ | exact ⟨rfl, _, Eq.trans (World.drewN_drewN _ _ _) (congrArg (World.drewN _) (Nat.add_assoc _ _ _))⟩)))
       repeat (go_quiet (first | (go_at_call 70; (with_reducible refine (Qao.calls k1 (rd t663 x13_1) ((rd_T91 l2 x13_1).f2) t672 t673 _ A10.out).mono ?_); rintro e w' ⟨rfl, ⟨nd, rfl⟩⟩; (try first | exact ⟨rfl, _, World.drewN_drewN _ _ _⟩ | exact ⟨rfl, _, Eq.trans (World.drewN_drewN _ _ _) (congrArg (World.drewN _) (Nat.add_assoc _ _ _))⟩))); go_upto_if 49 with (first | (go_at_call 70; (with_reducible refine (Qao.calls k1 (rd t663 x13_1) ((rd_T91 l2 x13_1).f2) t672 t673 _ A10.out).mono ?_); rintro e w' ⟨rfl, ⟨nd, rfl⟩⟩; (try first | exact ⟨rfl, _, World.drewN_drewN _ _ _⟩ | exact ⟨rfl, _, Eq.trans (World.drewN_drewN _ _ _) (congrArg (World.drewN _) (Nat.add_assoc _ _ _))⟩))))
       (try simp only [Act.put, Zj, Zk, Zm])
       by_cases c12 : t673 = 0
       ·rw [if_pos c12] at H
        have c12b0 : (t673 == 0) = T := beq_iff_eq.mpr c12
        have c12b1 : (t673 != 0) = F := bne_eq_false_iff_eq.mpr c12
        clear c12
        (try simp only [c12b0, c12b1])
        by_cases c13 : x12_1.length < 17592186044416
        ·rw [if_pos c13] at H
         have LMc13 := Aside0.mk c13
         clear c13
         obtain ⟨y674, hy674⟩ : ∃ y_ : List Int, y_ = (x12_1 ++ [t672]) := ⟨_, rfl⟩
         replace H : (Qan.l0 k1 l2 t663 t664 y674 (wrap64 (x13_1 + 1))) = some (r1, r2, r3) := by first | (rw [hy674]; with_reducible exact H) | (have H2_ := (Option.bind_some _ _).symm.trans H; rw [hy674]; with_reducible exact H2_) | (have H2_ := (Option.bind_some _ _).symm.trans H; with_reducible exact H2_) | with_reducible exact H | (rw [hy674]; exact H) | exact H
         have Ny674 := Aside0.mk hy674
         clear hy674
         have H' := Aside0.mk H
         clear H
         go_wp2_with (first | ((with_reducible refine Qbh (b := .append) (xs := #[.tmp 51, .tmp 53]) rfl ?_); at_builtin; refine Kd.R_append (Kd.int .i64) (w0 := w) w.heap.size rfl (.tmp 51) (.tmp 53) 46 3 (.int .i64 0) 8 rfl Try.underlying46 info3 rfl (by decide) (by omega) u12 x12_1 t672 [.int .i64 t672] (fun k_ => some k_ ≠ (.slice (some ad670) t663.length co11 : Value).ownBlock ∧ some k_ ≠ (v668 : Value).ownBlock) (fun _ => False) rfl rfl ?aP (fun _ hk => hk.elim) ?aF ?aO ?aB ?aS ?aL ?_; (case aP => exact rfl); (case aB => exact (Zb)); (case aF => exact (fun k_ hk => ⟨Kd.fresh' (Kd.R_lt (Zr HO_9.out)) k_ hk, Kd.fresh' (Kd.R_lt (Zr HO_10.out)) k_ hk⟩)); (case aO => exact (Zr HO_12.out)); (case aS => exact (Qay (Zb))); (case aL => have := LMc13.out; omega); intro v675 w14 ho hb hg hat; rw [← Ny674.out] at ho; have HO676 := Aside0.mk (ho); replace HO_9 := Aside0.mk (Kd.R_after (ok := (fun k_ => some k_ ≠ (v668 : Value).ownBlock)) (Zr HO_9.out) hg hat); replace HO_10 := Aside0.mk (Kd.R_after (ok := (fun k_ => some k_ ≠ (.slice (some ad670) t663.length co11 : Value).ownBlock)) (Zr HO_10.out) hg hat); replace HB := Aside0.mk (hb); clear HO_12; clear ho hb hg hat))
         repeat (go_quiet (first | ((with_reducible refine Qbh (b := .append) (xs := #[.tmp 51, .tmp 53]) rfl ?_); at_builtin; refine Kd.R_append (Kd.int .i64) (w0 := w) w.heap.size rfl (.tmp 51) (.tmp 53) 46 3 (.int .i64 0) 8 rfl Try.underlying46 info3 rfl (by decide) (by omega) u12 x12_1 t672 [.int .i64 t672] (fun k_ => some k_ ≠ (.slice (some ad670) t663.length co11 : Value).ownBlock ∧ some k_ ≠ (v668 : Value).ownBlock) (fun _ => False) rfl rfl ?aP (fun _ hk => hk.elim) ?aF ?aO ?aB ?aS ?aL ?_; (case aP => exact rfl); (case aB => exact (Zb)); (case aF => exact (fun k_ hk => ⟨Kd.fresh' (Kd.R_lt (Zr HO_9.out)) k_ hk, Kd.fresh' (Kd.R_lt (Zr HO_10.out)) k_ hk⟩)); (case aO => exact (Zr HO_12.out)); (case aS => exact (Qay (Zb))); (case aL => have := LMc13.out; omega); intro v675 w14 ho hb hg hat; rw [← Ny674.out] at ho; have HO676 := Aside0.mk (ho); replace HO_9 := Aside0.mk (Kd.R_after (ok := (fun k_ => some k_ ≠ (v668 : Value).ownBlock)) (Zr HO_9.out) hg hat); replace HO_10 := Aside0.mk (Kd.R_after (ok := (fun k_ => some k_ ≠ (.slice (some ad670) t663.length co11 : Value).ownBlock)) (Zr HO_10.out) hg hat); replace HB := Aside0.mk (hb); clear HO_12; clear ho hb hg hat)); try go_wp2_with (first | ((with_reducible refine Qbh (b := .append) (xs := #[.tmp 51, .tmp 53]) rfl ?_); at_builtin; refine Kd.R_append (Kd.int .i64) (w0 := w) w.heap.size rfl (.tmp 51) (.tmp 53) 46 3 (.int .i64 0) 8 rfl Try.underlying46 info3 rfl (by decide) (by omega) u12 x12_1 t672 [.int .i64 t672] (fun k_ => some k_ ≠ (.slice (some ad670) t663.length co11 : Value).ownBlock ∧ some k_ ≠ (v668 : Value).ownBlock) (fun _ => False) rfl rfl ?aP (fun _ hk => hk.elim) ?aF ?aO ?aB ?aS ?aL ?_; (case aP => exact rfl); (case aB => exact (Zb)); (case aF => exact (fun k_ hk => ⟨Kd.fresh' (Kd.R_lt (Zr HO_9.out)) k_ hk, Kd.fresh' (Kd.R_lt (Zr HO_10.out)) k_ hk⟩)); (case aO => exact (Zr HO_12.out)); (case aS => exact (Qay (Zb))); (case aL => have := LMc13.out; omega); intro v675 w14 ho hb hg hat; rw [← Ny674.out] at ho; have HO676 := Aside0.mk (ho); replace HO_9 := Aside0.mk (Kd.R_after (ok := (fun k_ => some k_ ≠ (v668 : Value).ownBlock)) (Zr HO_9.out) hg hat); replace HO_10 := Aside0.mk (Kd.R_after (ok := (fun k_ => some k_ ≠ (.slice (some ad670) t663.length co11 : Value).ownBlock)) (Zr HO_10.out) hg hat); replace HB := Aside0.mk (hb); clear HO_12; clear ho hb hg hat)))
         go_roundg k1
         case measure => have := HK1.out; omega
         case rel => exact ⟨(y674), (wrap64 (x13_1 + 1)), (Zs), H', ⟨by have := HK1.out; omega⟩, ⟨Zr HO_9.out⟩, ⟨Zr HO_10.out⟩, ⟨Zr HO676.out⟩, ⟨Zb⟩⟩
        rw [if_neg c13] at H
        exact absurd H (by simp)
       rw [if_neg c12] at H
       have c12b0 : (t673 == 0) = F := beq_eq_false_iff_ne.mpr c12
       have c12b1 : (t673 != 0) = T := bne_iff_ne.mpr c12
       (try simp only [c12b0, c12b1])
       simp only [Option.some.injEq, Prod.mk.injEq] at H
       obtain ⟨rfl, rfl, rfl⟩ := H
       go_wp2
       repeat (go_quiet (fail); try go_wp2)
       go_ret3
       exact ⟨_, Zq, by first | exact Kd.R_nil _ _ _ _ _ | exact Kd.N_nil _ _ _ _ _ | exact Kd.V_nil _ _ _ _ _ | exact Kd.Q_nil _ _ _ _ _ | exact Kd.S_nil _ _ _ _ _, Zb⟩
      rw [if_neg c9] at H
      exact absurd H (by simp)
     rw [if_neg c8] at H
     exact absurd H (by simp)
    rw [if_neg c7] at H
    have c7b0 : decide (x13_1 < (l2.length : Int)) = F := decide_eq_false c7
    clear c7
    (try simp only [c7b0])
    replace H := Option.bind_eq_some_iff.mp H
    obtain ⟨⟨t677, t678⟩, A150, H⟩ := H
    replace H : (if t678 = 0 then (some (t677, t664, 0)) else (some (0, ([] : List Int), t678))) = some (r1, r2, r3) := H
    have A15 := Aside0.mk A150
    clear A150
    obtain ⟨Ao16, co16, eo16⟩ := Kd.R_slice HO_12.out
    subst eo16
    go_upto_if 61 with (first | (go_at_call 71; (with_reducible refine (Qau.calls k1 _ _ x12_1 t677 t678 _ ?side1 ?side2 A15.out).mono ?_); (case side1 => exact Zv (Kd.R_reads' HO_12.out).2.2); (case side2 => exact (Kd.R_reads' HO_12.out).2.1); rintro e w' ⟨rfl, ⟨nd, rfl⟩⟩; (try first | exact ⟨rfl, _, World.drewN_drewN _ _ _⟩ | exact ⟨rfl, _, Eq.trans (World.drewN_drewN _ _ _) (congrArg (World.drewN _) (Nat.add_assoc _ _ _))⟩)))
    repeat (go_quiet (first | (go_at_call 71; (with_reducible refine (Qau.calls k1 _ _ x12_1 t677 t678 _ ?side1 ?side2 A15.out).mono ?_); (case side1 => exact Zv (Kd.R_reads' HO_12.out).2.2); (case side2 => exact (Kd.R_reads' HO_12.out).2.1); rintro e w' ⟨rfl, ⟨nd, rfl⟩⟩; (try first | exact ⟨rfl, _, World.drewN_drewN _ _ _⟩ | exact ⟨rfl, _, Eq.trans (World.drewN_drewN _ _ _) (congrArg (World.drewN _) (Nat.add_assoc _ _ _))⟩))); go_upto_if 61 with (first | (go_at_call 71; (with_reducible refine (Qau.calls k1 _ _ x12_1 t677 t678 _ ?side1 ?side2 A15.out).mono ?_); (case side1 => exact Zv (Kd.R_reads' HO_12.out).2.2); (case side2 => exact (Kd.R_reads' HO_12.out).2.1); rintro e w' ⟨rfl, ⟨nd, rfl⟩⟩; (try first | exact ⟨rfl, _, World.drewN_drewN _ _ _⟩ | exact ⟨rfl, _, Eq.trans (World.drewN_drewN _ _ _) (congrArg (World.drewN _) (Nat.add_assoc _ _ _))⟩))))
    (try simp only [Act.put, Zj, Zk, Zm])
    by_cases c17 : t678 = 0
    ·rw [if_pos c17] at H
     have c17b0 : (t678 == 0) = T := beq_iff_eq.mpr c17
     have c17b1 : (t678 != 0) = F := bne_eq_false_iff_eq.mpr c17
     clear c17
     (try simp only [c17b0, c17b1])
     simp only [Option.some.injEq, Prod.mk.injEq] at H
     obtain ⟨rfl, rfl, rfl⟩ := H
     go_wp2
     repeat (go_quiet (fail); try go_wp2)
     go_ret3
     exact ⟨_, Zq, by (with_reducible repeat (first | apply Kd.R_alloc | apply Kd.R_drewN | apply Kd.R_drew)); exact Kd.R_mono HO_10.out (fun _ hk => trivial), Zb⟩
    rw [if_neg c17] at H
    have c17b0 : (t678 == 0) = F := beq_eq_false_iff_ne.mpr c17
    have c17b1 : (t678 != 0) = T := bne_iff_ne.mpr c17
    (try simp only [c17b0, c17b1])
    simp only [Option.some.injEq, Prod.mk.injEq] at H
    obtain ⟨rfl, rfl, rfl⟩ := H
    go_wp2
    repeat (go_quiet (fail); try go_wp2)
    go_ret3
    exact ⟨_, Zq, by first | exact Kd.R_nil _ _ _ _ _ | exact Kd.N_nil _ _ _ _ _ | exact Kd.V_nil _ _ _ _ _ | exact Kd.Q_nil _ _ _ _ _ | exact Kd.S_nil _ _ _ _ _, Zb⟩
 rw [if_neg c6] at H
 have c6b0 : (t665 == 0) = F := beq_eq_false_iff_ne.mpr c6
 have c6b1 : (t665 != 0) = T := bne_iff_ne.mpr c6
 (try simp only [c6b0, c6b1])
 simp only [Option.some.injEq, Prod.mk.injEq] at H
 obtain ⟨rfl, rfl, rfl⟩ := H
 go_wp2
 repeat (go_quiet (fail); try go_wp2)
 go_ret3
 exact ⟨_, Zq, by first | exact Kd.R_nil _ _ _ _ _ | exact Kd.N_nil _ _ _ _ _ | exact Kd.V_nil _ _ _ _ _ | exact Kd.Q_nil _ _ _ _ _ | exact Kd.S_nil _ _ _ _ _, Zb⟩
mutual
def contangolaw24_TierForms.j0 : Nat → List Int → List Int → List (S91) → Bool → Option (Bool)
 | 0, _, _, _, _ => none
 | k + 1, x0, x1, x2, x31 => if x31 = T then ((Qai.f k).bind fun t679 => (some t679)) else ((Qae.f k x0 x1 x2).bind fun bt680 => ((Qad.f k x0 x1 x2).bind fun bt687 => ((Qaw.f k x0 x1 x2).bind fun bt694 => ((Qan.f k x0 x1 x2).bind fun bt699 => ((Qaf.f k bt680.1 bt687.1).bind fun t704 => (if t704 = T then ((Qaf.f k bt680.2.1 bt687.2.1).bind fun t705 => (if t705 = T then (if bt680.2.2 = bt687.2.2 then (if bt694.1 = bt699.1 then ((Qaf.f k bt694.2.1 bt699.2.1).bind fun t706 => (if t706 = T then (contangolaw24_TierForms.j1 k x2 (bt694.2.2 != bt699.2.2)) else (contangolaw24_TierForms.j1 k x2 T))) else (contangolaw24_TierForms.j1 k x2 T)) else (contangolaw24_TierForms.j1 k x2 T)) else (contangolaw24_TierForms.j1 k x2 T))) else (contangolaw24_TierForms.j1 k x2 T)))))))
def contangolaw24_TierForms.j1 : Nat → List (S91) → Bool → Option (Bool)
 | 0, _, _ => none
 | k + 1, x2, x95 => if x95 = T then (some F) else ((Qar.f k x2).bind fun t707 => ((Qal.f k x2).bind fun t708 => (if t707 = t708 then ((Qai.f k).bind fun t709 => (some t709)) else (some F))))
end
def contangolaw24_TierForms.f (k : Nat) (l0 : List Int) (l1 : List Int) (l2 : List (S91)) : Option (Bool) := if (l0.length : Int) > 200 then (contangolaw24_TierForms.j0 k l0 l1 l2 T) else (if (l1.length : Int) > 200 then (contangolaw24_TierForms.j0 k l0 l1 l2 T) else (contangolaw24_TierForms.j0 k l0 l1 l2 (decide ((l2.length : Int) > 1100))))
theorem contangolaw24_TierForms.mono_l : ∀ k, (∀ y0 y1 y2 y3, LeO (contangolaw24_TierForms.j0 k y0 y1 y2 y3) (contangolaw24_TierForms.j0 (k + 1) y0 y1 y2 y3)) ∧ (∀ y0 y1, LeO (contangolaw24_TierForms.j1 k y0 y1) (contangolaw24_TierForms.j1 (k + 1) y0 y1))
 | 0 => ⟨fun _ _ _ _ r h => by simp [contangolaw24_TierForms.j0] at h, fun _ _ r h => by simp [contangolaw24_TierForms.j1] at h⟩
 | k + 1 => by
  obtain ⟨ih0, ih1⟩ := contangolaw24_TierForms.mono_l k
  refine ⟨?_, ?_⟩
  ·intro y0 y1 y2 y3
   unfold contangolaw24_TierForms.j0
   exact ZM10 ih0 ih1 Qai.mono Qan.mono Qal.mono Qad.mono Qaf.mono Qaw.mono Qar.mono Qae.mono
  intro y0 y1
  unfold contangolaw24_TierForms.j1
  exact ZM10 ih0 ih1 Qai.mono Qan.mono Qal.mono Qad.mono Qaf.mono Qaw.mono Qar.mono Qae.mono
theorem contangolaw24_TierForms.mono : ∀ a0 a1 a2 k, LeO (contangolaw24_TierForms.f k a0 a1 a2) (contangolaw24_TierForms.f (k + 1) a0 a1 a2) := by
 intro a0 a1 a2 k
 obtain ⟨ih0, ih1⟩ := contangolaw24_TierForms.mono_l k
 unfold contangolaw24_TierForms.f
 exact ZM10 ih0 ih1 Qai.mono Qan.mono Qal.mono Qad.mono Qaf.mono Qaw.mono Qar.mono Qae.mono
theorem contangolaw24_TierForms.calls (k : Nat) (A0 : Option Addr) (c0 : Nat) (l0 : List Int) (A1 : Option Addr) (c1 : Nat) (l1 : List Int) (A2 : Option Addr) (c2 : Nat) (l2 : List (S91)) (r : Bool) (w : World) (hr0 : Kd.C (Kd.int .i64) w A0 l0.length l0) (hc0 : l0.length ≤ c0) (hr1 : Kd.C (Kd.int .i64) w A1 l1.length l1) (hc1 : l1.length ≤ c1) (hr2 : Kd.C k91 w A2 l2.length l2) (hc2 : l2.length ≤ c2) (h : contangolaw24_TierForms.f k l0 l1 l2 = some r) :
  Calls Try.prog 7 #[.slice A0 l0.length c0, .slice A1 l1.length c1, .slice A2 l2.length c2] w fun e w' => e = .returned (.bool r) ∧ Below w.heap.size w w' := by
 have HR0 := Aside0.mk hr0
 have HC0 := Aside0.mk hc0
 clear hr0 hc0
 have HR1 := Aside0.mk hr1
 have HC1 := Aside0.mk hc1
 clear hr1 hc1
 have HR2 := Aside0.mk hr2
 have HC2 := Aside0.mk hc2
 clear hr2 hc2
 have HB := Aside0.mk (Below.refl w.heap.size w)
 have H : (if (l0.length : Int) > 200 then (contangolaw24_TierForms.j0 k l0 l1 l2 T) else (if (l1.length : Int) > 200 then (contangolaw24_TierForms.j0 k l0 l1 l2 T) else (contangolaw24_TierForms.j0 k l0 l1 l2 (decide ((l2.length : Int) > 1100))))) = some r := h
 clear h
 have HC4 := Aside0.mk H
 clear H
 go_enter Try.func7, Try.ntmps7
 go_upto_region 1 with (fail)
 go_cut [31] (fun v31 wc => ∃ (kq : Nat) (x31_3 : Bool), v31 = .bool x31_3 ∧ Aside0 (contangolaw24_TierForms.j0 kq l0 l1 l2 x31_3 = some r) ∧ Aside0 (kq ≤ k) ∧ Aside0 (Below w.heap.size w wc))
 case first =>
  have H := HC4.out
  clear HC4
  by_cases c5 : (l0.length : Int) > 200
  ·rw [if_pos c5] at H
   have c5b0 : decide (200 < (l0.length : Int)) = T := decide_eq_true c5
   have c5b1 : decide (200 < l0.length) = T := decide_eq_true (by omega)
   clear c5
   have H' := Aside0.mk H
   clear H
   go_wp2
   go_meet
   case rel => exact ⟨_, (T), (Zs), H', ⟨by first | omega | exact Nat.le_refl _⟩, ⟨Zb⟩⟩
  rw [if_neg c5] at H
  have c5b0 : decide (200 < (l0.length : Int)) = F := decide_eq_false c5
  have c5b1 : decide (200 < l0.length) = F := decide_eq_false (by omega)
  clear c5
  by_cases c6 : (l1.length : Int) > 200
  ·rw [if_pos c6] at H
   have c6b0 : decide (200 < (l1.length : Int)) = T := decide_eq_true c6
   have c6b1 : decide (200 < l1.length) = T := decide_eq_true (by omega)
   clear c6
   have H' := Aside0.mk H
   clear H
   go_wp2
   go_meet
   case rel => exact ⟨_, (T), (Zs), H', ⟨by first | omega | exact Nat.le_refl _⟩, ⟨Zb⟩⟩
  rw [if_neg c6] at H
  have c6b0 : decide (200 < (l1.length : Int)) = F := decide_eq_false c6
  have c6b1 : decide (200 < l1.length) = F := decide_eq_false (by omega)
  clear c6
  have H' := Aside0.mk H
  clear H
  go_wp2
  go_meet
  case rel => exact ⟨_, (decide ((l2.length : Int) > 1100)), (Zs), H', ⟨by first | omega | exact Nat.le_refl _⟩, ⟨Zb⟩⟩
 case rest =>
  clear HC4
  try clear c1
  try clear c2
  try clear p2
  try clear c5
  try clear c5b0
  try clear c5b1
  try clear c6
  try clear c6b0
  try clear c6b1
  obtain ⟨kq, x31_3, rfl, HA, HJ3, HB⟩ := hcut
  cases kq with
  | zero => exact absurd HA.out (by simp [contangolaw24_TierForms.j0])
  | succ kj3 =>
   have H := HA.out
   clear HA
   simp only [contangolaw24_TierForms.j0] at H
   by_cases c7 : x31_3 = T
   ·subst c7
    have H1 : ((Qai.f kj3).bind fun t679 => (some t679)) = some r := by rw [if_pos rfl] at H; exact H
    clear H
    have H := H1
    clear H1
    replace H := Option.bind_eq_some_iff.mp H
    obtain ⟨t679, A80, H⟩ := H
    replace H : (some t679) = some r := H
    have A8 := Aside0.mk A80
    clear A80
    obtain rfl := Option.some.inj H
    go_wp2_with (first | ((with_reducible refine Qat (f := 32) rfl ?_); refine goesL_ (some 32) rfl rfl Try.func32 (by kernel_rfl) rfl #[] rfl (Zl) ?_; (with_reducible refine (Qai.calls kj3  t679 _ A8.out).mono ?_); rintro e w9 ⟨rfl, hb⟩; refine ⟨_, rfl, ?_⟩; replace HB := Aside0.mk (Qax (Zb) hb); (try clear hb); (try clear hb2); (try clear hk); (try clear hi)))
    go_ret
    exact ⟨Zq, Zb⟩
   replace c7 := Bool.eq_false_iff.mpr c7
   subst c7
   have H1 : ((Qae.f kj3 l0 l1 l2).bind fun bt680 => ((Qad.f kj3 l0 l1 l2).bind fun bt687 => ((Qaw.f kj3 l0 l1 l2).bind fun bt694 => ((Qan.f kj3 l0 l1 l2).bind fun bt699 => ((Qaf.f kj3 bt680.1 bt687.1).bind fun t704 => (if t704 = T then ((Qaf.f kj3 bt680.2.1 bt687.2.1).bind fun t705 => (if t705 = T then (if bt680.2.2 = bt687.2.2 then (if bt694.1 = bt699.1 then ((Qaf.f kj3 bt694.2.1 bt699.2.1).bind fun t706 => (if t706 = T then (contangolaw24_TierForms.j1 kj3 l2 (bt694.2.2 != bt699.2.2)) else (contangolaw24_TierForms.j1 kj3 l2 T))) else (contangolaw24_TierForms.j1 kj3 l2 T)) else (contangolaw24_TierForms.j1 kj3 l2 T)) else (contangolaw24_TierForms.j1 kj3 l2 T))) else (contangolaw24_TierForms.j1 kj3 l2 T))))))) = some r := by rw [if_neg (show ¬ (F = T) by decide)] at H; exact H
   clear H
   have H := H1
   clear H1
   replace H := Option.bind_eq_some_iff.mp H
   obtain ⟨⟨t680, t681, t682⟩, A100, H⟩ := H
   replace H : ((Qad.f kj3 l0 l1 l2).bind fun bt687 => ((Qaw.f kj3 l0 l1 l2).bind fun bt694 => ((Qan.f kj3 l0 l1 l2).bind fun bt699 => ((Qaf.f kj3 t680 bt687.1).bind fun t704 => (if t704 = T then ((Qaf.f kj3 t681 bt687.2.1).bind fun t705 => (if t705 = T then (if t682 = bt687.2.2 then (if bt694.1 = bt699.1 then ((Qaf.f kj3 bt694.2.1 bt699.2.1).bind fun t706 => (if t706 = T then (contangolaw24_TierForms.j1 kj3 l2 (bt694.2.2 != bt699.2.2)) else (contangolaw24_TierForms.j1 kj3 l2 T))) else (contangolaw24_TierForms.j1 kj3 l2 T)) else (contangolaw24_TierForms.j1 kj3 l2 T)) else (contangolaw24_TierForms.j1 kj3 l2 T))) else (contangolaw24_TierForms.j1 kj3 l2 T)))))) = some r := H
   have A10 := Aside0.mk A100
   clear A100
   replace H := Option.bind_eq_some_iff.mp H
   obtain ⟨⟨t687, t688, t689⟩, A110, H⟩ := H
   replace H : ((Qaw.f kj3 l0 l1 l2).bind fun bt694 => ((Qan.f kj3 l0 l1 l2).bind fun bt699 => ((Qaf.f kj3 t680 t687).bind fun t704 => (if t704 = T then ((Qaf.f kj3 t681 t688).bind fun t705 => (if t705 = T then (if t682 = t689 then (if bt694.1 = bt699.1 then ((Qaf.f kj3 bt694.2.1 bt699.2.1).bind fun t706 => (if t706 = T then (contangolaw24_TierForms.j1 kj3 l2 (bt694.2.2 != bt699.2.2)) else (contangolaw24_TierForms.j1 kj3 l2 T))) else (contangolaw24_TierForms.j1 kj3 l2 T)) else (contangolaw24_TierForms.j1 kj3 l2 T)) else (contangolaw24_TierForms.j1 kj3 l2 T))) else (contangolaw24_TierForms.j1 kj3 l2 T))))) = some r := H
   have A11 := Aside0.mk A110
   clear A110
   replace H := Option.bind_eq_some_iff.mp H
   obtain ⟨⟨t694, t695, t696⟩, A120, H⟩ := H
   replace H : ((Qan.f kj3 l0 l1 l2).bind fun bt699 => ((Qaf.f kj3 t680 t687).bind fun t704 => (if t704 = T then ((Qaf.f kj3 t681 t688).bind fun t705 => (if t705 = T then (if t682 = t689 then (if t694 = bt699.1 then ((Qaf.f kj3 t695 bt699.2.1).bind fun t706 => (if t706 = T then (contangolaw24_TierForms.j1 kj3 l2 (t696 != bt699.2.2)) else (contangolaw24_TierForms.j1 kj3 l2 T))) else (contangolaw24_TierForms.j1 kj3 l2 T)) else (contangolaw24_TierForms.j1 kj3 l2 T)) else (contangolaw24_TierForms.j1 kj3 l2 T))) else (contangolaw24_TierForms.j1 kj3 l2 T)))) = some r := H
   have A12 := Aside0.mk A120
   clear A120
   replace H := Option.bind_eq_some_iff.mp H
   obtain ⟨⟨t699, t700, t701⟩, A130, H⟩ := H
   replace H : ((Qaf.f kj3 t680 t687).bind fun t704 => (if t704 = T then ((Qaf.f kj3 t681 t688).bind fun t705 => (if t705 = T then (if t682 = t689 then (if t694 = t699 then ((Qaf.f kj3 t695 t700).bind fun t706 => (if t706 = T then (contangolaw24_TierForms.j1 kj3 l2 (t696 != t701)) else (contangolaw24_TierForms.j1 kj3 l2 T))) else (contangolaw24_TierForms.j1 kj3 l2 T)) else (contangolaw24_TierForms.j1 kj3 l2 T)) else (contangolaw24_TierForms.j1 kj3 l2 T))) else (contangolaw24_TierForms.j1 kj3 l2 T))) = some r := H
   have A13 := Aside0.mk A130
   clear A130
   have HC14 := Aside0.mk H
   clear H
   go_upto_region 7 with (first | ((with_reducible refine Qat (f := 33) rfl ?_); refine goesL_ (some 37) rfl rfl Try.func33 (by kernel_rfl) rfl #[.slice A0 l0.length c0, .slice A1 l1.length c1, .slice A2 l2.length c2] rfl (Zl) ?_; (with_reducible refine (Qae.calls kj3 _ _ l0 _ _ l1 _ _ l2 t680 t681 t682 _ ?side1 ?side2 ?side3 ?side4 ?side5 ?side6 A10.out).mono ?_); (case side1 => exact Zv (Kd.C_below HR0.out HB.out)); (case side2 => exact HC0.out); (case side3 => exact Zv (Kd.C_below HR1.out HB.out)); (case side4 => exact HC1.out); (case side5 => exact Zv (Kd.C_below HR2.out HB.out)); (case side6 => exact HC2.out); rintro e w15 ⟨v683, v685, rfl, ho0, ho1, hb⟩; refine ⟨_, rfl, ?_⟩; have HO684 := Aside0.mk (Kd.R_lower ho0 (Qay (Zb))); have HO686 := Aside0.mk (Kd.R_lower ho1 (Qay (Zb))); replace HB := Aside0.mk (Qax (Zb) hb); (try clear hb); (try clear hb2); (try clear hk); (try clear hi); (try clear ho0); (try clear ho1)) | ((with_reducible refine Qat (f := 34) rfl ?_); refine goesL_ (some 45) rfl rfl Try.func34 (by kernel_rfl) rfl #[.slice A0 l0.length c0, .slice A1 l1.length c1, .slice A2 l2.length c2] rfl (Zl) ?_; (with_reducible refine (Qad.calls kj3 _ _ l0 _ _ l1 _ _ l2 t687 t688 t689 _ ?side1 ?side2 ?side3 ?side4 ?side5 ?side6 A11.out).mono ?_); (case side1 => exact Zv (Kd.C_below HR0.out HB.out)); (case side2 => exact HC0.out); (case side3 => exact Zv (Kd.C_below HR1.out HB.out)); (case side4 => exact HC1.out); (case side5 => exact Zv (Kd.C_below HR2.out HB.out)); (case side6 => exact HC2.out); rintro e w16 ⟨v690, v692, rfl, ho0, ho1, hb⟩; refine ⟨_, rfl, ?_⟩; have HO691 := Aside0.mk (Kd.R_lower (Kd.R_new' (Kd.R_new' ho0 (Kd.R_lt (Zr HO684.out))) (Kd.R_lt (Zr HO686.out))) (Qay (Zb))); have HO693 := Aside0.mk (Kd.R_lower (Kd.R_new' (Kd.R_new' ho1 (Kd.R_lt (Zr HO684.out))) (Kd.R_lt (Zr HO686.out))) (Qay (Zb))); replace HO684 := Aside0.mk (Kd.R_mono (Kd.R_told (Kd.R_told (Kd.R_old (Zr HO684.out) hb) (Kd.R_base ho0)) (Kd.R_base ho1)) (fun _ h_ => h_.1)); replace HO686 := Aside0.mk (Kd.R_mono (Kd.R_told (Kd.R_told (Kd.R_old (Zr HO686.out) hb) (Kd.R_base ho0)) (Kd.R_base ho1)) (fun _ h_ => h_.1)); replace HB := Aside0.mk (Qax (Zb) hb); (try clear hb); (try clear hb2); (try clear hk); (try clear hi); (try clear ho0); (try clear ho1)) | ((with_reducible refine Qat (f := 35) rfl ?_); refine goesL_ (some 53) rfl rfl Try.func35 (by kernel_rfl) rfl #[.slice A0 l0.length c0, .slice A1 l1.length c1, .slice A2 l2.length c2] rfl (Zl) ?_; (with_reducible refine (Qaw.calls kj3 _ _ l0 _ _ l1 _ _ l2 t694 t695 t696 _ ?side1 ?side2 ?side3 ?side4 ?side5 ?side6 A12.out).mono ?_); (case side1 => exact Zv (Kd.C_below HR0.out HB.out)); (case side2 => exact HC0.out); (case side3 => exact Zv (Kd.C_below HR1.out HB.out)); (case side4 => exact HC1.out); (case side5 => exact Zv (Kd.C_below HR2.out HB.out)); (case side6 => exact HC2.out); rintro e w17 ⟨v697, rfl, ho0, hb⟩; refine ⟨_, rfl, ?_⟩; have HO698 := Aside0.mk (Kd.R_lower (Kd.R_new' (Kd.R_new' (Kd.R_new' (Kd.R_new' ho0 (Kd.R_lt (Zr HO684.out))) (Kd.R_lt (Zr HO686.out))) (Kd.R_lt (Zr HO691.out))) (Kd.R_lt (Zr HO693.out))) (Qay (Zb))); replace HO684 := Aside0.mk (Kd.R_elder' (Zr HO684.out) (Kd.R_base ho0) hb); replace HO686 := Aside0.mk (Kd.R_elder' (Zr HO686.out) (Kd.R_base ho0) hb); replace HO691 := Aside0.mk (Kd.R_elder' (Zr HO691.out) (Kd.R_base ho0) hb); replace HO693 := Aside0.mk (Kd.R_elder' (Zr HO693.out) (Kd.R_base ho0) hb); replace HB := Aside0.mk (Qax (Zb) hb); (try clear hb); (try clear hb2); (try clear hk); (try clear hi); (try clear ho0)) | ((with_reducible refine Qat (f := 36) rfl ?_); refine goesL_ (some 61) rfl rfl Try.func36 (by kernel_rfl) rfl #[.slice A0 l0.length c0, .slice A1 l1.length c1, .slice A2 l2.length c2] rfl (Zl) ?_; (with_reducible refine (Qan.calls kj3 _ _ l0 _ _ l1 _ _ l2 t699 t700 t701 _ ?side1 ?side2 ?side3 ?side4 ?side5 ?side6 A13.out).mono ?_); (case side1 => exact Zv (Kd.C_below HR0.out HB.out)); (case side2 => exact HC0.out); (case side3 => exact Zv (Kd.C_below HR1.out HB.out)); (case side4 => exact HC1.out); (case side5 => exact Zv (Kd.C_below HR2.out HB.out)); (case side6 => exact HC2.out); rintro e w18 ⟨v702, rfl, ho0, hb⟩; refine ⟨_, rfl, ?_⟩; have HO703 := Aside0.mk (Kd.R_lower (Kd.R_new' (Kd.R_new' (Kd.R_new' (Kd.R_new' (Kd.R_new' ho0 (Kd.R_lt (Zr HO684.out))) (Kd.R_lt (Zr HO686.out))) (Kd.R_lt (Zr HO691.out))) (Kd.R_lt (Zr HO693.out))) (Kd.R_lt (Zr HO698.out))) (Qay (Zb))); replace HO684 := Aside0.mk (Kd.R_elder' (Zr HO684.out) (Kd.R_base ho0) hb); replace HO686 := Aside0.mk (Kd.R_elder' (Zr HO686.out) (Kd.R_base ho0) hb); replace HO691 := Aside0.mk (Kd.R_elder' (Zr HO691.out) (Kd.R_base ho0) hb); replace HO693 := Aside0.mk (Kd.R_elder' (Zr HO693.out) (Kd.R_base ho0) hb); replace HO698 := Aside0.mk (Kd.R_elder' (Zr HO698.out) (Kd.R_base ho0) hb); replace HB := Aside0.mk (Qax (Zb) hb); (try clear hb); (try clear hb2); (try clear hk); (try clear hi); (try clear ho0)))
   (try simp only [Act.put, Zj, Zk, Zm])
   go_cut [95] (fun v95 wc => ∃ (kq : Nat) (x95_13 : Bool), v95 = .bool x95_13 ∧ Aside0 (contangolaw24_TierForms.j1 kq l2 x95_13 = some r) ∧ Aside0 (kq ≤ kj3) ∧ Aside0 (Below w.heap.size w wc))
   case first =>
    have H := HC14.out
    clear HC14
    replace H := Option.bind_eq_some_iff.mp H
    obtain ⟨t704, A190, H⟩ := H
    replace H : (if t704 = T then ((Qaf.f kj3 t681 t688).bind fun t705 => (if t705 = T then (if t682 = t689 then (if t694 = t699 then ((Qaf.f kj3 t695 t700).bind fun t706 => (if t706 = T then (contangolaw24_TierForms.j1 kj3 l2 (t696 != t701)) else (contangolaw24_TierForms.j1 kj3 l2 T))) else (contangolaw24_TierForms.j1 kj3 l2 T)) else (contangolaw24_TierForms.j1 kj3 l2 T)) else (contangolaw24_TierForms.j1 kj3 l2 T))) else (contangolaw24_TierForms.j1 kj3 l2 T)) = some r := H
    have A19 := Aside0.mk A190
    clear A190
    by_cases c20 : t704 = T
    ·subst c20
     have H1 : ((Qaf.f kj3 t681 t688).bind fun t705 => (if t705 = T then (if t682 = t689 then (if t694 = t699 then ((Qaf.f kj3 t695 t700).bind fun t706 => (if t706 = T then (contangolaw24_TierForms.j1 kj3 l2 (t696 != t701)) else (contangolaw24_TierForms.j1 kj3 l2 T))) else (contangolaw24_TierForms.j1 kj3 l2 T)) else (contangolaw24_TierForms.j1 kj3 l2 T)) else (contangolaw24_TierForms.j1 kj3 l2 T))) = some r := by rw [if_pos rfl] at H; exact H
     clear H
     have H := H1
     clear H1
     replace H := Option.bind_eq_some_iff.mp H
     obtain ⟨t705, A210, H⟩ := H
     replace H : (if t705 = T then (if t682 = t689 then (if t694 = t699 then ((Qaf.f kj3 t695 t700).bind fun t706 => (if t706 = T then (contangolaw24_TierForms.j1 kj3 l2 (t696 != t701)) else (contangolaw24_TierForms.j1 kj3 l2 T))) else (contangolaw24_TierForms.j1 kj3 l2 T)) else (contangolaw24_TierForms.j1 kj3 l2 T)) else (contangolaw24_TierForms.j1 kj3 l2 T)) = some r := H
     have A21 := Aside0.mk A210
     clear A210
     by_cases c22 : t705 = T
     ·subst c22
      have H1 : (if t682 = t689 then (if t694 = t699 then ((Qaf.f kj3 t695 t700).bind fun t706 => (if t706 = T then (contangolaw24_TierForms.j1 kj3 l2 (t696 != t701)) else (contangolaw24_TierForms.j1 kj3 l2 T))) else (contangolaw24_TierForms.j1 kj3 l2 T)) else (contangolaw24_TierForms.j1 kj3 l2 T)) = some r := by rw [if_pos rfl] at H; exact H
      clear H
      have H := H1
      clear H1
      by_cases c23 : t682 = t689
      ·rw [if_pos c23] at H
       have c23b0 : (t682 == t689) = T := beq_iff_eq.mpr c23
       have c23b1 : (t682 != t689) = F := bne_eq_false_iff_eq.mpr c23
       clear c23
       by_cases c24 : t694 = t699
       ·rw [if_pos c24] at H
        have c24b0 : (t694 == t699) = T := beq_iff_eq.mpr c24
        have c24b1 : (t694 != t699) = F := bne_eq_false_iff_eq.mpr c24
        clear c24
        replace H := Option.bind_eq_some_iff.mp H
        obtain ⟨t706, A250, H⟩ := H
        replace H : (if t706 = T then (contangolaw24_TierForms.j1 kj3 l2 (t696 != t701)) else (contangolaw24_TierForms.j1 kj3 l2 T)) = some r := H
        have A25 := Aside0.mk A250
        clear A250
        by_cases c26 : t706 = T
        ·subst c26
         have H1 : (contangolaw24_TierForms.j1 kj3 l2 (t696 != t701)) = some r := by rw [if_pos rfl] at H; exact H
         clear H
         have H := H1
         clear H1
         have H' := Aside0.mk H
         clear H
         obtain ⟨Ao27, co27, eo27⟩ := Kd.R_slice HO684.out
         subst eo27
         obtain ⟨Ao28, co28, eo28⟩ := Kd.R_slice HO691.out
         subst eo28
         go_wp2_with (first | ((with_reducible refine Qat (f := 37) rfl ?_); refine goesL_ (some 67) rfl rfl Try.func37 (by kernel_rfl) rfl #[.slice Ao27 t680.length co27, .slice Ao28 t687.length co28] rfl (Zl) ?_; (with_reducible refine (Qaf.calls kj3 _ _ t680 _ _ t687 T _ ?side1 ?side2 ?side3 ?side4 A19.out).mono ?_); (case side1 => exact Zv (Kd.R_reads' HO684.out).2.2); (case side2 => exact (Kd.R_reads' HO684.out).2.1); (case side3 => exact Zv (Kd.R_reads' HO691.out).2.2); (case side4 => exact (Kd.R_reads' HO691.out).2.1); rintro e w' ⟨rfl, ⟨nd, rfl⟩⟩; refine ⟨_, rfl, ?_⟩; obtain ⟨Ao29, co29, eo29⟩ := Kd.R_slice HO686.out; subst eo29; obtain ⟨Ao30, co30, eo30⟩ := Kd.R_slice HO693.out; subst eo30) | (go_at_call 37; (with_reducible refine (Qaf.calls kj3 _ _ t681 _ _ t688 T _ ?side1 ?side2 ?side3 ?side4 A21.out).mono ?_); (case side1 => exact Zv (Kd.R_reads' HO686.out).2.2); (case side2 => exact (Kd.R_reads' HO686.out).2.1); (case side3 => exact Zv (Kd.R_reads' HO693.out).2.2); (case side4 => exact (Kd.R_reads' HO693.out).2.1); rintro e w' ⟨rfl, ⟨nd, rfl⟩⟩; obtain ⟨Ao31, co31, eo31⟩ := Kd.R_slice HO698.out; subst eo31; obtain ⟨Ao32, co32, eo32⟩ := Kd.R_slice HO703.out; subst eo32) | (go_at_call 37; (with_reducible refine (Qaf.calls kj3 _ _ t695 _ _ t700 T _ ?side1 ?side2 ?side3 ?side4 A25.out).mono ?_); (case side1 => exact Zv (Kd.R_reads' HO698.out).2.2); (case side2 => exact (Kd.R_reads' HO698.out).2.1); (case side3 => exact Zv (Kd.R_reads' HO703.out).2.2); (case side4 => exact (Kd.R_reads' HO703.out).2.1); rintro e w' ⟨rfl, ⟨nd, rfl⟩⟩))
         go_meet
         case rel => exact ⟨_, ((t696 != t701)), (Zs), H', ⟨by have := HJ3.out; first | omega | exact Nat.le_refl _⟩, ⟨Zb⟩⟩
        replace c26 := Bool.eq_false_iff.mpr c26
        subst c26
        have H1 : (contangolaw24_TierForms.j1 kj3 l2 T) = some r := by rw [if_neg (show ¬ (F = T) by decide)] at H; exact H
        clear H
        have H := H1
        clear H1
        have H' := Aside0.mk H
        clear H
        obtain ⟨Ao33, co33, eo33⟩ := Kd.R_slice HO684.out
        subst eo33
        obtain ⟨Ao34, co34, eo34⟩ := Kd.R_slice HO691.out
        subst eo34
        go_wp2_with (first | ((with_reducible refine Qat (f := 37) rfl ?_); refine goesL_ (some 67) rfl rfl Try.func37 (by kernel_rfl) rfl #[.slice Ao33 t680.length co33, .slice Ao34 t687.length co34] rfl (Zl) ?_; (with_reducible refine (Qaf.calls kj3 _ _ t680 _ _ t687 T _ ?side1 ?side2 ?side3 ?side4 A19.out).mono ?_); (case side1 => exact Zv (Kd.R_reads' HO684.out).2.2); (case side2 => exact (Kd.R_reads' HO684.out).2.1); (case side3 => exact Zv (Kd.R_reads' HO691.out).2.2); (case side4 => exact (Kd.R_reads' HO691.out).2.1); rintro e w' ⟨rfl, ⟨nd, rfl⟩⟩; refine ⟨_, rfl, ?_⟩; obtain ⟨Ao35, co35, eo35⟩ := Kd.R_slice HO686.out; subst eo35; obtain ⟨Ao36, co36, eo36⟩ := Kd.R_slice HO693.out; subst eo36) | (go_at_call 37; (with_reducible refine (Qaf.calls kj3 _ _ t681 _ _ t688 T _ ?side1 ?side2 ?side3 ?side4 A21.out).mono ?_); (case side1 => exact Zv (Kd.R_reads' HO686.out).2.2); (case side2 => exact (Kd.R_reads' HO686.out).2.1); (case side3 => exact Zv (Kd.R_reads' HO693.out).2.2); (case side4 => exact (Kd.R_reads' HO693.out).2.1); rintro e w' ⟨rfl, ⟨nd, rfl⟩⟩; obtain ⟨Ao37, co37, eo37⟩ := Kd.R_slice HO698.out; subst eo37; obtain ⟨Ao38, co38, eo38⟩ := Kd.R_slice HO703.out; subst eo38) | (go_at_call 37; (with_reducible refine (Qaf.calls kj3 _ _ t695 _ _ t700 F _ ?side1 ?side2 ?side3 ?side4 A25.out).mono ?_); (case side1 => exact Zv (Kd.R_reads' HO698.out).2.2); (case side2 => exact (Kd.R_reads' HO698.out).2.1); (case side3 => exact Zv (Kd.R_reads' HO703.out).2.2); (case side4 => exact (Kd.R_reads' HO703.out).2.1); rintro e w' ⟨rfl, ⟨nd, rfl⟩⟩))
        go_meet
        case rel => exact ⟨_, (T), (Zs), H', ⟨by have := HJ3.out; first | omega | exact Nat.le_refl _⟩, ⟨Zb⟩⟩
       rw [if_neg c24] at H
       have c24b0 : (t694 == t699) = F := beq_eq_false_iff_ne.mpr c24
       have c24b1 : (t694 != t699) = T := bne_iff_ne.mpr c24
       have H' := Aside0.mk H
       clear H
       obtain ⟨Ao39, co39, eo39⟩ := Kd.R_slice HO684.out
       subst eo39
       obtain ⟨Ao40, co40, eo40⟩ := Kd.R_slice HO691.out
       subst eo40
       go_wp2_with (first | ((with_reducible refine Qat (f := 37) rfl ?_); refine goesL_ (some 67) rfl rfl Try.func37 (by kernel_rfl) rfl #[.slice Ao39 t680.length co39, .slice Ao40 t687.length co40] rfl (Zl) ?_; (with_reducible refine (Qaf.calls kj3 _ _ t680 _ _ t687 T _ ?side1 ?side2 ?side3 ?side4 A19.out).mono ?_); (case side1 => exact Zv (Kd.R_reads' HO684.out).2.2); (case side2 => exact (Kd.R_reads' HO684.out).2.1); (case side3 => exact Zv (Kd.R_reads' HO691.out).2.2); (case side4 => exact (Kd.R_reads' HO691.out).2.1); rintro e w' ⟨rfl, ⟨nd, rfl⟩⟩; refine ⟨_, rfl, ?_⟩; obtain ⟨Ao41, co41, eo41⟩ := Kd.R_slice HO686.out; subst eo41; obtain ⟨Ao42, co42, eo42⟩ := Kd.R_slice HO693.out; subst eo42) | (go_at_call 37; (with_reducible refine (Qaf.calls kj3 _ _ t681 _ _ t688 T _ ?side1 ?side2 ?side3 ?side4 A21.out).mono ?_); (case side1 => exact Zv (Kd.R_reads' HO686.out).2.2); (case side2 => exact (Kd.R_reads' HO686.out).2.1); (case side3 => exact Zv (Kd.R_reads' HO693.out).2.2); (case side4 => exact (Kd.R_reads' HO693.out).2.1); rintro e w' ⟨rfl, ⟨nd, rfl⟩⟩))
       go_meet
       case rel => exact ⟨_, (T), (Zs), H', ⟨by have := HJ3.out; first | omega | exact Nat.le_refl _⟩, ⟨Zb⟩⟩
      rw [if_neg c23] at H
      have c23b0 : (t682 == t689) = F := beq_eq_false_iff_ne.mpr c23
      have c23b1 : (t682 != t689) = T := bne_iff_ne.mpr c23
      have H' := Aside0.mk H
      clear H
      obtain ⟨Ao43, co43, eo43⟩ := Kd.R_slice HO684.out
      subst eo43
      obtain ⟨Ao44, co44, eo44⟩ := Kd.R_slice HO691.out
      subst eo44
      go_wp2_with (first | ((with_reducible refine Qat (f := 37) rfl ?_); refine goesL_ (some 67) rfl rfl Try.func37 (by kernel_rfl) rfl #[.slice Ao43 t680.length co43, .slice Ao44 t687.length co44] rfl (Zl) ?_; (with_reducible refine (Qaf.calls kj3 _ _ t680 _ _ t687 T _ ?side1 ?side2 ?side3 ?side4 A19.out).mono ?_); (case side1 => exact Zv (Kd.R_reads' HO684.out).2.2); (case side2 => exact (Kd.R_reads' HO684.out).2.1); (case side3 => exact Zv (Kd.R_reads' HO691.out).2.2); (case side4 => exact (Kd.R_reads' HO691.out).2.1); rintro e w' ⟨rfl, ⟨nd, rfl⟩⟩; refine ⟨_, rfl, ?_⟩; obtain ⟨Ao45, co45, eo45⟩ := Kd.R_slice HO686.out; subst eo45; obtain ⟨Ao46, co46, eo46⟩ := Kd.R_slice HO693.out; subst eo46) | (go_at_call 37; (with_reducible refine (Qaf.calls kj3 _ _ t681 _ _ t688 T _ ?side1 ?side2 ?side3 ?side4 A21.out).mono ?_); (case side1 => exact Zv (Kd.R_reads' HO686.out).2.2); (case side2 => exact (Kd.R_reads' HO686.out).2.1); (case side3 => exact Zv (Kd.R_reads' HO693.out).2.2); (case side4 => exact (Kd.R_reads' HO693.out).2.1); rintro e w' ⟨rfl, ⟨nd, rfl⟩⟩))
      go_meet
      case rel => exact ⟨_, (T), (Zs), H', ⟨by have := HJ3.out; first | omega | exact Nat.le_refl _⟩, ⟨Zb⟩⟩
     replace c22 := Bool.eq_false_iff.mpr c22
     subst c22
     have H1 : (contangolaw24_TierForms.j1 kj3 l2 T) = some r := by rw [if_neg (show ¬ (F = T) by decide)] at H; exact H
     clear H
     have H := H1
     clear H1
     have H' := Aside0.mk H
     clear H
     obtain ⟨Ao47, co47, eo47⟩ := Kd.R_slice HO684.out
     subst eo47
     obtain ⟨Ao48, co48, eo48⟩ := Kd.R_slice HO691.out
     subst eo48
     go_wp2_with (first | ((with_reducible refine Qat (f := 37) rfl ?_); refine goesL_ (some 67) rfl rfl Try.func37 (by kernel_rfl) rfl #[.slice Ao47 t680.length co47, .slice Ao48 t687.length co48] rfl (Zl) ?_; (with_reducible refine (Qaf.calls kj3 _ _ t680 _ _ t687 T _ ?side1 ?side2 ?side3 ?side4 A19.out).mono ?_); (case side1 => exact Zv (Kd.R_reads' HO684.out).2.2); (case side2 => exact (Kd.R_reads' HO684.out).2.1); (case side3 => exact Zv (Kd.R_reads' HO691.out).2.2); (case side4 => exact (Kd.R_reads' HO691.out).2.1); rintro e w' ⟨rfl, ⟨nd, rfl⟩⟩; refine ⟨_, rfl, ?_⟩; obtain ⟨Ao49, co49, eo49⟩ := Kd.R_slice HO686.out; subst eo49; obtain ⟨Ao50, co50, eo50⟩ := Kd.R_slice HO693.out; subst eo50) | (go_at_call 37; (with_reducible refine (Qaf.calls kj3 _ _ t681 _ _ t688 F _ ?side1 ?side2 ?side3 ?side4 A21.out).mono ?_); (case side1 => exact Zv (Kd.R_reads' HO686.out).2.2); (case side2 => exact (Kd.R_reads' HO686.out).2.1); (case side3 => exact Zv (Kd.R_reads' HO693.out).2.2); (case side4 => exact (Kd.R_reads' HO693.out).2.1); rintro e w' ⟨rfl, ⟨nd, rfl⟩⟩))
     go_meet
     case rel => exact ⟨_, (T), (Zs), H', ⟨by have := HJ3.out; first | omega | exact Nat.le_refl _⟩, ⟨Zb⟩⟩
    replace c20 := Bool.eq_false_iff.mpr c20
    subst c20
    have H1 : (contangolaw24_TierForms.j1 kj3 l2 T) = some r := by rw [if_neg (show ¬ (F = T) by decide)] at H; exact H
    clear H
    have H := H1
    clear H1
    have H' := Aside0.mk H
    clear H
    obtain ⟨Ao51, co51, eo51⟩ := Kd.R_slice HO684.out
    subst eo51
    obtain ⟨Ao52, co52, eo52⟩ := Kd.R_slice HO691.out
    subst eo52
    go_wp2_with (first | ((with_reducible refine Qat (f := 37) rfl ?_); refine goesL_ (some 67) rfl rfl Try.func37 (by kernel_rfl) rfl #[.slice Ao51 t680.length co51, .slice Ao52 t687.length co52] rfl (Zl) ?_; (with_reducible refine (Qaf.calls kj3 _ _ t680 _ _ t687 F _ ?side1 ?side2 ?side3 ?side4 A19.out).mono ?_); (case side1 => exact Zv (Kd.R_reads' HO684.out).2.2); (case side2 => exact (Kd.R_reads' HO684.out).2.1); (case side3 => exact Zv (Kd.R_reads' HO691.out).2.2); (case side4 => exact (Kd.R_reads' HO691.out).2.1); rintro e w' ⟨rfl, ⟨nd, rfl⟩⟩; refine ⟨_, rfl, ?_⟩))
    go_meet
    case rel => exact ⟨_, (T), (Zs), H', ⟨by have := HJ3.out; first | omega | exact Nat.le_refl _⟩, ⟨Zb⟩⟩
   case rest =>
    clear HC14
    try clear c1
    try clear c2
    try clear p2
    try clear c3
    try clear c5
    try clear c5b0
    try clear c5b1
    try clear c6
    try clear c6b0
    try clear c6b1
    try clear c7
    try clear c20
    try clear c22
    try clear c23
    try clear c23b0
    try clear c23b1
    try clear c24
    try clear c24b0
    try clear c24b1
    try clear c26
    try clear c32
    try clear c33
    try clear c34
    try clear c35
    try clear c36
    try clear c37
    try clear p2
    obtain ⟨kq, x95_13, rfl, HA, HJ13, HB⟩ := hcut
    cases kq with
    | zero => exact absurd HA.out (by simp [contangolaw24_TierForms.j1])
    | succ kj13 =>
     have H := HA.out
     clear HA
     simp only [contangolaw24_TierForms.j1] at H
     by_cases c53 : x95_13 = T
     ·subst c53
      have H1 : (some F) = some r := by rw [if_pos rfl] at H; exact H
      clear H
      have H := H1
      clear H1
      obtain rfl := Option.some.inj H
      go_wp2
      go_ret
      exact ⟨Zq, Zb⟩
     replace c53 := Bool.eq_false_iff.mpr c53
     subst c53
     have H1 : ((Qar.f kj13 l2).bind fun t707 => ((Qal.f kj13 l2).bind fun t708 => (if t707 = t708 then ((Qai.f kj13).bind fun t709 => (some t709)) else (some F)))) = some r := by rw [if_neg (show ¬ (F = T) by decide)] at H; exact H
     clear H
     have H := H1
     clear H1
     replace H := Option.bind_eq_some_iff.mp H
     obtain ⟨t707, A540, H⟩ := H
     replace H : ((Qal.f kj13 l2).bind fun t708 => (if t707 = t708 then ((Qai.f kj13).bind fun t709 => (some t709)) else (some F))) = some r := H
     have A54 := Aside0.mk A540
     clear A540
     replace H := Option.bind_eq_some_iff.mp H
     obtain ⟨t708, A550, H⟩ := H
     replace H : (if t707 = t708 then ((Qai.f kj13).bind fun t709 => (some t709)) else (some F)) = some r := H
     have A55 := Aside0.mk A550
     clear A550
     by_cases c56 : t707 = t708
     ·rw [if_pos c56] at H
      have c56b0 : (t707 == t708) = T := beq_iff_eq.mpr c56
      have c56b1 : (t707 != t708) = F := bne_eq_false_iff_eq.mpr c56
      clear c56
      replace H := Option.bind_eq_some_iff.mp H
      obtain ⟨t709, A570, H⟩ := H
      replace H : (some t709) = some r := H
      have A57 := Aside0.mk A570
      clear A570
      obtain rfl := Option.some.inj H
      go_wp2_with (first | ((with_reducible refine Qat (f := 38) rfl ?_); refine goesL_ (some 97) rfl rfl Try.func38 (by kernel_rfl) rfl #[.slice A2 l2.length c2] rfl (Zl) ?_; (with_reducible refine (Qar.calls kj13 _ _ l2 t707 _ ?side1 ?side2 A54.out).mono ?_); (case side1 => exact Zv (Kd.C_below HR2.out HB.out)); (case side2 => exact HC2.out); rintro e w58 ⟨rfl, hb⟩; refine ⟨_, rfl, ?_⟩; replace HB := Aside0.mk (Qax (Zb) hb); (try clear hb); (try clear hb2); (try clear hk); (try clear hi)) | ((with_reducible refine Qat (f := 39) rfl ?_); refine goesL_ (some 99) rfl rfl Try.func39 (by kernel_rfl) rfl #[.slice A2 l2.length c2] rfl (Zl) ?_; (with_reducible refine (Qal.calls kj13 _ _ l2 t708 _ ?side1 ?side2 A55.out).mono ?_); (case side1 => exact Zv (Kd.C_below HR2.out HB.out)); (case side2 => exact HC2.out); rintro e w' ⟨rfl, ⟨nd, rfl⟩⟩; refine ⟨_, rfl, ?_⟩) | (go_at_call 32; (with_reducible refine (Qai.calls kj13  t709 _ A57.out).mono ?_); rintro e w59 ⟨rfl, hb⟩; replace HB := Aside0.mk (Qax (Zb) hb); (try clear hb); (try clear hb2); (try clear hk); (try clear hi)))
      go_ret
      exact ⟨Zq, Zb⟩
     rw [if_neg c56] at H
     have c56b0 : (t707 == t708) = F := beq_eq_false_iff_ne.mpr c56
     have c56b1 : (t707 != t708) = T := bne_iff_ne.mpr c56
     obtain rfl := Option.some.inj H
     go_wp2_with (first | ((with_reducible refine Qat (f := 38) rfl ?_); refine goesL_ (some 97) rfl rfl Try.func38 (by kernel_rfl) rfl #[.slice A2 l2.length c2] rfl (Zl) ?_; (with_reducible refine (Qar.calls kj13 _ _ l2 t707 _ ?side1 ?side2 A54.out).mono ?_); (case side1 => exact Zv (Kd.C_below HR2.out HB.out)); (case side2 => exact HC2.out); rintro e w60 ⟨rfl, hb⟩; refine ⟨_, rfl, ?_⟩; replace HB := Aside0.mk (Qax (Zb) hb); (try clear hb); (try clear hb2); (try clear hk); (try clear hi)) | ((with_reducible refine Qat (f := 39) rfl ?_); refine goesL_ (some 99) rfl rfl Try.func39 (by kernel_rfl) rfl #[.slice A2 l2.length c2] rfl (Zl) ?_; (with_reducible refine (Qal.calls kj13 _ _ l2 t708 _ ?side1 ?side2 A55.out).mono ?_); (case side1 => exact Zv (Kd.C_below HR2.out HB.out)); (case side2 => exact HC2.out); rintro e w' ⟨rfl, ⟨nd, rfl⟩⟩; refine ⟨_, rfl, ?_⟩))
     go_ret
     exact ⟨Zq, Zb⟩
end Go.Proofs.Ytggbflplbblgbaa.Pr
