/- Functions' values and contracts, as the print wrote them. -/
import Derived.Test.YtfcaaefdmabkhaaQCF9P0
import Derived.Test.YtfcaaefdmabkhaaQCF9P5
import Derived.Test.YtfcaaefdmabkhaaQCF9P2
import Derived.Test.YtfcaaefdmabkhaaQCF9P7
import Derived.Test.YtfcaaefdmabkhaaQCF9P3
namespace Go.Proofs.Ytfcaaefdmabkhaa.Pr
open Go.RowKit Go.Proofs.YtfcaaefdmabkhaaW.PrintWords Go.Proofs.YtfcaaefdmabkhaaW.PrintLast Go.Proofs.YtfcaaefdmabkhaaW.PrintMore
attribute [local go_sem] QaP QaR QaX QaY QaJ QaK QaQ QaS   -- for this text's walks alone
set_option linter.unusedVariables false
set_option linter.unusedSimpArgs false
def QaG.l0 : Nat → List (S84) → Int → Option (Int)
 | 0, _, _ => none
 | k + 1, x0, x3 => if x3 < (x0.length : Int) then (if 0 ≤ x3 then ((Qbb.f k ((rd_T84 x0 x3).f0) ((rd_T84 x0 x3).f1) ((rd_T84 x0 x3).f2) ((rd_T84 x0 x3).f3) ((rd_T84 x0 x3).f4) ((rd_T84 x0 x3).f5)).bind fun t402 => (if t402 = 0 then (if x3 > 0 then (if 0 ≤ (wrap64 (x3 - 1)) then (if (wrap64 (x3 - 1)) < (x0.length : Int) then (if (Op.bytesLess (((rd_T84 x0 x3).f0).toList) (((rd_T84 x0 (wrap64 (x3 - 1))).f0).toList)) = true then (some 12) else (if (((rd_T84 x0 x3).f0).toList) = (((rd_T84 x0 (wrap64 (x3 - 1))).f0).toList) then (some 12) else (QaG.l0 k x0 (wrap64 (x3 + 1))))) else (none)) else (none)) else (QaG.l0 k x0 (wrap64 (x3 + 1)))) else (some t402))) else (none)) else (some 0)
def QaG.f (k : Nat) (l0 : List (S84)) : Option (Int) := if (l0.length : Int) > 1024 then (some 8) else (QaG.l0 k l0 0)
theorem QaG.mono_l : ∀ k, (∀ y0 y1, LeO (QaG.l0 k y0 y1) (QaG.l0 (k + 1) y0 y1))
 | 0 => fun _ _ r h => by simp [QaG.l0] at h
 | k + 1 => by
  have ih0 := QaG.mono_l k
  ·intro y0 y1
   unfold QaG.l0
   repeat' first
   | (with_reducible exact ih0 _ _)
   | (with_reducible exact Qbb.mono _ _ _ _ _ _ _)
   | (with_reducible exact LeO.refl _)
   | (with_reducible exact LeO.none _)
   | (with_reducible refine LeO.ite ?_ ?_)
   | (with_reducible refine LeO.bind ?_ (fun _ => ?_))
   | exact ih0 _ _
   | exact Qbb.mono _ _ _ _ _ _ _
   | exact LeO.none _
   | refine LeO.ite ?_ ?_
   | refine LeO.bind ?_ (fun _ => ?_)
theorem QaG.mono : ∀ a0 k, LeO (QaG.f k a0) (QaG.f (k + 1) a0) := by
 intro a0 k
 have ih0 := QaG.mono_l k
 unfold QaG.f
 repeat' first
   | (with_reducible exact ih0 _ _)
   | (with_reducible exact Qbb.mono _ _ _ _ _ _ _)
   | (with_reducible exact LeO.refl _)
   | (with_reducible exact LeO.none _)
   | (with_reducible refine LeO.ite ?_ ?_)
   | (with_reducible refine LeO.bind ?_ (fun _ => ?_))
   | exact ih0 _ _
   | exact Qbb.mono _ _ _ _ _ _ _
   | exact LeO.none _
   | refine LeO.ite ?_ ?_
   | refine LeO.bind ?_ (fun _ => ?_)
set_option maxHeartbeats 8000000 in
set_option maxRecDepth 100000 in
theorem QaG.calls (k : Nat) (A0 : Option Addr) (c0 : Nat) (l0 : List (S84)) (r : Int) (w : World) (hr0 : Kd.C k84 w A0 l0.length l0) (hc0 : l0.length ≤ c0) (h : QaG.f k l0 = some r) :
  Calls Try.prog 67 #[.slice A0 l0.length c0] w fun e w' => e = .returned (.int .i64 r) ∧ Below w.heap.size w w' := by
 have hu84 := Try.underlying84
 have HR0 := Aside0.mk hr0
 have HC0 := Aside0.mk hc0
 clear hr0 hc0
 have HB := Aside0.mk (Below.refl w.heap.size w)
 have H : (if (l0.length : Int) > 1024 then (some 8) else (QaG.l0 k l0 0)) = some r := h
 clear h
 by_cases c2 : (l0.length : Int) > 1024
 ·rw [if_pos c2] at H
  have c2b0 : decide (1024 < (l0.length : Int)) = true := decide_eq_true c2
  have c2b1 : decide (1024 < l0.length) = true := decide_eq_true (by omega)
  clear c2
  obtain rfl := Option.some.inj H
  go_enter Try.func67, Try.ntmps67
  go_wp2
  repeat (go_quiet (fail); try go_wp2)
  go_ret
  exact ⟨Zq, Zb⟩
 ·rw [if_neg c2] at H
  have c2b0 : decide (1024 < (l0.length : Int)) = false := decide_eq_false c2
  have c2b1 : decide (1024 < l0.length) = false := decide_eq_false (by omega)
  clear c2
  have H' := Aside0.mk H
  clear H
  go_enter Try.func67, Try.ntmps67
  go_wp2
  repeat (go_quiet (fail); try go_wp2)
  go_loopg [3] k (fun kq v3 w' => ∃ (x3_1 : Int), v3 = .int .i64 x3_1 ∧ Aside0 (QaG.l0 kq l0 x3_1 = some r) ∧ Aside0 (kq ≤ k) ∧ Aside0 (Below w.heap.size w w'))
  case atStart => exact ⟨(0), (Zs), H', ⟨Nat.le_refl _⟩, ⟨Zb⟩⟩
  case round =>
   clear H'
   try clear c2
   try clear c2b0
   try clear c2b1
   try clear p2
   obtain ⟨x3_1, rfl, HA, HK1, HB⟩ := hrel
   cases gk with
   | zero => exact absurd HA.out (by simp [QaG.l0])
   | succ k1 =>
    have H := HA.out
    clear HA
    simp only [QaG.l0] at H
    by_cases c3 : x3_1 < (l0.length : Int)
    ·rw [if_pos c3] at H
     have c3b0 : decide (x3_1 < (l0.length : Int)) = true := decide_eq_true c3
     clear c3
     (try simp only [c3b0])
     by_cases c4 : 0 ≤ x3_1
     ·rw [if_pos c4] at H
      have c4b0 : decide (0 ≤ x3_1) = true := decide_eq_true c4
      clear c4
      replace H := Option.bind_eq_some_iff.mp H
      obtain ⟨t402, A50, H⟩ := H
      replace H : (if t402 = 0 then (if x3_1 > 0 then (if 0 ≤ (wrap64 (x3_1 - 1)) then (if (wrap64 (x3_1 - 1)) < (l0.length : Int) then (if (Op.bytesLess (((rd_T84 l0 x3_1).f0).toList) (((rd_T84 l0 (wrap64 (x3_1 - 1))).f0).toList)) = true then (some 12) else (if (((rd_T84 l0 x3_1).f0).toList) = (((rd_T84 l0 (wrap64 (x3_1 - 1))).f0).toList) then (some 12) else (QaG.l0 k1 l0 (wrap64 (x3_1 + 1))))) else (none)) else (none)) else (QaG.l0 k1 l0 (wrap64 (x3_1 + 1)))) else (some t402)) = some r := H
      have A5 := Aside0.mk A50
      clear A50
      have p401 : 0 ≤ (x3_1 : Int) := Ze
      have q401 : x3_1 < (l0.length : Int) := Ze
      obtain ⟨ad401, e401, hx401_0, hx401_1, hx401_2, hx401_3, hx401_4, hx401_5⟩ := at_T84 HR0.out x3_1 p401 q401
      cases e401
      replace hx401_0 := (HB.out.cell (World.block_lt_of_cell? w _ hx401_0)).trans hx401_0
      replace hx401_1 := (HB.out.cell (World.block_lt_of_cell? w _ hx401_1)).trans hx401_1
      replace hx401_2 := (HB.out.cell (World.block_lt_of_cell? w _ hx401_2)).trans hx401_2
      replace hx401_3 := (HB.out.cell (World.block_lt_of_cell? w _ hx401_3)).trans hx401_3
      replace hx401_4 := (HB.out.cell (World.block_lt_of_cell? w _ hx401_4)).trans hx401_4
      replace hx401_5 := (HB.out.cell (World.block_lt_of_cell? w _ hx401_5)).trans hx401_5
      replace p401 := eq_true p401
      replace q401 := eq_true q401
      go_upto_if 20 with (first | (go_at_call 102; (with_reducible refine (Qbb.calls k1 ((rd_T84 l0 x3_1).f0) ((rd_T84 l0 x3_1).f1) ((rd_T84 l0 x3_1).f2) ((rd_T84 l0 x3_1).f3) ((rd_T84 l0 x3_1).f4) ((rd_T84 l0 x3_1).f5) t402 _ A5.out).mono ?_); rintro e w6 ⟨rfl, hb⟩; have n0_ := Aside0.mk (Qao (Zb) hb); clear HB; have HB := n0_; clear n0_; (try clear hb); (try clear hb2); (try clear hk); (try clear hi)))
      repeat (go_quiet (first | (go_at_call 102; (with_reducible refine (Qbb.calls k1 ((rd_T84 l0 x3_1).f0) ((rd_T84 l0 x3_1).f1) ((rd_T84 l0 x3_1).f2) ((rd_T84 l0 x3_1).f3) ((rd_T84 l0 x3_1).f4) ((rd_T84 l0 x3_1).f5) t402 _ A5.out).mono ?_); rintro e w6 ⟨rfl, hb⟩; have n0_ := Aside0.mk (Qao (Zb) hb); clear HB; have HB := n0_; clear n0_; (try clear hb); (try clear hb2); (try clear hk); (try clear hi))); go_upto_if 20 with (first | (go_at_call 102; (with_reducible refine (Qbb.calls k1 ((rd_T84 l0 x3_1).f0) ((rd_T84 l0 x3_1).f1) ((rd_T84 l0 x3_1).f2) ((rd_T84 l0 x3_1).f3) ((rd_T84 l0 x3_1).f4) ((rd_T84 l0 x3_1).f5) t402 _ A5.out).mono ?_); rintro e w6 ⟨rfl, hb⟩; have n0_ := Aside0.mk (Qao (Zb) hb); clear HB; have HB := n0_; clear n0_; (try clear hb); (try clear hb2); (try clear hk); (try clear hi))))
      (try simp only [Act.put, List.setIfInBounds_toArray, List.set_cons_zero, List.set_cons_succ])
      by_cases c7 : t402 = 0
      ·rw [if_pos c7] at H
       have c7b0 : (t402 == 0) = true := beq_iff_eq.mpr c7
       have c7b1 : (t402 != 0) = false := bne_eq_false_iff_eq.mpr c7
       clear c7
       (try simp only [c7b0, c7b1])
       by_cases c8 : x3_1 > 0
       ·rw [if_pos c8] at H
        have c8b0 : decide (0 < x3_1) = true := decide_eq_true c8
        clear c8
        obtain ⟨ji9, hji9⟩ : ∃ j_ : Int, (wrap64 (x3_1 - 1)) = j_ := ⟨_, rfl⟩
        replace H : (if 0 ≤ (ji9) then (if (ji9) < (l0.length : Int) then (if (Op.bytesLess (((rd_T84 l0 x3_1).f0).toList) (((rd_T84 l0 (ji9)).f0).toList)) = true then (some 12) else (if (((rd_T84 l0 x3_1).f0).toList) = (((rd_T84 l0 (ji9)).f0).toList) then (some 12) else (QaG.l0 k1 l0 (wrap64 (x3_1 + 1))))) else (none)) else (none)) = some r := by first | (rw [hji9] at H; exact H) | (simp only [hji9] at H ⊢; exact H)
        have hji9w : (IntKind.i64.wrap (x3_1 - 1)) = ji9 := (i64_w _).trans hji9
        by_cases c10 : 0 ≤ (ji9)
        ·rw [if_pos c10] at H
         have c10b0 : decide (0 ≤ (ji9)) = true := decide_eq_true c10
         clear c10
         by_cases c11 : (ji9) < (l0.length : Int)
         ·rw [if_pos c11] at H
          have c11b0 : decide ((ji9) < (l0.length : Int)) = true := decide_eq_true c11
          clear c11
          by_cases c12 : (Op.bytesLess (((rd_T84 l0 x3_1).f0).toList) (((rd_T84 l0 (ji9)).f0).toList)) = true
          ·rw [if_pos c12] at H
           have c12b0 : (Op.bytesLess (((rd_T84 l0 x3_1).f0).toList) (((rd_T84 l0 (ji9)).f0).toList)) = true := c12
           clear c12
           obtain rfl := Option.some.inj H
           have p403 : 0 ≤ (x3_1 : Int) := Ze
           have q403 : x3_1 < (l0.length : Int) := Ze
           obtain ⟨ad403, e403, hx403_0, hx403_1, hx403_2, hx403_3, hx403_4, hx403_5⟩ := at_T84 HR0.out x3_1 p403 q403
           obtain rfl : ad401 = ad403 := (by injection e403)
           replace hx403_0 := (HB.out.cell (World.block_lt_of_cell? w _ hx403_0)).trans hx403_0
           replace hx403_1 := (HB.out.cell (World.block_lt_of_cell? w _ hx403_1)).trans hx403_1
           replace hx403_2 := (HB.out.cell (World.block_lt_of_cell? w _ hx403_2)).trans hx403_2
           replace hx403_3 := (HB.out.cell (World.block_lt_of_cell? w _ hx403_3)).trans hx403_3
           replace hx403_4 := (HB.out.cell (World.block_lt_of_cell? w _ hx403_4)).trans hx403_4
           replace hx403_5 := (HB.out.cell (World.block_lt_of_cell? w _ hx403_5)).trans hx403_5
           replace p403 := eq_true p403
           replace q403 := eq_true q403
           have p404 : 0 ≤ ((ji9) : Int) := Ze
           have q404 : (ji9) < (l0.length : Int) := Ze
           obtain ⟨ad404, e404, hx404_0, hx404_1, hx404_2, hx404_3, hx404_4, hx404_5⟩ := at_T84 HR0.out (ji9) p404 q404
           obtain rfl : ad401 = ad404 := (by injection e404)
           replace hx404_0 := (HB.out.cell (World.block_lt_of_cell? w _ hx404_0)).trans hx404_0
           replace hx404_1 := (HB.out.cell (World.block_lt_of_cell? w _ hx404_1)).trans hx404_1
           replace hx404_2 := (HB.out.cell (World.block_lt_of_cell? w _ hx404_2)).trans hx404_2
           replace hx404_3 := (HB.out.cell (World.block_lt_of_cell? w _ hx404_3)).trans hx404_3
           replace hx404_4 := (HB.out.cell (World.block_lt_of_cell? w _ hx404_4)).trans hx404_4
           replace hx404_5 := (HB.out.cell (World.block_lt_of_cell? w _ hx404_5)).trans hx404_5
           replace p404 := eq_true p404
           replace q404 := eq_true q404
           go_wp2
           repeat (go_quiet (fail); try go_wp2)
           go_ret
           exact ⟨by first | rfl | (simp [Qaj, Qak] <;> rfl) | (simp only [← hji9]; first | rfl | (simp [Qaj, Qak] <;> rfl)) | (simp [*, Qaj, Qak] <;> rfl), Zb⟩
          ·rw [if_neg c12] at H
           have c12b0 : (Op.bytesLess (((rd_T84 l0 x3_1).f0).toList) (((rd_T84 l0 (ji9)).f0).toList)) = false := by simpa using c12
           clear c12
           by_cases c13 : (((rd_T84 l0 x3_1).f0).toList) = (((rd_T84 l0 (ji9)).f0).toList)
           ·rw [if_pos c13] at H
            have c13b0 : ((((rd_T84 l0 x3_1).f0).toList) == (((rd_T84 l0 (ji9)).f0).toList)) = true := beq_iff_eq.mpr c13
            have c13b1 : ((((rd_T84 l0 x3_1).f0).toList) != (((rd_T84 l0 (ji9)).f0).toList)) = false := bne_eq_false_iff_eq.mpr c13
            clear c13
            obtain rfl := Option.some.inj H
            have p403 : 0 ≤ (x3_1 : Int) := Ze
            have q403 : x3_1 < (l0.length : Int) := Ze
            obtain ⟨ad403, e403, hx403_0, hx403_1, hx403_2, hx403_3, hx403_4, hx403_5⟩ := at_T84 HR0.out x3_1 p403 q403
            obtain rfl : ad401 = ad403 := (by injection e403)
            replace hx403_0 := (HB.out.cell (World.block_lt_of_cell? w _ hx403_0)).trans hx403_0
            replace hx403_1 := (HB.out.cell (World.block_lt_of_cell? w _ hx403_1)).trans hx403_1
            replace hx403_2 := (HB.out.cell (World.block_lt_of_cell? w _ hx403_2)).trans hx403_2
            replace hx403_3 := (HB.out.cell (World.block_lt_of_cell? w _ hx403_3)).trans hx403_3
            replace hx403_4 := (HB.out.cell (World.block_lt_of_cell? w _ hx403_4)).trans hx403_4
            replace hx403_5 := (HB.out.cell (World.block_lt_of_cell? w _ hx403_5)).trans hx403_5
            replace p403 := eq_true p403
            replace q403 := eq_true q403
            have p404 : 0 ≤ ((ji9) : Int) := Ze
            have q404 : (ji9) < (l0.length : Int) := Ze
            obtain ⟨ad404, e404, hx404_0, hx404_1, hx404_2, hx404_3, hx404_4, hx404_5⟩ := at_T84 HR0.out (ji9) p404 q404
            obtain rfl : ad401 = ad404 := (by injection e404)
            replace hx404_0 := (HB.out.cell (World.block_lt_of_cell? w _ hx404_0)).trans hx404_0
            replace hx404_1 := (HB.out.cell (World.block_lt_of_cell? w _ hx404_1)).trans hx404_1
            replace hx404_2 := (HB.out.cell (World.block_lt_of_cell? w _ hx404_2)).trans hx404_2
            replace hx404_3 := (HB.out.cell (World.block_lt_of_cell? w _ hx404_3)).trans hx404_3
            replace hx404_4 := (HB.out.cell (World.block_lt_of_cell? w _ hx404_4)).trans hx404_4
            replace hx404_5 := (HB.out.cell (World.block_lt_of_cell? w _ hx404_5)).trans hx404_5
            replace p404 := eq_true p404
            replace q404 := eq_true q404
            go_wp2
            repeat (go_quiet (fail); try go_wp2)
            go_ret
            exact ⟨by first | rfl | (simp [Qaj, Qak] <;> rfl) | (simp only [← hji9]; first | rfl | (simp [Qaj, Qak] <;> rfl)) | (simp [*, Qaj, Qak] <;> rfl), Zb⟩
           ·rw [if_neg c13] at H
            have c13b0 : ((((rd_T84 l0 x3_1).f0).toList) == (((rd_T84 l0 (ji9)).f0).toList)) = false := beq_eq_false_iff_ne.mpr c13
            have c13b1 : ((((rd_T84 l0 x3_1).f0).toList) != (((rd_T84 l0 (ji9)).f0).toList)) = true := bne_iff_ne.mpr c13
            have H' := Aside0.mk H
            clear H
            have p403 : 0 ≤ (x3_1 : Int) := Ze
            have q403 : x3_1 < (l0.length : Int) := Ze
            obtain ⟨ad403, e403, hx403_0, hx403_1, hx403_2, hx403_3, hx403_4, hx403_5⟩ := at_T84 HR0.out x3_1 p403 q403
            obtain rfl : ad401 = ad403 := (by injection e403)
            replace hx403_0 := (HB.out.cell (World.block_lt_of_cell? w _ hx403_0)).trans hx403_0
            replace hx403_1 := (HB.out.cell (World.block_lt_of_cell? w _ hx403_1)).trans hx403_1
            replace hx403_2 := (HB.out.cell (World.block_lt_of_cell? w _ hx403_2)).trans hx403_2
            replace hx403_3 := (HB.out.cell (World.block_lt_of_cell? w _ hx403_3)).trans hx403_3
            replace hx403_4 := (HB.out.cell (World.block_lt_of_cell? w _ hx403_4)).trans hx403_4
            replace hx403_5 := (HB.out.cell (World.block_lt_of_cell? w _ hx403_5)).trans hx403_5
            replace p403 := eq_true p403
            replace q403 := eq_true q403
            have p404 : 0 ≤ ((ji9) : Int) := Ze
            have q404 : (ji9) < (l0.length : Int) := Ze
            obtain ⟨ad404, e404, hx404_0, hx404_1, hx404_2, hx404_3, hx404_4, hx404_5⟩ := at_T84 HR0.out (ji9) p404 q404
            obtain rfl : ad401 = ad404 := (by injection e404)
            replace hx404_0 := (HB.out.cell (World.block_lt_of_cell? w _ hx404_0)).trans hx404_0
            replace hx404_1 := (HB.out.cell (World.block_lt_of_cell? w _ hx404_1)).trans hx404_1
            replace hx404_2 := (HB.out.cell (World.block_lt_of_cell? w _ hx404_2)).trans hx404_2
            replace hx404_3 := (HB.out.cell (World.block_lt_of_cell? w _ hx404_3)).trans hx404_3
            replace hx404_4 := (HB.out.cell (World.block_lt_of_cell? w _ hx404_4)).trans hx404_4
            replace hx404_5 := (HB.out.cell (World.block_lt_of_cell? w _ hx404_5)).trans hx404_5
            replace p404 := eq_true p404
            replace q404 := eq_true q404
            go_wp2
            repeat (go_quiet (fail); try go_wp2)
            go_roundg k1
            case measure => have := HK1.out; omega
            case rel => exact ⟨(wrap64 (x3_1 + 1)), (Zs), H', ⟨by have := HK1.out; omega⟩, ⟨Zb⟩⟩
         ·rw [if_neg c11] at H
          exact absurd H (by simp)
        ·rw [if_neg c10] at H
         exact absurd H (by simp)
       ·rw [if_neg c8] at H
        have c8b0 : decide (0 < x3_1) = false := decide_eq_false c8
        clear c8
        have H' := Aside0.mk H
        clear H
        go_wp2
        repeat (go_quiet (fail); try go_wp2)
        go_roundg k1
        case measure => have := HK1.out; omega
        case rel => exact ⟨(wrap64 (x3_1 + 1)), (Zs), H', ⟨by have := HK1.out; omega⟩, ⟨Zb⟩⟩
      ·rw [if_neg c7] at H
       have c7b0 : (t402 == 0) = false := beq_eq_false_iff_ne.mpr c7
       have c7b1 : (t402 != 0) = true := bne_iff_ne.mpr c7
       (try simp only [c7b0, c7b1])
       obtain rfl := Option.some.inj H
       go_wp2
       repeat (go_quiet (fail); try go_wp2)
       go_ret
       exact ⟨Zq, Zb⟩
     ·rw [if_neg c4] at H
      exact absurd H (by simp)
    ·rw [if_neg c3] at H
     have c3b0 : decide (x3_1 < (l0.length : Int)) = false := decide_eq_false c3
     clear c3
     (try simp only [c3b0])
     obtain rfl := Option.some.inj H
     go_wp2
     repeat (go_quiet (fail); try go_wp2)
     go_ret
     exact ⟨Zq, Zb⟩
def Qay.l0 : Nat → List (S84) → List (S98) → List Int → List (S46) → Int → Option (Int × Int)
 | 0, _, _, _, _, _ => none
 | k + 1, x2, x3, x11, x12, x13 => if x13 < (x12.length : Int) then (if 0 ≤ x13 then ((QaL.f k x2 ((rd_T46 x12 x13).f1)).bind fun bt417 => (if bt417.2.2.2.2.2.2 = true then ((Qa3.f k bt417.1 bt417.2.1 bt417.2.2.1 bt417.2.2.2.1 bt417.2.2.2.2.1 bt417.2.2.2.2.2.1 ((rd_T46 x12 x13).f2) x3).bind fun bt426 => (if bt426.2 = 0 then (if x11.length < 17592186044416 then (Qay.l0 k x2 x3 (x11 ++ [bt426.1]) x12 (wrap64 (x13 + 1))) else (none)) else (some (0, bt426.2)))) else (some (0, 11)))) else (none)) else ((QaO.f k x11).bind fun bt414 => (some (bt414.1, bt414.2)))
def Qay.f (k : Nat) (l0 : List (S46)) (a1_0 : ByteArray) (a1_1 : ByteArray) (l2 : List (S84)) (l3 : List (S98)) : Option (Int × Int) := (Qap.f k l0).bind fun t406 => (if t406 = 0 then ((QaG.f k l2).bind fun t407 => (if t407 = 0 then ((QaI.f k l0 a1_0 a1_1).bind fun t411 => (Qay.l0 k l2 l3 (([] : List Int)) t411 0)) else (some (0, t407)))) else (some (0, t406)))
theorem Qay.mono_l : ∀ k, (∀ y0 y1 y2 y3 y4, LeO (Qay.l0 k y0 y1 y2 y3 y4) (Qay.l0 (k + 1) y0 y1 y2 y3 y4))
 | 0 => fun _ _ _ _ _ r h => by simp [Qay.l0] at h
 | k + 1 => by
  have ih0 := Qay.mono_l k
  ·intro y0 y1 y2 y3 y4
   unfold Qay.l0
   repeat' first
   | (with_reducible exact ih0 _ _ _ _ _)
   | (with_reducible exact QaO.mono _ _)
   | (with_reducible exact QaG.mono _ _)
   | (with_reducible exact QaL.mono _ _ _)
   | (with_reducible exact Qa3.mono _ _ _ _ _ _ _ _ _)
   | (with_reducible exact Qap.mono _ _)
   | (with_reducible exact QaI.mono _ _ _ _)
   | (with_reducible exact LeO.refl _)
   | (with_reducible exact LeO.none _)
   | (with_reducible refine LeO.ite ?_ ?_)
   | (with_reducible refine LeO.bind ?_ (fun _ => ?_))
   | exact ih0 _ _ _ _ _
   | exact QaO.mono _ _
   | exact QaG.mono _ _
   | exact QaL.mono _ _ _
   | exact Qa3.mono _ _ _ _ _ _ _ _ _
   | exact Qap.mono _ _
   | exact QaI.mono _ _ _ _
   | exact LeO.none _
   | refine LeO.ite ?_ ?_
   | refine LeO.bind ?_ (fun _ => ?_)
theorem Qay.mono : ∀ a0 a1 a2 a3 a4 k, LeO (Qay.f k a0 a1 a2 a3 a4) (Qay.f (k + 1) a0 a1 a2 a3 a4) := by
 intro a0 a1 a2 a3 a4 k
 have ih0 := Qay.mono_l k
 unfold Qay.f
 repeat' first
   | (with_reducible exact ih0 _ _ _ _ _)
   | (with_reducible exact QaO.mono _ _)
   | (with_reducible exact QaG.mono _ _)
   | (with_reducible exact QaL.mono _ _ _)
   | (with_reducible exact Qa3.mono _ _ _ _ _ _ _ _ _)
   | (with_reducible exact Qap.mono _ _)
   | (with_reducible exact QaI.mono _ _ _ _)
   | (with_reducible exact LeO.refl _)
   | (with_reducible exact LeO.none _)
   | (with_reducible refine LeO.ite ?_ ?_)
   | (with_reducible refine LeO.bind ?_ (fun _ => ?_))
   | exact ih0 _ _ _ _ _
   | exact QaO.mono _ _
   | exact QaG.mono _ _
   | exact QaL.mono _ _ _
   | exact Qa3.mono _ _ _ _ _ _ _ _ _
   | exact Qap.mono _ _
   | exact QaI.mono _ _ _ _
   | exact LeO.none _
   | refine LeO.ite ?_ ?_
   | refine LeO.bind ?_ (fun _ => ?_)
def Qay.T15 : Bool × List (List Nat × List Nat) := (true, [([], []), ([], []), ([], []), ([1, 2], [1, 2]), ([3], [3]), ([4], [4]), ([], []), ([0, 5, 6], [0, 5, 6]), ([7], [7]), ([8], [8]), ([8], [8]), ([9, 7, 0, 1, 2, 3, 4, 5, 6, 7, 8, 9], [9]), ([10, 11, 0, 1, 2, 3, 4, 5, 6, 7, 8, 9, 10, 11], [10])])
def Qay.B15 : List Nat := [0, 0, 0, 6, 14, 30, 0, 127, 255, 511, 511, 1023, 4095]
theorem Qay.tab15 : rtab .any (opsOf Try.f37 15) = Qay.T15 := by kernel_rfl
theorem Qay.bits15 : Qb6 Qay.T15.2 Qay.B15 = true := by kernel_rfl
set_option maxHeartbeats 8000000 in
set_option maxRecDepth 100000 in
theorem Qay.calls (k : Nat) (A0 : Option Addr) (c0 : Nat) (l0 : List (S46)) (a1_0 : ByteArray) (a1_1 : ByteArray) (A2 : Option Addr) (c2 : Nat) (l2 : List (S84)) (A3 : Option Addr) (c3 : Nat) (l3 : List (S98)) (r1 : Int) (r2 : Int) (w : World) (hr0 : Kd.C k46 w A0 l0.length l0) (hc0 : l0.length ≤ c0) (hr2 : Kd.C k84 w A2 l2.length l2) (hc2 : l2.length ≤ c2) (hr3 : Kd.C k98 w A3 l3.length l3) (hc3 : l3.length ≤ c3) (h : Qay.f k l0 a1_0 a1_1 l2 l3 = some (r1, r2)) :
  Calls Try.prog 37 #[.slice A0 l0.length c0, .agg #[.string a1_0, .string a1_1], .slice A2 l2.length c2, .slice A3 l3.length c3] w fun e w' => e = .returned (.tuple #[.int .i64 r1, .int .i64 r2]) ∧ Below w.heap.size w w' := by
 have hu44 := Try.underlying44
 have hu84 := Try.underlying84
 have HR0 := Aside0.mk hr0
 have HC0 := Aside0.mk hc0
 clear hr0 hc0
 have HR2 := Aside0.mk hr2
 have HC2 := Aside0.mk hc2
 clear hr2 hc2
 have HR3 := Aside0.mk hr3
 have HC3 := Aside0.mk hc3
 clear hr3 hc3
 have HB := Aside0.mk (Below.refl w.heap.size w)
 have H : ((Qap.f k l0).bind fun t406 => (if t406 = 0 then ((QaG.f k l2).bind fun t407 => (if t407 = 0 then ((QaI.f k l0 a1_0 a1_1).bind fun t411 => (Qay.l0 k l2 l3 (([] : List Int)) t411 0)) else (some (0, t407)))) else (some (0, t406)))) = some (r1, r2) := h
 clear h
 replace H := Option.bind_eq_some_iff.mp H
 obtain ⟨t406, A50, H⟩ := H
 replace H : (if t406 = 0 then ((QaG.f k l2).bind fun t407 => (if t407 = 0 then ((QaI.f k l0 a1_0 a1_1).bind fun t411 => (Qay.l0 k l2 l3 (([] : List Int)) t411 0)) else (some (0, t407)))) else (some (0, t406))) = some (r1, r2) := H
 have A5 := Aside0.mk A50
 clear A50
 go_enter Try.func37, Try.ntmps37
 go_upto_if 21 with (first | ((with_reducible refine QaW (N := 5) rfl ?_); refine Qa2 ?hg (N := 5) ?hd (cs := #[.string a1_0, .string a1_1]) (t := 44) ?hr ?_; (case hd => rfl); (case hg => rfl); (case hr => first | (go_simp; done) | (go_simp; rfl)); intro gb405 hg w6 hbox hb; have n0_ := Aside0.mk (Qao (Zb) hb); have n1_ := Aside0.mk (hbox); have n2_ := Aside0.mk ((by rw [hg]; exact (Qam (Zb)) : w.heap.size ≤ gb405)); have n3_ := Aside0.mk ((by rw [hg]; exact (Qam (Zb)) : w.heap.size ≤ gb405)); clear HB; have HB := n0_; have BK405 := n1_; have GW405 := n2_; have GE405 := n3_; clear n0_ n1_ n2_ n3_; clear hb hbox hg) | ((with_reducible refine Qaw (f := 66) rfl ?_); refine goesL_ (some 19) rfl rfl Try.func66 (by kernel_rfl) rfl #[.slice A0 l0.length c0] rfl (Zl) ?_; (with_reducible refine (Qap.calls k _ _ l0 t406 _ ?side1 ?side2 A5.out).mono ?_); (case side1 => exact Zv (Kd.C_below HR0.out HB.out)); (case side2 => exact HC0.out); rintro e w7 ⟨rfl, hb⟩; refine ⟨_, rfl, ?_⟩; have n0_ := Aside0.mk (Qan (g := gb405) (o := .cells #[.string a1_0, .string a1_1] 44 (0, 0)) (Zu BK405.out) hb); have n1_ := Aside0.mk (Qao (Zc1 GE405.out) hb); clear BK405; clear HB; have BK405 := n0_; have HB := n1_; clear n0_ n1_; (try clear hb); (try clear hb2); (try clear hk); (try clear hi)))
 (try simp only [Act.put, List.setIfInBounds_toArray, List.set_cons_zero, List.set_cons_succ])
 by_cases c8 : t406 = 0
 ·rw [if_pos c8] at H
  have c8b0 : (t406 == 0) = true := beq_iff_eq.mpr c8
  have c8b1 : (t406 != 0) = false := bne_eq_false_iff_eq.mpr c8
  clear c8
  (try simp only [c8b0, c8b1])
  replace H := Option.bind_eq_some_iff.mp H
  obtain ⟨t407, A90, H⟩ := H
  replace H : (if t407 = 0 then ((QaI.f k l0 a1_0 a1_1).bind fun t411 => (Qay.l0 k l2 l3 (([] : List Int)) t411 0)) else (some (0, t407))) = some (r1, r2) := H
  have A9 := Aside0.mk A90
  clear A90
  go_upto_if 26 with (first | ((with_reducible refine Qaw (f := 67) rfl ?_); refine goesL_ (some 24) rfl rfl Try.func67 (by kernel_rfl) rfl #[.slice A2 l2.length c2] rfl (Zl) ?_; (with_reducible refine (QaG.calls k _ _ l2 t407 _ ?side1 ?side2 A9.out).mono ?_); (case side1 => exact Zv (Kd.C_below HR2.out HB.out)); (case side2 => exact HC2.out); rintro e w10 ⟨rfl, hb⟩; refine ⟨_, rfl, ?_⟩; have n0_ := Aside0.mk (Qan (g := gb405) (o := .cells #[.string a1_0, .string a1_1] 44 (0, 0)) (Zu BK405.out) hb); have n1_ := Aside0.mk (Qao (Zc1 GE405.out) hb); clear BK405; clear HB; have BK405 := n0_; have HB := n1_; clear n0_ n1_; (try clear hb); (try clear hb2); (try clear hk); (try clear hi)))
  (try simp only [Act.put, List.setIfInBounds_toArray, List.set_cons_zero, List.set_cons_succ])
  by_cases c11 : t407 = 0
  ·rw [if_pos c11] at H
   have c11b0 : (t407 == 0) = true := beq_iff_eq.mpr c11
   have c11b1 : (t407 != 0) = false := bne_eq_false_iff_eq.mpr c11
   clear c11
   (try simp only [c11b0, c11b1])
   obtain ⟨y408, hy408⟩ : ∃ y_ : List Int, y_ = (([] : List Int)) := ⟨_, rfl⟩
   replace H : ((QaI.f k l0 a1_0 a1_1).bind fun t411 => (Qay.l0 k l2 l3 y408 t411 0)) = some (r1, r2) := by first | (rw [hy408]; with_reducible exact H) | (have H2_ := (Option.bind_some _ _).symm.trans H; rw [hy408]; with_reducible exact H2_) | (have H2_ := (Option.bind_some _ _).symm.trans H; with_reducible exact H2_) | with_reducible exact H | (rw [hy408]; exact H) | exact H
   have Ny408 := Aside0.mk hy408
   clear hy408
   replace H := Option.bind_eq_some_iff.mp H
   obtain ⟨t411, A120, H⟩ := H
   replace H : (Qay.l0 k l2 l3 y408 t411 0) = some (r1, r2) := H
   have A12 := Aside0.mk A120
   clear A120
   have H' := Aside0.mk H
   clear H
   go_wp2_with (first | ((with_reducible refine QaW (N := 28) rfl ?_); refine Kd.R_lit (Kd.int .i64) _ 3 ?hg (N := 28) ?hd (xs := ([] : List Int)) (inner := []) (ok := fun _ => True) (okp := fun _ => True) ?hr ?hp (fun _ hk => hk) trivial (Below.refl _ _) (Nat.le_refl _) (by simp) ?_; (case hd => rfl); (case hg => rfl); (case hr => first | (go_simp; done) | (go_simp; rfl)); (case hp => exact (Reps.none _ _)); intro v409 w13 ho14 hb hg_ hnew_; clear hg_ hnew_; (first | rw [← Ny408.out] at ho14 | (simp only [Int.reduceToNat] at ho14; rw [← Ny408.out] at ho14)); have n0_ := Aside0.mk (Kd.R_lower ho14 (Qam (Zc1 GE405.out))); have n1_ := Aside0.mk (Qan (g := gb405) (o := .cells #[.string a1_0, .string a1_1] 44 (0, 0)) (Zu BK405.out) hb); have n2_ := Aside0.mk (Qao (Zc1 GE405.out) hb); clear BK405; clear HB; have HO410 := n0_; have BK405 := n1_; have HB := n2_; clear n0_ n1_ n2_; clear hb ho14; have hcz15_0 : w13.cell? ⟨gb405, 0, none⟩ = some (.string a1_0) := (Qai BK405.out 0).trans rfl; have hcz15_1 : w13.cell? ⟨gb405, 1, none⟩ = some (.string a1_1) := (Qai BK405.out 1).trans rfl; have hfz15_0 := Qah BK405.out 0; have hfz15_1 := Qah BK405.out 1) | ((with_reducible refine Qaw (f := 40) rfl ?_); refine goesL_ (some 31) rfl rfl Try.func40 (by kernel_rfl) rfl #[.slice A0 l0.length c0, .agg #[.string a1_0, .string a1_1]] rfl (Zl) ?_; (with_reducible refine (QaI.calls k _ _ l0 a1_0 a1_1 t411 _ ?side1 ?side2 A12.out).mono ?_); (case side1 => exact Zv (Kd.C_below HR0.out HB.out)); (case side2 => exact HC0.out); rintro e w16 ⟨v412, rfl, ho0, hb⟩; refine ⟨_, rfl, ?_⟩; have n0_ := Aside0.mk (Kd.R_below (Zr HO410.out) hb); have n1_ := Aside0.mk (Kd.R_lower ho0 (Qam (Zc1 GE405.out))); have n2_ := Aside0.mk (Qan (g := gb405) (o := .cells #[.string a1_0, .string a1_1] 44 (0, 0)) (Zu BK405.out) hb); have n3_ := Aside0.mk (Qao (Zc1 GE405.out) hb); clear HO410; clear BK405; clear HB; have HO410 := n0_; have HO413 := n1_; have BK405 := n2_; have HB := n3_; clear n0_ n1_ n2_ n3_; (try clear hb); (try clear hb2); (try clear hk); (try clear hi); (try clear ho0)))
   go_loopg [11, 13] k (fun kq v11 v13 w' => ∃ (x11_1 : List Int) (x13_1 : Int), v13 = .int .i64 x13_1 ∧ Aside0 (Qay.l0 kq l2 l3 x11_1 t411 x13_1 = some (r1, r2)) ∧ Aside0 (kq ≤ k) ∧ Aside0 (Kd.R (Kd.int .i64) 3 w' w.heap.size (fun _ => True) v11 x11_1) ∧ Aside0 (Kd.R k46 46 w' w.heap.size (fun _ => True) v412 t411) ∧ Aside0 (w'.heap[gb405]? = some (.cells #[.string a1_0, .string a1_1] 44 (0, 0))) ∧ Aside0 (Below w.heap.size w w'))
   case atStart => exact ⟨(y408), (0), (Zs), H', ⟨Nat.le_refl _⟩, ⟨Zr HO410.out⟩, ⟨Zr HO413.out⟩, ⟨Zu BK405.out⟩, ⟨Zc1 GE405.out⟩⟩
   case round =>
    clear H'
    try clear c1
    try clear c2
    try clear p2
    try clear c3
    try clear c4
    try clear c6
    try clear c8
    try clear c8b0
    try clear c8b1
    try clear c11
    try clear c11b0
    try clear c11b1
    try clear hcz15_0
    try clear hcz15_1
    try clear hfz15_0
    try clear hfz15_1
    obtain ⟨x11_1, x13_1, rfl, HA, HK1, HO_11, HO_12, BK405, HB⟩ := hrel
    cases gk with
    | zero => exact absurd HA.out (by simp [Qay.l0])
    | succ k1 =>
     have H := HA.out
     clear HA
     simp only [Qay.l0] at H
     obtain ⟨Ao17, co17, eo17⟩ := Kd.R_slice HO_12.out
     subst eo17
     go_upto_if 35 with (fail)
     by_cases c18 : x13_1 < (t411.length : Int)
     ·rw [if_pos c18] at H
      have c18b0 : decide (x13_1 < (t411.length : Int)) = true := decide_eq_true c18
      clear c18
      (try simp only [c18b0])
      by_cases c19 : 0 ≤ x13_1
      ·rw [if_pos c19] at H
       have c19b0 : decide (0 ≤ x13_1) = true := decide_eq_true c19
       clear c19
       replace H := Option.bind_eq_some_iff.mp H
       obtain ⟨⟨t417, t418, t419, t420, t421, t422, t423⟩, A200, H⟩ := H
       replace H : (if t423 = true then ((Qa3.f k1 t417 t418 t419 t420 t421 t422 ((rd_T46 t411 x13_1).f2) l3).bind fun bt426 => (if bt426.2 = 0 then (if x11_1.length < 17592186044416 then (Qay.l0 k1 l2 l3 (x11_1 ++ [bt426.1]) t411 (wrap64 (x13_1 + 1))) else (none)) else (some (0, bt426.2)))) else (some (0, 11))) = some (r1, r2) := H
       have A20 := Aside0.mk A200
       clear A200
       have p416 : 0 ≤ (x13_1 : Int) := Ze
       have q416 : x13_1 < (t411.length : Int) := Ze
       obtain ⟨ad416, e416, hx416_0, hx416_1, hx416_2, hx416_3⟩ := at_T46 (Kd.R_reads' HO_12.out).2.2 x13_1 p416 q416
       cases e416
       replace p416 := eq_true p416
       replace q416 := eq_true q416
       go_upto_if 49 with (first | ((with_reducible refine Qaw (f := 41) rfl ?_); refine goesL_ (some 45) rfl rfl Try.func41 (by kernel_rfl) rfl #[.slice A2 l2.length c2, .string ((rd_T46 t411 x13_1).f1)] rfl (Zl) ?_; (with_reducible refine (QaL.calls k1 _ _ l2 ((rd_T46 t411 x13_1).f1) t417 t418 t419 t420 t421 t422 t423 _ ?side1 ?side2 A20.out).mono ?_); (case side1 => exact Zv (Kd.C_below HR2.out HB.out)); (case side2 => exact HC2.out); rintro e w21 ⟨rfl, hb⟩; refine ⟨_, rfl, ?_⟩; have n0_ := Aside0.mk (Kd.R_below (Zr HO_11.out) hb); have n1_ := Aside0.mk (Kd.R_below (Zr HO_12.out) hb); have n2_ := Aside0.mk (Qan (g := gb405) (o := .cells #[.string a1_0, .string a1_1] 44 (0, 0)) (Zu BK405.out) hb); have n3_ := Aside0.mk (Qao (Zc1 GE405.out) hb); clear HO_11; clear HO_12; clear BK405; clear HB; have HO_11 := n0_; have HO_12 := n1_; have BK405 := n2_; have HB := n3_; clear n0_ n1_ n2_ n3_; (try clear hb); (try clear hb2); (try clear hk); (try clear hi)) | ((with_reducible refine QaW (N := 14) rfl ?_); refine Qa2 ?hg (N := 14) ?hd (cs := #[.string (⟨#[]⟩ : ByteArray), .int .i64 0, .int .i64 0, .int .i64 0, .int .i64 0, .int .i64 0]) (t := 84) ?hr ?_; (case hd => rfl); (case hg => rfl); (case hr => first | (go_simp; done) | (go_simp; rfl)); intro gb424 hg w22 hbox hb; have n0_ := Aside0.mk (Kd.R_below (Zr HO_11.out) hb); have n1_ := Aside0.mk (Kd.R_below (Zr HO_12.out) hb); have n2_ := Aside0.mk (Qan (g := gb405) (o := .cells #[.string a1_0, .string a1_1] 44 (0, 0)) (Zu BK405.out) hb); have n3_ := Aside0.mk (Qao (Zc1 GE405.out) hb); have n4_ := Aside0.mk (hbox); have n5_ := Aside0.mk ((by rw [hg]; exact (Qam (Zc1 GE405.out)) : w.heap.size ≤ gb424)); have n6_ := Aside0.mk ((by rw [hg]; exact (Qam (Zc1 GE405.out)) : w.heap.size ≤ gb424)); have n7_ := Aside0.mk ((by rw [hg]; exact Nat.ne_of_lt (blk_lt (g := gb405) (o := .cells #[.string a1_0, .string a1_1] 44 (0, 0)) (Zu BK405.out)) : gb405 ≠ gb424)); have n8_ := Aside0.mk ((by rw [hg]; exact Nat.ne_of_gt (blk_lt (g := gb405) (o := .cells #[.string a1_0, .string a1_1] 44 (0, 0)) (Zu BK405.out)) : gb424 ≠ gb405)); clear HO_11; clear HO_12; clear BK405; clear HB; have HO_11 := n0_; have HO_12 := n1_; have BK405 := n2_; have HB := n3_; have BK424 := n4_; have GW424 := n5_; have GE424 := n6_; have NB405_424 := n7_; have NB424_405 := n8_; clear n0_ n1_ n2_ n3_ n4_ n5_ n6_ n7_ n8_; clear hb hbox hg; have hnb23 := NB424_405.out; have hnc23 := NB405_424.out; have hcz24_0 : w22.cell? ⟨gb424, 0, none⟩ = some (.string (⟨#[]⟩ : ByteArray)) := (Qai BK424.out 0).trans rfl; have hcz24_1 : w22.cell? ⟨gb424, 1, none⟩ = some (.int .i64 0) := (Qai BK424.out 1).trans rfl; have hcz24_2 : w22.cell? ⟨gb424, 2, none⟩ = some (.int .i64 0) := (Qai BK424.out 2).trans rfl; have hcz24_3 : w22.cell? ⟨gb424, 3, none⟩ = some (.int .i64 0) := (Qai BK424.out 3).trans rfl; have hcz24_4 : w22.cell? ⟨gb424, 4, none⟩ = some (.int .i64 0) := (Qai BK424.out 4).trans rfl; have hcz24_5 : w22.cell? ⟨gb424, 5, none⟩ = some (.int .i64 0) := (Qai BK424.out 5).trans rfl; have hfz24_0 := Qah BK424.out 0; have hfz24_1 := Qah BK424.out 1; have hfz24_2 := Qah BK424.out 2; have hfz24_3 := Qah BK424.out 3; have hfz24_4 := Qah BK424.out 4; have hfz24_5 := Qah BK424.out 5))
       (try simp only [Act.put, List.setIfInBounds_toArray, List.set_cons_zero, List.set_cons_succ])
       by_cases c25 : t423 = true
       ·subst c25
        have H1 : ((Qa3.f k1 t417 t418 t419 t420 t421 t422 ((rd_T46 t411 x13_1).f2) l3).bind fun bt426 => (if bt426.2 = 0 then (if x11_1.length < 17592186044416 then (Qay.l0 k1 l2 l3 (x11_1 ++ [bt426.1]) t411 (wrap64 (x13_1 + 1))) else (none)) else (some (0, bt426.2)))) = some (r1, r2) := by rw [if_pos rfl] at H; exact H
        clear H
        have H := H1
        clear H1
        replace H := Option.bind_eq_some_iff.mp H
        obtain ⟨⟨t426, t427⟩, A260, H⟩ := H
        replace H : (if t427 = 0 then (if x11_1.length < 17592186044416 then (Qay.l0 k1 l2 l3 (x11_1 ++ [t426]) t411 (wrap64 (x13_1 + 1))) else (none)) else (some (0, t427))) = some (r1, r2) := H
        have A26 := Aside0.mk A260
        clear A260
        try go_wp2
        have n0_ : Aside0 (Kd.R (Kd.int .i64) 3 ((((((w22.setCell ⟨gb424, 0, none⟩ (.string t417)).setCell ⟨gb424, 1, none⟩ (.int .i64 t418)).setCell ⟨gb424, 2, none⟩ (.int .i64 t419)).setCell ⟨gb424, 3, none⟩ (.int .i64 t420)).setCell ⟨gb424, 4, none⟩ (.int .i64 t421)).setCell ⟨gb424, 5, none⟩ (.int .i64 t422)) w.heap.size (fun _ => True) u11 x11_1) := ⟨by (with_reducible repeat (first | apply Kd.R_alloc | apply Kd.R_drewN | apply Kd.R_drew)); exact Kd.R_mono (Kd.R_far (p := ⟨gb424, 5, none⟩) (Kd.R_far (p := ⟨gb424, 4, none⟩) (Kd.R_far (p := ⟨gb424, 3, none⟩) (Kd.R_far (p := ⟨gb424, 2, none⟩) (Kd.R_far (p := ⟨gb424, 1, none⟩) (Kd.R_far (p := ⟨gb424, 0, none⟩) (Kd.R_types HO_11.out BK424.out (by decide)) (fun _ hk => hk.2) (.string t417)) (fun _ hk => hk.2) (.int .i64 t418)) (fun _ hk => hk.2) (.int .i64 t419)) (fun _ hk => hk.2) (.int .i64 t420)) (fun _ hk => hk.2) (.int .i64 t421)) (fun _ hk => hk.2) (.int .i64 t422)) (fun _ hk => trivial)⟩
        have n1_ : Aside0 (Kd.R k46 46 ((((((w22.setCell ⟨gb424, 0, none⟩ (.string t417)).setCell ⟨gb424, 1, none⟩ (.int .i64 t418)).setCell ⟨gb424, 2, none⟩ (.int .i64 t419)).setCell ⟨gb424, 3, none⟩ (.int .i64 t420)).setCell ⟨gb424, 4, none⟩ (.int .i64 t421)).setCell ⟨gb424, 5, none⟩ (.int .i64 t422)) w.heap.size (fun _ => True) (.slice (some ad416) t411.length co17) t411) := ⟨by (with_reducible repeat (first | apply Kd.R_alloc | apply Kd.R_drewN | apply Kd.R_drew)); exact Kd.R_mono (Kd.R_far (p := ⟨gb424, 5, none⟩) (Kd.R_far (p := ⟨gb424, 4, none⟩) (Kd.R_far (p := ⟨gb424, 3, none⟩) (Kd.R_far (p := ⟨gb424, 2, none⟩) (Kd.R_far (p := ⟨gb424, 1, none⟩) (Kd.R_far (p := ⟨gb424, 0, none⟩) (Kd.R_types HO_12.out BK424.out (by decide)) (fun _ hk => hk.2) (.string t417)) (fun _ hk => hk.2) (.int .i64 t418)) (fun _ hk => hk.2) (.int .i64 t419)) (fun _ hk => hk.2) (.int .i64 t420)) (fun _ hk => hk.2) (.int .i64 t421)) (fun _ hk => hk.2) (.int .i64 t422)) (fun _ hk => trivial)⟩
        have n2_ : Aside0 (((((((w22.setCell ⟨gb424, 0, none⟩ (.string t417)).setCell ⟨gb424, 1, none⟩ (.int .i64 t418)).setCell ⟨gb424, 2, none⟩ (.int .i64 t419)).setCell ⟨gb424, 3, none⟩ (.int .i64 t420)).setCell ⟨gb424, 4, none⟩ (.int .i64 t421)).setCell ⟨gb424, 5, none⟩ (.int .i64 t422)).heap[gb405]? = some (.cells #[.string a1_0, .string a1_1] 44 (0, 0))) := ⟨by (with_reducible repeat (first | refine Qac ?_ _ | refine Qag ?_ | refine Qab ?_ _)); refine Qau ?_ NB405_424.out _; (with_reducible repeat (first | refine Qac ?_ _ | refine Qag ?_ | refine Qab ?_ _)); refine Qau ?_ NB405_424.out _; (with_reducible repeat (first | refine Qac ?_ _ | refine Qag ?_ | refine Qab ?_ _)); refine Qau ?_ NB405_424.out _; (with_reducible repeat (first | refine Qac ?_ _ | refine Qag ?_ | refine Qab ?_ _)); refine Qau ?_ NB405_424.out _; (with_reducible repeat (first | refine Qac ?_ _ | refine Qag ?_ | refine Qab ?_ _)); refine Qau ?_ NB405_424.out _; (with_reducible repeat (first | refine Qac ?_ _ | refine Qag ?_ | refine Qab ?_ _)); refine Qau ?_ NB405_424.out _; (with_reducible repeat (first | refine Qac ?_ _ | refine Qag ?_ | refine Qab ?_ _)); exact BK405.out⟩
        have n3_ : Aside0 (((((((w22.setCell ⟨gb424, 0, none⟩ (.string t417)).setCell ⟨gb424, 1, none⟩ (.int .i64 t418)).setCell ⟨gb424, 2, none⟩ (.int .i64 t419)).setCell ⟨gb424, 3, none⟩ (.int .i64 t420)).setCell ⟨gb424, 4, none⟩ (.int .i64 t421)).setCell ⟨gb424, 5, none⟩ (.int .i64 t422)).heap[gb424]? = some (.cells #[.string t417, .int .i64 t418, .int .i64 t419, .int .i64 t420, .int .i64 t421, .int .i64 t422] 84 (0, 0))) := ⟨by (with_reducible repeat (first | refine Qac ?_ _ | refine Qag ?_ | refine Qab ?_ _)); refine Qax (cs := #[.string t417, .int .i64 t418, .int .i64 t419, .int .i64 t420, .int .i64 t421, .int .i64 0]) ?_ 5 _ rfl; (with_reducible repeat (first | refine Qac ?_ _ | refine Qag ?_ | refine Qab ?_ _)); refine Qax (cs := #[.string t417, .int .i64 t418, .int .i64 t419, .int .i64 t420, .int .i64 0, .int .i64 0]) ?_ 4 _ rfl; (with_reducible repeat (first | refine Qac ?_ _ | refine Qag ?_ | refine Qab ?_ _)); refine Qax (cs := #[.string t417, .int .i64 t418, .int .i64 t419, .int .i64 0, .int .i64 0, .int .i64 0]) ?_ 3 _ rfl; (with_reducible repeat (first | refine Qac ?_ _ | refine Qag ?_ | refine Qab ?_ _)); refine Qax (cs := #[.string t417, .int .i64 t418, .int .i64 0, .int .i64 0, .int .i64 0, .int .i64 0]) ?_ 2 _ rfl; (with_reducible repeat (first | refine Qac ?_ _ | refine Qag ?_ | refine Qab ?_ _)); refine Qax (cs := #[.string t417, .int .i64 0, .int .i64 0, .int .i64 0, .int .i64 0, .int .i64 0]) ?_ 1 _ rfl; (with_reducible repeat (first | refine Qac ?_ _ | refine Qag ?_ | refine Qab ?_ _)); refine Qax (cs := #[.string (⟨#[]⟩ : ByteArray), .int .i64 0, .int .i64 0, .int .i64 0, .int .i64 0, .int .i64 0]) ?_ 0 _ rfl; (with_reducible repeat (first | refine Qac ?_ _ | refine Qag ?_ | refine Qab ?_ _)); exact BK424.out⟩
        have n4_ : Aside0 (Below w.heap.size w ((((((w22.setCell ⟨gb424, 0, none⟩ (.string t417)).setCell ⟨gb424, 1, none⟩ (.int .i64 t418)).setCell ⟨gb424, 2, none⟩ (.int .i64 t419)).setCell ⟨gb424, 3, none⟩ (.int .i64 t420)).setCell ⟨gb424, 4, none⟩ (.int .i64 t421)).setCell ⟨gb424, 5, none⟩ (.int .i64 t422))) := ⟨Zc2 GE405.out GE424.out⟩
        (try clear HO_11)
        (try clear HO_12)
        (try clear BK405)
        (try clear BK424)
        (try clear HB)
        generalize ((((((w22.setCell ⟨gb424, 0, none⟩ (.string t417)).setCell ⟨gb424, 1, none⟩ (.int .i64 t418)).setCell ⟨gb424, 2, none⟩ (.int .i64 t419)).setCell ⟨gb424, 3, none⟩ (.int .i64 t420)).setCell ⟨gb424, 4, none⟩ (.int .i64 t421)).setCell ⟨gb424, 5, none⟩ (.int .i64 t422)) = w27 at n0_ n1_ n2_ n3_ n4_ ⊢
        have HO_11 := n0_
        have HO_12 := n1_
        have BK405 := n2_
        have BK424 := n3_
        have HB := n4_
        clear n0_ n1_ n2_ n3_ n4_
        have n0_ := Aside0.mk (Kd.R_drew HO_11.out)
        have n1_ := Aside0.mk (Kd.R_drew HO_12.out)
        have n2_ := Aside0.mk (Qag BK405.out)
        have n3_ := Aside0.mk (Qag BK424.out)
        have n4_ := Aside0.mk (Qae HB.out)
        clear HO_11
        clear HO_12
        clear BK405
        clear BK424
        clear HB
        have HO_11 := n0_
        have HO_12 := n1_
        have BK405 := n2_
        have BK424 := n3_
        have HB := n4_
        clear n0_ n1_ n2_ n3_ n4_
        have p425 : 0 ≤ (x13_1 : Int) := Ze
        have q425 : x13_1 < (t411.length : Int) := Ze
        obtain ⟨ad425, e425, hx425_0, hx425_1, hx425_2, hx425_3⟩ := at_T46 (Kd.R_reads' HO_12.out).2.2 x13_1 p425 q425
        obtain rfl : ad416 = ad425 := (by injection e425)
        replace p425 := eq_true p425
        replace q425 := eq_true q425
        refine start_ (n := 13) (S := fun w' => w'.cell? ⟨gb424, 0, none⟩ = some (.string t417) ∧ w'.cell? ⟨gb424, 1, none⟩ = some (.int .i64 t418) ∧ w'.cell? ⟨gb424, 2, none⟩ = some (.int .i64 t419) ∧ w'.cell? ⟨gb424, 3, none⟩ = some (.int .i64 t420) ∧ w'.cell? ⟨gb424, 4, none⟩ = some (.int .i64 t421) ∧ w'.cell? ⟨gb424, 5, none⟩ = some (.int .i64 t422) ∧ w'.cell? (ad416.add ((x13_1).toNat * 4)) = some (.string ((rd_T46 t411 x13_1).f0.f0)) ∧ w'.cell? ⟨(ad416.add ((x13_1).toNat * 4)).block, (ad416.add ((x13_1).toNat * 4)).off + 1, none⟩ = some (.string ((rd_T46 t411 x13_1).f0.f1)) ∧ w'.cell? ⟨(ad416.add ((x13_1).toNat * 4)).block, (ad416.add ((x13_1).toNat * 4)).off + 2, none⟩ = some (.string ((rd_T46 t411 x13_1).f1)) ∧ w'.cell? ⟨(ad416.add ((x13_1).toNat * 4)).block, (ad416.add ((x13_1).toNat * 4)).off + 3, none⟩ = some (.int .i64 ((rd_T46 t411 x13_1).f2))) (ds := []) #[false, false, false, false, false, false, false, false, false, false, false, false, false] (by kernel_rfl) rfl rfl ⟨(Qai BK424.out 0).trans rfl, (Qai BK424.out 1).trans rfl, (Qai BK424.out 2).trans rfl, (Qai BK424.out 3).trans rfl, (Qai BK424.out 4).trans rfl, (Qai BK424.out 5).trans rfl, hx425_0, hx425_1, hx425_2, hx425_3⟩ (fun hHeld => ?_); refine Qb3 Qay.tab15 Qay.bits15 (fun HT_ HW_ => ?_)
        generalize w27.drew = w28 at HO_11 HO_12 BK405 BK424 HB hx425_0 hx425_1 hx425_2 hx425_3 hHeld ⊢
        refine pure_ (i := 1) (N := some 52) (v := ?_) (a' := ?_) #[false, true, false, false, false, false, false, false, false, false, false, false, false] rfl rfl (any_of HT_.out (by kernel_rfl)) (fun _ _ _ h => h) (Or.inl ⟨by rfl, ?_⟩) ?_ ?_
        rotate_left
        ·intro w'
         go_simp
         with_reducible rfl
        rotate_left
        ·simp only [Act.put, List.setIfInBounds_toArray, List.set_cons_zero, List.set_cons_succ, i64_w, i32_w]
         rfl
        refine pure_ (i := 2) (N := some 53) (v := ?_) (a' := ?_) #[false, true, true, false, false, false, false, false, false, false, false, false, false] rfl rfl (any_of HT_.out (by kernel_rfl)) (fun _ _ _ h => h) (Or.inl ⟨by rfl, ?_⟩) ?_ ?_
        rotate_left
        ·intro w'
         go_simp
         with_reducible rfl
        rotate_left
        ·simp only [Act.put, List.setIfInBounds_toArray, List.set_cons_zero, List.set_cons_succ, i64_w, i32_w]
         rfl
        refine pure_ (i := 3) (N := some 54) (v := ?_) (a' := ?_) #[false, true, true, true, false, false, false, false, false, false, false, false, false] rfl rfl (any_of HT_.out (by kernel_rfl)) (fun _ _ _ h => h) (Or.inl ⟨by rfl, ?_⟩) ?_ ?_
        rotate_left
        ·intro w'
         go_simp
         with_reducible rfl
        rotate_left
        ·simp only [Act.put, List.setIfInBounds_toArray, List.set_cons_zero, List.set_cons_succ, i64_w, i32_w]
         rfl
        refine pure_ (i := 4) (N := some 55) (v := ?_) (a' := ?_) #[false, true, true, true, true, false, false, false, false, false, false, false, false] rfl rfl (any_of HT_.out (by kernel_rfl)) (fun _ _ _ h => h) (Or.inl ⟨by rfl, ?_⟩) ?_ ?_
        rotate_left
        ·intro w'
         go_simp
         with_reducible rfl
        rotate_left
        ·simp only [Act.put, List.setIfInBounds_toArray, List.set_cons_zero, List.set_cons_succ, i64_w, i32_w]
         rfl
        refine pure_ (i := 6) (N := some 57) (v := ?_) (a' := ?_) #[false, true, true, true, true, false, true, false, false, false, false, false, false] rfl rfl (any_of HT_.out (by kernel_rfl)) (fun _ _ _ h => h) (Or.inl ⟨by rfl, ?_⟩) ?_ ?_
        rotate_left
        ·intro w'
         go_simp
         with_reducible rfl
        rotate_left
        ·simp only [Act.put, List.setIfInBounds_toArray, List.set_cons_zero, List.set_cons_succ, i64_w, i32_w]
         rfl
        refine take_ (i := 0) (N := some 51) (v := ?_) (a' := ?_) #[true, true, true, true, true, false, true, false, false, false, false, false, false] rfl rfl (QbT HT_.out HW_.out (by kernel_rfl)) (fun _ _ _ h => h) (Or.inl ⟨by rfl, ?_⟩) hHeld ?_ ?_
        rotate_left
        ·rintro w' ⟨s0, s1, s2, s3, s4, s5, s6, s7, s8, s9⟩
         go_simp
         with_reducible rfl
        rotate_left
        ·simp only [Act.put, List.setIfInBounds_toArray, List.set_cons_zero, List.set_cons_succ, i64_w, i32_w]
         rfl
        refine take_ (i := 5) (N := some 56) (v := ?_) (a' := ?_) #[true, true, true, true, true, true, true, false, false, false, false, false, false] rfl rfl (QbT HT_.out HW_.out (by kernel_rfl)) (fun _ _ _ h => h) (Or.inl ⟨by rfl, ?_⟩) hHeld ?_ ?_
        rotate_left
        ·rintro w' ⟨s0, s1, s2, s3, s4, s5, s6, s7, s8, s9⟩
         go_simp
         with_reducible rfl
        rotate_left
        ·simp only [Act.put, List.setIfInBounds_toArray, List.set_cons_zero, List.set_cons_succ, i64_w, i32_w]
         rfl
        refine one_ (i := 7) (N := some 58) #[true, true, true, true, true, true, true, true, false, false, false, false, false] rfl rfl (one_of HT_.out (by kernel_rfl)) (by decide) (fun K hK => ?_)
        refine goes_ Try.func42 (by kernel_rfl) rfl #[.agg #[.string t417, .int .i64 t418, .int .i64 t419, .int .i64 t420, .int .i64 t421, .int .i64 t422], .int .i64 ((rd_T46 t411 x13_1).f2), .slice A3 l3.length c3] (by rfl) rfl rfl (Zl) ?_
        with_reducible refine (Qa3.calls k1 t417 t418 t419 t420 t421 t422 ((rd_T46 t411 x13_1).f2) _ _ l3 t426 t427 _ ?side1 ?side2 A26.out).mono ?_
        (case side1 => exact Zv (Kd.C_below HR3.out HB.out))
        (case side2 => exact HC3.out)
        rintro e w29 ⟨rfl, hb⟩
        have HS6_ := (hb.cell (World.block_lt_of_cell? _ _ (hHeld.2.2.2.2.2.2.1))).trans (hHeld.2.2.2.2.2.2.1)
        have HS7_ := (hb.cell (World.block_lt_of_cell? _ _ (hHeld.2.2.2.2.2.2.2.1))).trans (hHeld.2.2.2.2.2.2.2.1)
        have HS8_ := (hb.cell (World.block_lt_of_cell? _ _ (hHeld.2.2.2.2.2.2.2.2.1))).trans (hHeld.2.2.2.2.2.2.2.2.1)
        have HS9_ := (hb.cell (World.block_lt_of_cell? _ _ (hHeld.2.2.2.2.2.2.2.2.2))).trans (hHeld.2.2.2.2.2.2.2.2.2)
        refine ⟨_, rfl, ?_⟩
        have n0_ := Aside0.mk (Kd.R_below (Zr HO_11.out) hb)
        have n1_ := Aside0.mk (Kd.R_below (Zr HO_12.out) hb)
        have n2_ := Aside0.mk (Qan (g := gb405) (o := .cells #[.string a1_0, .string a1_1] 44 (0, 0)) (Zu BK405.out) hb)
        have n3_ := Aside0.mk (Qan (g := gb424) (o := .cells #[.string t417, .int .i64 t418, .int .i64 t419, .int .i64 t420, .int .i64 t421, .int .i64 t422] 84 (0, 0)) (Zu BK424.out) hb)
        have n4_ := Aside0.mk (Qao (Zc2 GE405.out GE424.out) hb)
        clear HO_11
        clear HO_12
        clear BK405
        clear BK424
        clear HB
        have HO_11 := n0_
        have HO_12 := n1_
        have BK405 := n2_
        have BK424 := n3_
        have HB := n4_
        clear n0_ n1_ n2_ n3_ n4_
        (try clear hb)
        (try clear hb2)
        (try clear hk)
        (try clear hi)
        refine hK.out _ _ ⟨(Qai BK424.out 0).trans rfl, (Qai BK424.out 1).trans rfl, (Qai BK424.out 2).trans rfl, (Qai BK424.out 3).trans rfl, (Qai BK424.out 4).trans rfl, (Qai BK424.out 5).trans rfl, HS6_, HS7_, HS8_, HS9_⟩ (fun hHeld => ?_)
        clear hK K
        refine norm_ (a' := ?_) ?_ ?_
        rotate_left
        ·show Act.put _ (some 58) _ = _
         simp only [Act.put, List.setIfInBounds_toArray, List.set_cons_zero, List.set_cons_succ, i64_w, i32_w]
         rfl
        refine pure_ (i := 8) (N := some 50) (v := ?_) (a' := ?_) #[true, true, true, true, true, true, true, true, true, false, false, false, false] rfl rfl (any_of HT_.out (by kernel_rfl)) (fun _ _ _ h => h) (Or.inl ⟨by rfl, ?_⟩) ?_ ?_
        rotate_left
        ·intro w'
         go_simp
         with_reducible rfl
        rotate_left
        ·simp only [Act.put, List.setIfInBounds_toArray, List.set_cons_zero, List.set_cons_succ, i64_w, i32_w]
         rfl
        refine pure_ (i := 9) (N := some 59) (v := ?_) (a' := ?_) #[true, true, true, true, true, true, true, true, true, true, false, false, false] rfl rfl (any_of HT_.out (by kernel_rfl)) (fun _ _ _ h => h) (Or.inl ⟨by rfl, ?_⟩) ?_ ?_
        rotate_left
        ·intro w'
         go_simp
         with_reducible rfl
        rotate_left
        ·simp only [Act.put, List.setIfInBounds_toArray, List.set_cons_zero, List.set_cons_succ, i64_w, i32_w]
         rfl
        refine pure_ (i := 10) (N := some 60) (v := ?_) (a' := ?_) #[true, true, true, true, true, true, true, true, true, true, true, false, false] rfl rfl (any_of HT_.out (by kernel_rfl)) (fun _ _ _ h => h) (Or.inl ⟨by rfl, ?_⟩) ?_ ?_
        rotate_left
        ·intro w'
         go_simp
         with_reducible rfl
        rotate_left
        ·simp only [Act.put, List.setIfInBounds_toArray, List.set_cons_zero, List.set_cons_succ, i64_w, i32_w]
         rfl
        refine pure_ (i := 11) (N := some 16) (v := ?_) (a' := ?_) #[true, true, true, true, true, true, true, true, true, true, true, true, false] rfl rfl (any_of HT_.out (by kernel_rfl)) (fun _ _ _ h => h) (Or.inl ⟨by rfl, ?_⟩) ?_ ?_
        rotate_left
        ·intro w'
         go_simp
         with_reducible rfl
        rotate_left
        ·simp only [Act.put, List.setIfInBounds_toArray, List.set_cons_zero, List.set_cons_succ, i64_w, i32_w]
         rfl
        refine pure_ (i := 12) (N := some 17) (v := ?_) (a' := ?_) #[true, true, true, true, true, true, true, true, true, true, true, true, true] rfl rfl (any_of HT_.out (by kernel_rfl)) (fun _ _ _ h => h) (Or.inl ⟨by rfl, ?_⟩) ?_ ?_
        rotate_left
        ·intro w'
         go_simp
         with_reducible rfl
        rotate_left
        ·simp only [Act.put, List.setIfInBounds_toArray, List.set_cons_zero, List.set_cons_succ, i64_w, i32_w]
         rfl
        refine done_ (Qcf HT_.out (by kernel_rfl)) ?_
        go_upto_if 62 with (fail)
        by_cases c30 : t427 = 0
        ·rw [if_pos c30] at H
         have c30b0 : (t427 == 0) = true := beq_iff_eq.mpr c30
         have c30b1 : (t427 != 0) = false := bne_eq_false_iff_eq.mpr c30
         clear c30
         (try simp only [c30b0, c30b1])
         by_cases c31 : x11_1.length < 17592186044416
         ·rw [if_pos c31] at H
          have LMc31 := Aside0.mk c31
          clear c31
          obtain ⟨y428, hy428⟩ : ∃ y_ : List Int, y_ = (x11_1 ++ [t426]) := ⟨_, rfl⟩
          replace H : (Qay.l0 k1 l2 l3 y428 t411 (wrap64 (x13_1 + 1))) = some (r1, r2) := by first | (rw [hy428]; with_reducible exact H) | (have H2_ := (Option.bind_some _ _).symm.trans H; rw [hy428]; with_reducible exact H2_) | (have H2_ := (Option.bind_some _ _).symm.trans H; with_reducible exact H2_) | with_reducible exact H | (rw [hy428]; exact H) | exact H
          have Ny428 := Aside0.mk hy428
          clear hy428
          have H' := Aside0.mk H
          clear H
          go_wp2_with (first | ((with_reducible refine QbP (b := .append) (xs := #[.tmp 64, .tmp 66]) rfl ?_); at_builtin; refine Kd.R_append (Kd.int .i64) (w0 := w) w.heap.size rfl (.tmp 64) (.tmp 66) 63 3 (.int .i64 0) 8 rfl Try.underlying63 info3 rfl (by decide) (by omega) u11 x11_1 t426 [.int .i64 t426] (fun _ => True) (fun _ => False) rfl rfl ?aP (fun _ hk => hk.elim) ?aF ?aO ?aB ?aS ?aL ?_; (case aP => exact rfl); (case aB => exact (Zc2 GE405.out GE424.out)); (case aF => exact (fun _ _ => trivial)); (case aO => exact (Zr HO_11.out)); (case aS => exact (Qam (Zc2 GE405.out GE424.out))); (case aL => have := LMc31.out; omega); intro v429 w32 ho hb hg hat; rw [← Ny428.out] at ho; have n0_ := Aside0.mk (Kd.R_over' (Zr HO_12.out) (Kd.R_typed (Zr HO_11.out)) (by decide) hg); have n1_ := Aside0.mk (Qa9 (g := gb405) (o := .cells #[.string a1_0, .string a1_1] 44 (0, 0)) (Zu BK405.out) hg (Kd.R_ne HO_11.out BK405.out (by decide))); have n2_ := Aside0.mk (Qa9 (g := gb424) (o := .cells #[.string t417, .int .i64 t418, .int .i64 t419, .int .i64 t420, .int .i64 t421, .int .i64 t422] 84 (0, 0)) (Zu BK424.out) hg (Kd.R_ne HO_11.out BK424.out (by decide))); have n3_ := Aside0.mk (hb); have n4_ := Aside0.mk (ho); clear HO_12; clear BK405; clear BK424; clear HB; clear HO_11; have HO_12 := n0_; have BK405 := n1_; have BK424 := n2_; have HB := n3_; have HO430 := n4_; clear n0_ n1_ n2_ n3_ n4_; clear ho hb hg hat))
          go_roundg k1
          case measure => have := HK1.out; omega
          case rel => exact ⟨(y428), (wrap64 (x13_1 + 1)), (Zs), H', ⟨by have := HK1.out; omega⟩, ⟨Zr HO430.out⟩, ⟨Zr HO_12.out⟩, ⟨Zu BK405.out⟩, ⟨Zc2 GE405.out GE424.out⟩⟩
         ·rw [if_neg c31] at H
          exact absurd H (by simp)
        ·rw [if_neg c30] at H
         have c30b0 : (t427 == 0) = false := beq_eq_false_iff_ne.mpr c30
         have c30b1 : (t427 != 0) = true := bne_iff_ne.mpr c30
         (try simp only [c30b0, c30b1])
         simp only [Option.some.injEq, Prod.mk.injEq] at H
         obtain ⟨rfl, rfl⟩ := H
         go_wp2
         go_ret2
         exact ⟨Zq, Zc2 GE405.out GE424.out⟩
       ·replace c25 := Bool.eq_false_iff.mpr c25
        subst c25
        have H1 : (some (0, 11)) = some (r1, r2) := by rw [if_neg (show ¬ (false = true) by decide)] at H; exact H
        clear H
        have H := H1
        clear H1
        simp only [Option.some.injEq, Prod.mk.injEq] at H
        obtain ⟨rfl, rfl⟩ := H
        go_wp2
        go_ret2
        exact ⟨Zq, Zc2 GE405.out GE424.out⟩
      ·rw [if_neg c19] at H
       exact absurd H (by simp)
     ·rw [if_neg c18] at H
      have c18b0 : decide (x13_1 < (t411.length : Int)) = false := decide_eq_false c18
      clear c18
      (try simp only [c18b0])
      replace H := Option.bind_eq_some_iff.mp H
      obtain ⟨⟨t414, t415⟩, A330, H⟩ := H
      replace H : (some (t414, t415)) = some (r1, r2) := H
      have A33 := Aside0.mk A330
      clear A330
      simp only [Option.some.injEq, Prod.mk.injEq] at H
      obtain ⟨rfl, rfl⟩ := H
      obtain ⟨Ao34, co34, eo34⟩ := Kd.R_slice HO_11.out
      subst eo34
      go_wp2_with (first | ((with_reducible refine Qaw (f := 60) rfl ?_); refine goesL_ (some 69) rfl rfl Try.func60 (by kernel_rfl) rfl #[.slice Ao34 x11_1.length co34] rfl (Zl) ?_; (with_reducible refine (QaO.calls k1 _ _ x11_1 t414 t415 _ ?side1 ?side2 A33.out).mono ?_); (case side1 => repeat (first | exact (Kd.R_reads' HO_11.out).2.2 | (with_reducible refine Kd.C_alloc ?_ _) | (with_reducible refine Kd.C_drewN ?_ _) | (with_reducible refine Kd.C_drew ?_))); (case side2 => exact (Kd.R_reads' HO_11.out).2.1); rintro e w' ⟨rfl, ⟨nd, rfl⟩⟩; refine ⟨_, rfl, ?_⟩))
      go_ret2
      exact ⟨Zq, Zc1 GE405.out⟩
  ·rw [if_neg c11] at H
   have c11b0 : (t407 == 0) = false := beq_eq_false_iff_ne.mpr c11
   have c11b1 : (t407 != 0) = true := bne_iff_ne.mpr c11
   (try simp only [c11b0, c11b1])
   simp only [Option.some.injEq, Prod.mk.injEq] at H
   obtain ⟨rfl, rfl⟩ := H
   go_wp2
   go_ret2
   exact ⟨Zq, Zc1 GE405.out⟩
 ·rw [if_neg c8] at H
  have c8b0 : (t406 == 0) = false := beq_eq_false_iff_ne.mpr c8
  have c8b1 : (t406 != 0) = true := bne_iff_ne.mpr c8
  (try simp only [c8b0, c8b1])
  simp only [Option.some.injEq, Prod.mk.injEq] at H
  obtain ⟨rfl, rfl⟩ := H
  go_wp2
  go_ret2
  exact ⟨Zq, Zc1 GE405.out⟩
mutual
def Qat.j0 : Nat → List (S46) → Int → List (S84) → List (S98) → Bool → ByteArray → ByteArray → Option (List Int × Int)
 | 0, _, _, _, _, _, _, _ => none
 | k + 1, x0, x2, x3, x4, x39, x432000, x432001 => if x39 = true then (some (([] : List Int), 2)) else ((QaI.f k x0 x432000 x432001).bind fun t434 => (Qat.l0 k x2 x3 x4 ([] : List Int) t434 0))
def Qat.l0 : Nat → Int → List (S84) → List (S98) → List Int → List (S46) → Int → Option (List Int × Int)
 | 0, _, _, _, _, _, _ => none
 | k + 1, x2, x3, x4, x14, x15, x16 => if x16 < (x15.length : Int) then (if 0 ≤ x16 then ((QaL.f k x3 ((rd_T46 x15 x16).f1)).bind fun bt438 => ((Qa3.f k bt438.1 bt438.2.1 bt438.2.2.1 bt438.2.2.2.1 bt438.2.2.2.2.1 bt438.2.2.2.2.2.1 ((rd_T46 x15 x16).f2) x4).bind fun bt447 => ((Qa5.f x2 bt438.2.2.2.2.2.1 1000 3).bind fun bt449 => (if bt447.1 > bt449.1 then (if x14.length < 17592186044416 then (Qat.l0 k x2 x3 x4 (x14 ++ [bt449.1]) x15 (wrap64 (x16 + 1))) else (none)) else (if x14.length < 17592186044416 then (Qat.l0 k x2 x3 x4 (x14 ++ [bt447.1]) x15 (wrap64 (x16 + 1))) else (none)))))) else (none)) else (some (x14, 0))
end
def Qat.f (k : Nat) (l0 : List (S46)) (a1_0 : ByteArray) (a1_1 : ByteArray) (a2 : Int) (l3 : List (S84)) (l4 : List (S98)) : Option (List Int × Int) := (Qay.f k l0 a1_0 a1_1 l3 l4).bind fun bt432 => (if bt432.2 = 0 then (if a2 < 0 then (Qat.j0 k l0 a2 l3 l4 true a1_0 a1_1) else (Qat.j0 k l0 a2 l3 l4 (decide (a2 > 1152921504606846976)) a1_0 a1_1)) else (some (([] : List Int), bt432.2)))
theorem Qat.mono_l : ∀ k, (∀ y0 y1 y2 y3 y4 y5 y6, LeO (Qat.j0 k y0 y1 y2 y3 y4 y5 y6) (Qat.j0 (k + 1) y0 y1 y2 y3 y4 y5 y6)) ∧ (∀ y0 y1 y2 y3 y4 y5, LeO (Qat.l0 k y0 y1 y2 y3 y4 y5) (Qat.l0 (k + 1) y0 y1 y2 y3 y4 y5))
 | 0 => ⟨fun _ _ _ _ _ _ _ r h => by simp [Qat.j0] at h, fun _ _ _ _ _ _ r h => by simp [Qat.l0] at h⟩
 | k + 1 => by
  obtain ⟨ih0, ih1⟩ := Qat.mono_l k
  refine ⟨?_, ?_⟩
  ·intro y0 y1 y2 y3 y4 y5 y6
   unfold Qat.j0
   repeat' first
   | (with_reducible exact ih0 _ _ _ _ _ _ _)
   | (with_reducible exact ih1 _ _ _ _ _ _)
   | (with_reducible exact QaL.mono _ _ _)
   | (with_reducible exact Qa3.mono _ _ _ _ _ _ _ _ _)
   | (with_reducible exact QaI.mono _ _ _ _)
   | (with_reducible exact Qay.mono _ _ _ _ _ _)
   | (with_reducible exact LeO.refl _)
   | (with_reducible exact LeO.none _)
   | (with_reducible refine LeO.ite ?_ ?_)
   | (with_reducible refine LeO.bind ?_ (fun _ => ?_))
   | exact ih0 _ _ _ _ _ _ _
   | exact ih1 _ _ _ _ _ _
   | exact QaL.mono _ _ _
   | exact Qa3.mono _ _ _ _ _ _ _ _ _
   | exact QaI.mono _ _ _ _
   | exact Qay.mono _ _ _ _ _ _
   | exact LeO.none _
   | refine LeO.ite ?_ ?_
   | refine LeO.bind ?_ (fun _ => ?_)
  ·intro y0 y1 y2 y3 y4 y5
   unfold Qat.l0
   repeat' first
   | (with_reducible exact ih0 _ _ _ _ _ _ _)
   | (with_reducible exact ih1 _ _ _ _ _ _)
   | (with_reducible exact QaL.mono _ _ _)
   | (with_reducible exact Qa3.mono _ _ _ _ _ _ _ _ _)
   | (with_reducible exact QaI.mono _ _ _ _)
   | (with_reducible exact Qay.mono _ _ _ _ _ _)
   | (with_reducible exact LeO.refl _)
   | (with_reducible exact LeO.none _)
   | (with_reducible refine LeO.ite ?_ ?_)
   | (with_reducible refine LeO.bind ?_ (fun _ => ?_))
   | exact ih0 _ _ _ _ _ _ _
   | exact ih1 _ _ _ _ _ _
   | exact QaL.mono _ _ _
   | exact Qa3.mono _ _ _ _ _ _ _ _ _
   | exact QaI.mono _ _ _ _
   | exact Qay.mono _ _ _ _ _ _
   | exact LeO.none _
   | refine LeO.ite ?_ ?_
   | refine LeO.bind ?_ (fun _ => ?_)
theorem Qat.mono : ∀ a0 a1 a2 a3 a4 a5 k, LeO (Qat.f k a0 a1 a2 a3 a4 a5) (Qat.f (k + 1) a0 a1 a2 a3 a4 a5) := by
 intro a0 a1 a2 a3 a4 a5 k
 obtain ⟨ih0, ih1⟩ := Qat.mono_l k
 unfold Qat.f
 repeat' first
   | (with_reducible exact ih0 _ _ _ _ _ _ _)
   | (with_reducible exact ih1 _ _ _ _ _ _)
   | (with_reducible exact QaL.mono _ _ _)
   | (with_reducible exact Qa3.mono _ _ _ _ _ _ _ _ _)
   | (with_reducible exact QaI.mono _ _ _ _)
   | (with_reducible exact Qay.mono _ _ _ _ _ _)
   | (with_reducible exact LeO.refl _)
   | (with_reducible exact LeO.none _)
   | (with_reducible refine LeO.ite ?_ ?_)
   | (with_reducible refine LeO.bind ?_ (fun _ => ?_))
   | exact ih0 _ _ _ _ _ _ _
   | exact ih1 _ _ _ _ _ _
   | exact QaL.mono _ _ _
   | exact Qa3.mono _ _ _ _ _ _ _ _ _
   | exact QaI.mono _ _ _ _
   | exact Qay.mono _ _ _ _ _ _
   | exact LeO.none _
   | refine LeO.ite ?_ ?_
   | refine LeO.bind ?_ (fun _ => ?_)
def Qat.T12 : Bool × List (List Nat × List Nat) := (true, [([], []), ([], []), ([], []), ([1, 2], [1, 2]), ([3], [3]), ([4], [4]), ([], []), ([0, 5, 6], [0, 5, 6]), ([7], [7]), ([8], [8]), ([8], [8]), ([9, 7, 0, 1, 2, 3, 4, 5, 6, 7, 8, 9], [9]), ([10, 11, 0, 1, 2, 3, 4, 5, 6, 7, 8, 9, 10, 11], [10])])
def Qat.B12 : List Nat := [0, 0, 0, 6, 14, 30, 0, 127, 255, 511, 511, 1023, 4095]
theorem Qat.tab12 : rtab .any (opsOf Try.f29 12) = Qat.T12 := by kernel_rfl
theorem Qat.bits12 : Qb6 Qat.T12.2 Qat.B12 = true := by kernel_rfl
set_option maxHeartbeats 8000000 in
set_option maxRecDepth 100000 in
theorem Qat.calls (k : Nat) (A0 : Option Addr) (c0 : Nat) (l0 : List (S46)) (a1_0 : ByteArray) (a1_1 : ByteArray) (a2 : Int) (A3 : Option Addr) (c3 : Nat) (l3 : List (S84)) (A4 : Option Addr) (c4 : Nat) (l4 : List (S98)) (r1 : List Int) (r2 : Int) (w : World) (hr0 : Kd.C k46 w A0 l0.length l0) (hc0 : l0.length ≤ c0) (hr3 : Kd.C k84 w A3 l3.length l3) (hc3 : l3.length ≤ c3) (hr4 : Kd.C k98 w A4 l4.length l4) (hc4 : l4.length ≤ c4) (h : Qat.f k l0 a1_0 a1_1 a2 l3 l4 = some (r1, r2)) :
  Calls Try.prog 29 #[.slice A0 l0.length c0, .agg #[.string a1_0, .string a1_1], .int .i64 a2, .slice A3 l3.length c3, .slice A4 l4.length c4] w fun e w' => ∃ v0_ : Value, e = .returned (.tuple #[v0_, .int .i64 r2]) ∧ Kd.R (Kd.int .i64) 3 w' w.heap.size (fun _ => True) v0_ r1 ∧ Below w.heap.size w w' := by
 have hu44 := Try.underlying44
 have hu84 := Try.underlying84
 have HR0 := Aside0.mk hr0
 have HC0 := Aside0.mk hc0
 clear hr0 hc0
 have HR3 := Aside0.mk hr3
 have HC3 := Aside0.mk hc3
 clear hr3 hc3
 have HR4 := Aside0.mk hr4
 have HC4 := Aside0.mk hc4
 clear hr4 hc4
 have HB := Aside0.mk (Below.refl w.heap.size w)
 have H : ((Qay.f k l0 a1_0 a1_1 l3 l4).bind fun bt432 => (if bt432.2 = 0 then (if a2 < 0 then (Qat.j0 k l0 a2 l3 l4 true a1_0 a1_1) else (Qat.j0 k l0 a2 l3 l4 (decide (a2 > 1152921504606846976)) a1_0 a1_1)) else (some (([] : List Int), bt432.2)))) = some (r1, r2) := h
 clear h
 replace H := Option.bind_eq_some_iff.mp H
 obtain ⟨⟨t432, t433⟩, A60, H⟩ := H
 replace H : (if t433 = 0 then (if a2 < 0 then (Qat.j0 k l0 a2 l3 l4 true a1_0 a1_1) else (Qat.j0 k l0 a2 l3 l4 (decide (a2 > 1152921504606846976)) a1_0 a1_1)) else (some (([] : List Int), t433))) = some (r1, r2) := H
 have A6 := Aside0.mk A60
 clear A60
 go_enter Try.func29, Try.ntmps29
 go_upto_if 32 with (first | ((with_reducible refine QaW (N := 6) rfl ?_); refine Qa2 ?hg (N := 6) ?hd (cs := #[.string a1_0, .string a1_1]) (t := 44) ?hr ?_; (case hd => rfl); (case hg => rfl); (case hr => first | (go_simp; done) | (go_simp; rfl)); intro gb431 hg w7 hbox hb; have n0_ := Aside0.mk (Qao (Zb) hb); have n1_ := Aside0.mk (hbox); have n2_ := Aside0.mk ((by rw [hg]; exact (Qam (Zb)) : w.heap.size ≤ gb431)); have n3_ := Aside0.mk ((by rw [hg]; exact (Qam (Zb)) : w.heap.size ≤ gb431)); clear HB; have HB := n0_; have BK431 := n1_; have GW431 := n2_; have GE431 := n3_; clear n0_ n1_ n2_ n3_; clear hb hbox hg; have hcz8_0 : w7.cell? ⟨gb431, 0, none⟩ = some (.string a1_0) := (Qai BK431.out 0).trans rfl; have hcz8_1 : w7.cell? ⟨gb431, 1, none⟩ = some (.string a1_1) := (Qai BK431.out 1).trans rfl; have hfz8_0 := Qah BK431.out 0; have hfz8_1 := Qah BK431.out 1) | ((with_reducible refine Qaw (f := 37) rfl ?_); refine goesL_ (some 28) rfl rfl Try.func37 (by kernel_rfl) rfl #[.slice A0 l0.length c0, .agg #[.string a1_0, .string a1_1], .slice A3 l3.length c3, .slice A4 l4.length c4] rfl (Zl) ?_; (with_reducible refine (Qay.calls k _ _ l0 a1_0 a1_1 _ _ l3 _ _ l4 t432 t433 _ ?side1 ?side2 ?side3 ?side4 ?side5 ?side6 A6.out).mono ?_); (case side1 => exact Zv (Kd.C_below HR0.out HB.out)); (case side2 => exact HC0.out); (case side3 => exact Zv (Kd.C_below HR3.out HB.out)); (case side4 => exact HC3.out); (case side5 => exact Zv (Kd.C_below HR4.out HB.out)); (case side6 => exact HC4.out); rintro e w9 ⟨rfl, hb⟩; refine ⟨_, rfl, ?_⟩; have n0_ := Aside0.mk (Qan (g := gb431) (o := .cells #[.string a1_0, .string a1_1] 44 (0, 0)) (Zu BK431.out) hb); have n1_ := Aside0.mk (Qao (Zc1 GE431.out) hb); clear BK431; clear HB; have BK431 := n0_; have HB := n1_; clear n0_ n1_; (try clear hb); (try clear hb2); (try clear hk); (try clear hi)))
 (try simp only [Act.put, List.setIfInBounds_toArray, List.set_cons_zero, List.set_cons_succ])
 by_cases c10 : t433 = 0
 ·rw [if_pos c10] at H
  have c10b0 : (t433 == 0) = true := beq_iff_eq.mpr c10
  have c10b1 : (t433 != 0) = false := bne_eq_false_iff_eq.mpr c10
  clear c10
  (try simp only [c10b0, c10b1])
  have HC11 := Aside0.mk H
  clear H
  go_upto_region 4 with (fail)
  go_cut [39] (fun v39 wc => ∃ (kq : Nat) (x39_10 : Bool), v39 = .bool x39_10 ∧ Aside0 (Qat.j0 kq l0 a2 l3 l4 x39_10 a1_0 a1_1 = some (r1, r2)) ∧ Aside0 (kq ≤ k) ∧ Aside0 (wc.heap[gb431]? = some (.cells #[.string a1_0, .string a1_1] 44 (0, 0))) ∧ Aside0 (Below w.heap.size w wc))
  case first =>
   have H := HC11.out
   clear HC11
   by_cases c12 : a2 < 0
   ·rw [if_pos c12] at H
    have c12b0 : decide (a2 < 0) = true := decide_eq_true c12
    clear c12
    have H' := Aside0.mk H
    clear H
    go_wp2
    go_meet
    case rel => exact ⟨_, (true), (Zs), H', ⟨by first | omega | exact Nat.le_refl _⟩, ⟨Zu BK431.out⟩, ⟨Zc1 GE431.out⟩⟩
   ·rw [if_neg c12] at H
    have c12b0 : decide (a2 < 0) = false := decide_eq_false c12
    clear c12
    have H' := Aside0.mk H
    clear H
    go_wp2
    go_meet
    case rel => exact ⟨_, (decide (a2 > 1152921504606846976)), (Zs), H', ⟨by first | omega | exact Nat.le_refl _⟩, ⟨Zu BK431.out⟩, ⟨Zc1 GE431.out⟩⟩
  case rest =>
   clear HC11
   try clear c1
   try clear c2
   try clear p2
   try clear c3
   try clear c4
   try clear c10
   try clear c10b0
   try clear c10b1
   try clear c12
   try clear c12b0
   try clear hcz8_0
   try clear hcz8_1
   try clear hfz8_0
   try clear hfz8_1
   obtain ⟨kq, x39_10, rfl, HA, HJ10, BK431, HB⟩ := hcut
   cases kq with
   | zero => exact absurd HA.out (by simp [Qat.j0])
   | succ kj10 =>
    have H := HA.out
    clear HA
    simp only [Qat.j0] at H
    by_cases c13 : x39_10 = true
    ·subst c13
     have H1 : (some (([] : List Int), 2)) = some (r1, r2) := by rw [if_pos rfl] at H; exact H
     clear H
     have H := H1
     clear H1
     simp only [Option.some.injEq, Prod.mk.injEq] at H
     obtain ⟨rfl, rfl⟩ := H
     go_wp2
     go_ret2
     exact ⟨_, Zq, by first | exact Kd.R_nil _ _ _ _ _ | exact Kd.N_nil _ _ _ _ _ | exact Kd.V_nil _ _ _ _ _ | exact Kd.Q_nil _ _ _ _ _ | exact Kd.S_nil _ _ _ _ _, Zc1 GE431.out⟩
    ·replace c13 := Bool.eq_false_iff.mpr c13
     subst c13
     have H1 : ((QaI.f kj10 l0 a1_0 a1_1).bind fun t434 => (Qat.l0 kj10 a2 l3 l4 ([] : List Int) t434 0)) = some (r1, r2) := by rw [if_neg (show ¬ (false = true) by decide)] at H; exact H
     clear H
     have H := H1
     clear H1
     replace H := Option.bind_eq_some_iff.mp H
     obtain ⟨t434, A140, H⟩ := H
     replace H : (Qat.l0 kj10 a2 l3 l4 ([] : List Int) t434 0) = some (r1, r2) := H
     have A14 := Aside0.mk A140
     clear A140
     have H' := Aside0.mk H
     clear H
     have hcz15_0 : wc.cell? ⟨gb431, 0, none⟩ = some (.string a1_0) := (Qai BK431.out 0).trans rfl
     have hcz15_1 : wc.cell? ⟨gb431, 1, none⟩ = some (.string a1_1) := (Qai BK431.out 1).trans rfl
     have hfz15_0 := Qah BK431.out 0
     have hfz15_1 := Qah BK431.out 1
     go_wp2_with (first | ((with_reducible refine Qaw (f := 40) rfl ?_); refine goesL_ (some 42) rfl rfl Try.func40 (by kernel_rfl) rfl #[.slice A0 l0.length c0, .agg #[.string a1_0, .string a1_1]] rfl (Zl) ?_; (with_reducible refine (QaI.calls kj10 _ _ l0 a1_0 a1_1 t434 _ ?side1 ?side2 A14.out).mono ?_); (case side1 => exact Zv (Kd.C_below HR0.out HB.out)); (case side2 => exact HC0.out); rintro e w16 ⟨v435, rfl, ho0, hb⟩; refine ⟨_, rfl, ?_⟩; have n0_ := Aside0.mk (Kd.R_lower ho0 (Qam (Zc1 GE431.out))); have n1_ := Aside0.mk (Qan (g := gb431) (o := .cells #[.string a1_0, .string a1_1] 44 (0, 0)) (Zu BK431.out) hb); have n2_ := Aside0.mk (Qao (Zc1 GE431.out) hb); clear BK431; clear HB; have HO436 := n0_; have BK431 := n1_; have HB := n2_; clear n0_ n1_ n2_; (try clear hb); (try clear hb2); (try clear hk); (try clear hi); (try clear ho0)))
     go_loopg [14, 16] kj10 (fun kq v14 v16 w' => ∃ (x14_2 : List Int) (x16_2 : Int), v16 = .int .i64 x16_2 ∧ Aside0 (Qat.l0 kq a2 l3 l4 x14_2 t434 x16_2 = some (r1, r2)) ∧ Aside0 (kq ≤ kj10) ∧ Aside0 (Kd.R (Kd.int .i64) 3 w' w.heap.size (fun _ => True) v14 x14_2) ∧ Aside0 (Kd.R k46 46 w' w.heap.size (fun _ => True) v435 t434) ∧ Aside0 (w'.heap[gb431]? = some (.cells #[.string a1_0, .string a1_1] 44 (0, 0))) ∧ Aside0 (Below w.heap.size w w'))
     case atStart => exact ⟨(([] : List Int)), (0), (Zs), H', ⟨Nat.le_refl _⟩, ⟨by first | exact Kd.R_nil _ _ _ _ _ | exact Kd.N_nil _ _ _ _ _ | exact Kd.V_nil _ _ _ _ _ | exact Kd.Q_nil _ _ _ _ _ | exact Kd.S_nil _ _ _ _ _⟩, ⟨Zr HO436.out⟩, ⟨Zu BK431.out⟩, ⟨Zc1 GE431.out⟩⟩
     case round =>
      clear H'
      try clear c1
      try clear c2
      try clear p2
      try clear c3
      try clear c4
      try clear c10
      try clear c10b0
      try clear c10b1
      try clear c12
      try clear c12b0
      try clear c13
      try clear hcz15_0
      try clear hcz15_1
      try clear hcz8_0
      try clear hcz8_1
      try clear hfz15_0
      try clear hfz15_1
      try clear hfz8_0
      try clear hfz8_1
      try clear p2
      obtain ⟨x14_2, x16_2, rfl, HA, HK2, HO_14, HO_15, BK431, HB⟩ := hrel
      cases gk with
      | zero => exact absurd HA.out (by simp [Qat.l0])
      | succ k2 =>
       have H := HA.out
       clear HA
       simp only [Qat.l0] at H
       obtain ⟨Ao17, co17, eo17⟩ := Kd.R_slice HO_15.out
       subst eo17
       go_upto_if 46 with (fail)
       by_cases c18 : x16_2 < (t434.length : Int)
       ·rw [if_pos c18] at H
        have c18b0 : decide (x16_2 < (t434.length : Int)) = true := decide_eq_true c18
        clear c18
        (try simp only [c18b0])
        by_cases c19 : 0 ≤ x16_2
        ·rw [if_pos c19] at H
         have c19b0 : decide (0 ≤ x16_2) = true := decide_eq_true c19
         clear c19
         replace H := Option.bind_eq_some_iff.mp H
         obtain ⟨⟨t438, t439, t440, t441, t442, t443, t444⟩, A200, H⟩ := H
         replace H : ((Qa3.f k2 t438 t439 t440 t441 t442 t443 ((rd_T46 t434 x16_2).f2) l4).bind fun bt447 => ((Qa5.f a2 t443 1000 3).bind fun bt449 => (if bt447.1 > bt449.1 then (if x14_2.length < 17592186044416 then (Qat.l0 k2 a2 l3 l4 (x14_2 ++ [bt449.1]) t434 (wrap64 (x16_2 + 1))) else (none)) else (if x14_2.length < 17592186044416 then (Qat.l0 k2 a2 l3 l4 (x14_2 ++ [bt447.1]) t434 (wrap64 (x16_2 + 1))) else (none))))) = some (r1, r2) := H
         have A20 := Aside0.mk A200
         clear A200
         replace H := Option.bind_eq_some_iff.mp H
         obtain ⟨⟨t447, t448⟩, A210, H⟩ := H
         replace H : ((Qa5.f a2 t443 1000 3).bind fun bt449 => (if t447 > bt449.1 then (if x14_2.length < 17592186044416 then (Qat.l0 k2 a2 l3 l4 (x14_2 ++ [bt449.1]) t434 (wrap64 (x16_2 + 1))) else (none)) else (if x14_2.length < 17592186044416 then (Qat.l0 k2 a2 l3 l4 (x14_2 ++ [t447]) t434 (wrap64 (x16_2 + 1))) else (none)))) = some (r1, r2) := H
         have A21 := Aside0.mk A210
         clear A210
         replace H := Option.bind_eq_some_iff.mp H
         obtain ⟨⟨t449, t450⟩, A220, H⟩ := H
         replace H : (if t447 > t449 then (if x14_2.length < 17592186044416 then (Qat.l0 k2 a2 l3 l4 (x14_2 ++ [t449]) t434 (wrap64 (x16_2 + 1))) else (none)) else (if x14_2.length < 17592186044416 then (Qat.l0 k2 a2 l3 l4 (x14_2 ++ [t447]) t434 (wrap64 (x16_2 + 1))) else (none))) = some (r1, r2) := H
         have A22 := Aside0.mk A220
         clear A220
         have p437 : 0 ≤ (x16_2 : Int) := Ze
         have q437 : x16_2 < (t434.length : Int) := Ze
         obtain ⟨ad437, e437, hx437_0, hx437_1, hx437_2, hx437_3⟩ := at_T46 (Kd.R_reads' HO_15.out).2.2 x16_2 p437 q437
         cases e437
         replace p437 := eq_true p437
         replace q437 := eq_true q437
         try go_wp2_with (first | ((with_reducible refine Qaw (f := 41) rfl ?_); refine goesL_ (some 56) rfl rfl Try.func41 (by kernel_rfl) rfl #[.slice A3 l3.length c3, .string ((rd_T46 t434 x16_2).f1)] rfl (Zl) ?_; (with_reducible refine (QaL.calls k2 _ _ l3 ((rd_T46 t434 x16_2).f1) t438 t439 t440 t441 t442 t443 t444 _ ?side1 ?side2 A20.out).mono ?_); (case side1 => exact Zv (Kd.C_below HR3.out HB.out)); (case side2 => exact HC3.out); rintro e w23 ⟨rfl, hb⟩; refine ⟨_, rfl, ?_⟩; have n0_ := Aside0.mk (Kd.R_below (Zr HO_14.out) hb); have n1_ := Aside0.mk (Kd.R_below (Zr HO_15.out) hb); have n2_ := Aside0.mk (Qan (g := gb431) (o := .cells #[.string a1_0, .string a1_1] 44 (0, 0)) (Zu BK431.out) hb); have n3_ := Aside0.mk (Qao (Zc1 GE431.out) hb); clear HO_14; clear HO_15; clear BK431; clear HB; have HO_14 := n0_; have HO_15 := n1_; have BK431 := n2_; have HB := n3_; clear n0_ n1_ n2_ n3_; (try clear hb); (try clear hb2); (try clear hk); (try clear hi)) | ((with_reducible refine QaW (N := 17) rfl ?_); refine Qa2 ?hg (N := 17) ?hd (cs := #[.string (⟨#[]⟩ : ByteArray), .int .i64 0, .int .i64 0, .int .i64 0, .int .i64 0, .int .i64 0]) (t := 84) ?hr ?_; (case hd => rfl); (case hg => rfl); (case hr => first | (go_simp; done) | (go_simp; rfl)); intro gb445 hg w24 hbox hb; have n0_ := Aside0.mk (Kd.R_below (Zr HO_14.out) hb); have n1_ := Aside0.mk (Kd.R_below (Zr HO_15.out) hb); have n2_ := Aside0.mk (Qan (g := gb431) (o := .cells #[.string a1_0, .string a1_1] 44 (0, 0)) (Zu BK431.out) hb); have n3_ := Aside0.mk (Qao (Zc1 GE431.out) hb); have n4_ := Aside0.mk (hbox); have n5_ := Aside0.mk ((by rw [hg]; exact (Qam (Zc1 GE431.out)) : w.heap.size ≤ gb445)); have n6_ := Aside0.mk ((by rw [hg]; exact (Qam (Zc1 GE431.out)) : w.heap.size ≤ gb445)); have n7_ := Aside0.mk ((by rw [hg]; exact Nat.ne_of_lt (blk_lt (g := gb431) (o := .cells #[.string a1_0, .string a1_1] 44 (0, 0)) (Zu BK431.out)) : gb431 ≠ gb445)); have n8_ := Aside0.mk ((by rw [hg]; exact Nat.ne_of_gt (blk_lt (g := gb431) (o := .cells #[.string a1_0, .string a1_1] 44 (0, 0)) (Zu BK431.out)) : gb445 ≠ gb431)); clear HO_14; clear HO_15; clear BK431; clear HB; have HO_14 := n0_; have HO_15 := n1_; have BK431 := n2_; have HB := n3_; have BK445 := n4_; have GW445 := n5_; have GE445 := n6_; have NB431_445 := n7_; have NB445_431 := n8_; clear n0_ n1_ n2_ n3_ n4_ n5_ n6_ n7_ n8_; clear hb hbox hg; have hnb25 := NB445_431.out; have hnc25 := NB431_445.out; have hcz26_0 : w24.cell? ⟨gb445, 0, none⟩ = some (.string (⟨#[]⟩ : ByteArray)) := (Qai BK445.out 0).trans rfl; have hcz26_1 : w24.cell? ⟨gb445, 1, none⟩ = some (.int .i64 0) := (Qai BK445.out 1).trans rfl; have hcz26_2 : w24.cell? ⟨gb445, 2, none⟩ = some (.int .i64 0) := (Qai BK445.out 2).trans rfl; have hcz26_3 : w24.cell? ⟨gb445, 3, none⟩ = some (.int .i64 0) := (Qai BK445.out 3).trans rfl; have hcz26_4 : w24.cell? ⟨gb445, 4, none⟩ = some (.int .i64 0) := (Qai BK445.out 4).trans rfl; have hcz26_5 : w24.cell? ⟨gb445, 5, none⟩ = some (.int .i64 0) := (Qai BK445.out 5).trans rfl; have hfz26_0 := Qah BK445.out 0; have hfz26_1 := Qah BK445.out 1; have hfz26_2 := Qah BK445.out 2; have hfz26_3 := Qah BK445.out 3; have hfz26_4 := Qah BK445.out 4; have hfz26_5 := Qah BK445.out 5))
         have n0_ : Aside0 (Kd.R (Kd.int .i64) 3 ((((((w24.setCell ⟨gb445, 0, none⟩ (.string t438)).setCell ⟨gb445, 1, none⟩ (.int .i64 t439)).setCell ⟨gb445, 2, none⟩ (.int .i64 t440)).setCell ⟨gb445, 3, none⟩ (.int .i64 t441)).setCell ⟨gb445, 4, none⟩ (.int .i64 t442)).setCell ⟨gb445, 5, none⟩ (.int .i64 t443)) w.heap.size (fun _ => True) u14 x14_2) := ⟨by (with_reducible repeat (first | apply Kd.R_alloc | apply Kd.R_drewN | apply Kd.R_drew)); exact Kd.R_mono (Kd.R_far (p := ⟨gb445, 5, none⟩) (Kd.R_far (p := ⟨gb445, 4, none⟩) (Kd.R_far (p := ⟨gb445, 3, none⟩) (Kd.R_far (p := ⟨gb445, 2, none⟩) (Kd.R_far (p := ⟨gb445, 1, none⟩) (Kd.R_far (p := ⟨gb445, 0, none⟩) (Kd.R_types HO_14.out BK445.out (by decide)) (fun _ hk => hk.2) (.string t438)) (fun _ hk => hk.2) (.int .i64 t439)) (fun _ hk => hk.2) (.int .i64 t440)) (fun _ hk => hk.2) (.int .i64 t441)) (fun _ hk => hk.2) (.int .i64 t442)) (fun _ hk => hk.2) (.int .i64 t443)) (fun _ hk => trivial)⟩
         have n1_ : Aside0 (Kd.R k46 46 ((((((w24.setCell ⟨gb445, 0, none⟩ (.string t438)).setCell ⟨gb445, 1, none⟩ (.int .i64 t439)).setCell ⟨gb445, 2, none⟩ (.int .i64 t440)).setCell ⟨gb445, 3, none⟩ (.int .i64 t441)).setCell ⟨gb445, 4, none⟩ (.int .i64 t442)).setCell ⟨gb445, 5, none⟩ (.int .i64 t443)) w.heap.size (fun _ => True) (.slice (some ad437) t434.length co17) t434) := ⟨by (with_reducible repeat (first | apply Kd.R_alloc | apply Kd.R_drewN | apply Kd.R_drew)); exact Kd.R_mono (Kd.R_far (p := ⟨gb445, 5, none⟩) (Kd.R_far (p := ⟨gb445, 4, none⟩) (Kd.R_far (p := ⟨gb445, 3, none⟩) (Kd.R_far (p := ⟨gb445, 2, none⟩) (Kd.R_far (p := ⟨gb445, 1, none⟩) (Kd.R_far (p := ⟨gb445, 0, none⟩) (Kd.R_types HO_15.out BK445.out (by decide)) (fun _ hk => hk.2) (.string t438)) (fun _ hk => hk.2) (.int .i64 t439)) (fun _ hk => hk.2) (.int .i64 t440)) (fun _ hk => hk.2) (.int .i64 t441)) (fun _ hk => hk.2) (.int .i64 t442)) (fun _ hk => hk.2) (.int .i64 t443)) (fun _ hk => trivial)⟩
         have n2_ : Aside0 (((((((w24.setCell ⟨gb445, 0, none⟩ (.string t438)).setCell ⟨gb445, 1, none⟩ (.int .i64 t439)).setCell ⟨gb445, 2, none⟩ (.int .i64 t440)).setCell ⟨gb445, 3, none⟩ (.int .i64 t441)).setCell ⟨gb445, 4, none⟩ (.int .i64 t442)).setCell ⟨gb445, 5, none⟩ (.int .i64 t443)).heap[gb431]? = some (.cells #[.string a1_0, .string a1_1] 44 (0, 0))) := ⟨by (with_reducible repeat (first | refine Qac ?_ _ | refine Qag ?_ | refine Qab ?_ _)); refine Qau ?_ NB431_445.out _; (with_reducible repeat (first | refine Qac ?_ _ | refine Qag ?_ | refine Qab ?_ _)); refine Qau ?_ NB431_445.out _; (with_reducible repeat (first | refine Qac ?_ _ | refine Qag ?_ | refine Qab ?_ _)); refine Qau ?_ NB431_445.out _; (with_reducible repeat (first | refine Qac ?_ _ | refine Qag ?_ | refine Qab ?_ _)); refine Qau ?_ NB431_445.out _; (with_reducible repeat (first | refine Qac ?_ _ | refine Qag ?_ | refine Qab ?_ _)); refine Qau ?_ NB431_445.out _; (with_reducible repeat (first | refine Qac ?_ _ | refine Qag ?_ | refine Qab ?_ _)); refine Qau ?_ NB431_445.out _; (with_reducible repeat (first | refine Qac ?_ _ | refine Qag ?_ | refine Qab ?_ _)); exact BK431.out⟩
         have n3_ : Aside0 (((((((w24.setCell ⟨gb445, 0, none⟩ (.string t438)).setCell ⟨gb445, 1, none⟩ (.int .i64 t439)).setCell ⟨gb445, 2, none⟩ (.int .i64 t440)).setCell ⟨gb445, 3, none⟩ (.int .i64 t441)).setCell ⟨gb445, 4, none⟩ (.int .i64 t442)).setCell ⟨gb445, 5, none⟩ (.int .i64 t443)).heap[gb445]? = some (.cells #[.string t438, .int .i64 t439, .int .i64 t440, .int .i64 t441, .int .i64 t442, .int .i64 t443] 84 (0, 0))) := ⟨by (with_reducible repeat (first | refine Qac ?_ _ | refine Qag ?_ | refine Qab ?_ _)); refine Qax (cs := #[.string t438, .int .i64 t439, .int .i64 t440, .int .i64 t441, .int .i64 t442, .int .i64 0]) ?_ 5 _ rfl; (with_reducible repeat (first | refine Qac ?_ _ | refine Qag ?_ | refine Qab ?_ _)); refine Qax (cs := #[.string t438, .int .i64 t439, .int .i64 t440, .int .i64 t441, .int .i64 0, .int .i64 0]) ?_ 4 _ rfl; (with_reducible repeat (first | refine Qac ?_ _ | refine Qag ?_ | refine Qab ?_ _)); refine Qax (cs := #[.string t438, .int .i64 t439, .int .i64 t440, .int .i64 0, .int .i64 0, .int .i64 0]) ?_ 3 _ rfl; (with_reducible repeat (first | refine Qac ?_ _ | refine Qag ?_ | refine Qab ?_ _)); refine Qax (cs := #[.string t438, .int .i64 t439, .int .i64 0, .int .i64 0, .int .i64 0, .int .i64 0]) ?_ 2 _ rfl; (with_reducible repeat (first | refine Qac ?_ _ | refine Qag ?_ | refine Qab ?_ _)); refine Qax (cs := #[.string t438, .int .i64 0, .int .i64 0, .int .i64 0, .int .i64 0, .int .i64 0]) ?_ 1 _ rfl; (with_reducible repeat (first | refine Qac ?_ _ | refine Qag ?_ | refine Qab ?_ _)); refine Qax (cs := #[.string (⟨#[]⟩ : ByteArray), .int .i64 0, .int .i64 0, .int .i64 0, .int .i64 0, .int .i64 0]) ?_ 0 _ rfl; (with_reducible repeat (first | refine Qac ?_ _ | refine Qag ?_ | refine Qab ?_ _)); exact BK445.out⟩
         have n4_ : Aside0 (Below w.heap.size w ((((((w24.setCell ⟨gb445, 0, none⟩ (.string t438)).setCell ⟨gb445, 1, none⟩ (.int .i64 t439)).setCell ⟨gb445, 2, none⟩ (.int .i64 t440)).setCell ⟨gb445, 3, none⟩ (.int .i64 t441)).setCell ⟨gb445, 4, none⟩ (.int .i64 t442)).setCell ⟨gb445, 5, none⟩ (.int .i64 t443))) := ⟨Zc2 GE431.out GE445.out⟩
         (try clear HO_14)
         (try clear HO_15)
         (try clear BK431)
         (try clear BK445)
         (try clear HB)
         generalize ((((((w24.setCell ⟨gb445, 0, none⟩ (.string t438)).setCell ⟨gb445, 1, none⟩ (.int .i64 t439)).setCell ⟨gb445, 2, none⟩ (.int .i64 t440)).setCell ⟨gb445, 3, none⟩ (.int .i64 t441)).setCell ⟨gb445, 4, none⟩ (.int .i64 t442)).setCell ⟨gb445, 5, none⟩ (.int .i64 t443)) = w27 at n0_ n1_ n2_ n3_ n4_ ⊢
         have HO_14 := n0_
         have HO_15 := n1_
         have BK431 := n2_
         have BK445 := n3_
         have HB := n4_
         clear n0_ n1_ n2_ n3_ n4_
         have n0_ := Aside0.mk (Kd.R_drew HO_14.out)
         have n1_ := Aside0.mk (Kd.R_drew HO_15.out)
         have n2_ := Aside0.mk (Qag BK431.out)
         have n3_ := Aside0.mk (Qag BK445.out)
         have n4_ := Aside0.mk (Qae HB.out)
         clear HO_14
         clear HO_15
         clear BK431
         clear BK445
         clear HB
         have HO_14 := n0_
         have HO_15 := n1_
         have BK431 := n2_
         have BK445 := n3_
         have HB := n4_
         clear n0_ n1_ n2_ n3_ n4_
         have p446 : 0 ≤ (x16_2 : Int) := Ze
         have q446 : x16_2 < (t434.length : Int) := Ze
         obtain ⟨ad446, e446, hx446_0, hx446_1, hx446_2, hx446_3⟩ := at_T46 (Kd.R_reads' HO_15.out).2.2 x16_2 p446 q446
         obtain rfl : ad437 = ad446 := (by injection e446)
         replace p446 := eq_true p446
         replace q446 := eq_true q446
         refine start_ (n := 13) (S := fun w' => w'.cell? ⟨gb445, 0, none⟩ = some (.string t438) ∧ w'.cell? ⟨gb445, 1, none⟩ = some (.int .i64 t439) ∧ w'.cell? ⟨gb445, 2, none⟩ = some (.int .i64 t440) ∧ w'.cell? ⟨gb445, 3, none⟩ = some (.int .i64 t441) ∧ w'.cell? ⟨gb445, 4, none⟩ = some (.int .i64 t442) ∧ w'.cell? ⟨gb445, 5, none⟩ = some (.int .i64 t443) ∧ w'.cell? (ad437.add ((x16_2).toNat * 4)) = some (.string ((rd_T46 t434 x16_2).f0.f0)) ∧ w'.cell? ⟨(ad437.add ((x16_2).toNat * 4)).block, (ad437.add ((x16_2).toNat * 4)).off + 1, none⟩ = some (.string ((rd_T46 t434 x16_2).f0.f1)) ∧ w'.cell? ⟨(ad437.add ((x16_2).toNat * 4)).block, (ad437.add ((x16_2).toNat * 4)).off + 2, none⟩ = some (.string ((rd_T46 t434 x16_2).f1)) ∧ w'.cell? ⟨(ad437.add ((x16_2).toNat * 4)).block, (ad437.add ((x16_2).toNat * 4)).off + 3, none⟩ = some (.int .i64 ((rd_T46 t434 x16_2).f2))) (ds := []) #[false, false, false, false, false, false, false, false, false, false, false, false, false] (by kernel_rfl) rfl rfl ⟨(Qai BK445.out 0).trans rfl, (Qai BK445.out 1).trans rfl, (Qai BK445.out 2).trans rfl, (Qai BK445.out 3).trans rfl, (Qai BK445.out 4).trans rfl, (Qai BK445.out 5).trans rfl, hx446_0, hx446_1, hx446_2, hx446_3⟩ (fun hHeld => ?_); refine Qb3 Qat.tab12 Qat.bits12 (fun HT_ HW_ => ?_)
         generalize w27.drew = w28 at HO_14 HO_15 BK431 BK445 HB hx446_0 hx446_1 hx446_2 hx446_3 hHeld ⊢
         refine pure_ (i := 1) (N := some 61) (v := ?_) (a' := ?_) #[false, true, false, false, false, false, false, false, false, false, false, false, false] rfl rfl (any_of HT_.out (by kernel_rfl)) (fun _ _ _ h => h) (Or.inl ⟨by rfl, ?_⟩) ?_ ?_
         rotate_left
         ·intro w'
          go_simp
          with_reducible rfl
         rotate_left
         ·simp only [Act.put, List.setIfInBounds_toArray, List.set_cons_zero, List.set_cons_succ, i64_w, i32_w]
          rfl
         refine pure_ (i := 2) (N := some 62) (v := ?_) (a' := ?_) #[false, true, true, false, false, false, false, false, false, false, false, false, false] rfl rfl (any_of HT_.out (by kernel_rfl)) (fun _ _ _ h => h) (Or.inl ⟨by rfl, ?_⟩) ?_ ?_
         rotate_left
         ·intro w'
          go_simp
          with_reducible rfl
         rotate_left
         ·simp only [Act.put, List.setIfInBounds_toArray, List.set_cons_zero, List.set_cons_succ, i64_w, i32_w]
          rfl
         refine pure_ (i := 3) (N := some 63) (v := ?_) (a' := ?_) #[false, true, true, true, false, false, false, false, false, false, false, false, false] rfl rfl (any_of HT_.out (by kernel_rfl)) (fun _ _ _ h => h) (Or.inl ⟨by rfl, ?_⟩) ?_ ?_
         rotate_left
         ·intro w'
          go_simp
          with_reducible rfl
         rotate_left
         ·simp only [Act.put, List.setIfInBounds_toArray, List.set_cons_zero, List.set_cons_succ, i64_w, i32_w]
          rfl
         refine pure_ (i := 4) (N := some 64) (v := ?_) (a' := ?_) #[false, true, true, true, true, false, false, false, false, false, false, false, false] rfl rfl (any_of HT_.out (by kernel_rfl)) (fun _ _ _ h => h) (Or.inl ⟨by rfl, ?_⟩) ?_ ?_
         rotate_left
         ·intro w'
          go_simp
          with_reducible rfl
         rotate_left
         ·simp only [Act.put, List.setIfInBounds_toArray, List.set_cons_zero, List.set_cons_succ, i64_w, i32_w]
          rfl
         refine pure_ (i := 6) (N := some 66) (v := ?_) (a' := ?_) #[false, true, true, true, true, false, true, false, false, false, false, false, false] rfl rfl (any_of HT_.out (by kernel_rfl)) (fun _ _ _ h => h) (Or.inl ⟨by rfl, ?_⟩) ?_ ?_
         rotate_left
         ·intro w'
          go_simp
          with_reducible rfl
         rotate_left
         ·simp only [Act.put, List.setIfInBounds_toArray, List.set_cons_zero, List.set_cons_succ, i64_w, i32_w]
          rfl
         refine take_ (i := 0) (N := some 60) (v := ?_) (a' := ?_) #[true, true, true, true, true, false, true, false, false, false, false, false, false] rfl rfl (QbT HT_.out HW_.out (by kernel_rfl)) (fun _ _ _ h => h) (Or.inl ⟨by rfl, ?_⟩) hHeld ?_ ?_
         rotate_left
         ·rintro w' ⟨s0, s1, s2, s3, s4, s5, s6, s7, s8, s9⟩
          go_simp
          with_reducible rfl
         rotate_left
         ·simp only [Act.put, List.setIfInBounds_toArray, List.set_cons_zero, List.set_cons_succ, i64_w, i32_w]
          rfl
         refine take_ (i := 5) (N := some 65) (v := ?_) (a' := ?_) #[true, true, true, true, true, true, true, false, false, false, false, false, false] rfl rfl (QbT HT_.out HW_.out (by kernel_rfl)) (fun _ _ _ h => h) (Or.inl ⟨by rfl, ?_⟩) hHeld ?_ ?_
         rotate_left
         ·rintro w' ⟨s0, s1, s2, s3, s4, s5, s6, s7, s8, s9⟩
          go_simp
          with_reducible rfl
         rotate_left
         ·simp only [Act.put, List.setIfInBounds_toArray, List.set_cons_zero, List.set_cons_succ, i64_w, i32_w]
          rfl
         refine one_ (i := 7) (N := some 67) #[true, true, true, true, true, true, true, true, false, false, false, false, false] rfl rfl (one_of HT_.out (by kernel_rfl)) (by decide) (fun K hK => ?_)
         refine goes_ Try.func42 (by kernel_rfl) rfl #[.agg #[.string t438, .int .i64 t439, .int .i64 t440, .int .i64 t441, .int .i64 t442, .int .i64 t443], .int .i64 ((rd_T46 t434 x16_2).f2), .slice A4 l4.length c4] (by rfl) rfl rfl (Zl) ?_
         with_reducible refine (Qa3.calls k2 t438 t439 t440 t441 t442 t443 ((rd_T46 t434 x16_2).f2) _ _ l4 t447 t448 _ ?side1 ?side2 A21.out).mono ?_
         (case side1 => exact Zv (Kd.C_below HR4.out HB.out))
         (case side2 => exact HC4.out)
         rintro e w29 ⟨rfl, hb⟩
         have HS6_ := (hb.cell (World.block_lt_of_cell? _ _ (hHeld.2.2.2.2.2.2.1))).trans (hHeld.2.2.2.2.2.2.1)
         have HS7_ := (hb.cell (World.block_lt_of_cell? _ _ (hHeld.2.2.2.2.2.2.2.1))).trans (hHeld.2.2.2.2.2.2.2.1)
         have HS8_ := (hb.cell (World.block_lt_of_cell? _ _ (hHeld.2.2.2.2.2.2.2.2.1))).trans (hHeld.2.2.2.2.2.2.2.2.1)
         have HS9_ := (hb.cell (World.block_lt_of_cell? _ _ (hHeld.2.2.2.2.2.2.2.2.2))).trans (hHeld.2.2.2.2.2.2.2.2.2)
         refine ⟨_, rfl, ?_⟩
         have n0_ := Aside0.mk (Kd.R_below (Zr HO_14.out) hb)
         have n1_ := Aside0.mk (Kd.R_below (Zr HO_15.out) hb)
         have n2_ := Aside0.mk (Qan (g := gb431) (o := .cells #[.string a1_0, .string a1_1] 44 (0, 0)) (Zu BK431.out) hb)
         have n3_ := Aside0.mk (Qan (g := gb445) (o := .cells #[.string t438, .int .i64 t439, .int .i64 t440, .int .i64 t441, .int .i64 t442, .int .i64 t443] 84 (0, 0)) (Zu BK445.out) hb)
         have n4_ := Aside0.mk (Qao (Zc2 GE431.out GE445.out) hb)
         clear HO_14
         clear HO_15
         clear BK431
         clear BK445
         clear HB
         have HO_14 := n0_
         have HO_15 := n1_
         have BK431 := n2_
         have BK445 := n3_
         have HB := n4_
         clear n0_ n1_ n2_ n3_ n4_
         (try clear hb)
         (try clear hb2)
         (try clear hk)
         (try clear hi)
         refine hK.out _ _ ⟨(Qai BK445.out 0).trans rfl, (Qai BK445.out 1).trans rfl, (Qai BK445.out 2).trans rfl, (Qai BK445.out 3).trans rfl, (Qai BK445.out 4).trans rfl, (Qai BK445.out 5).trans rfl, HS6_, HS7_, HS8_, HS9_⟩ (fun hHeld => ?_)
         clear hK K
         refine norm_ (a' := ?_) ?_ ?_
         rotate_left
         ·show Act.put _ (some 67) _ = _
          simp only [Act.put, List.setIfInBounds_toArray, List.set_cons_zero, List.set_cons_succ, i64_w, i32_w]
          rfl
         refine pure_ (i := 8) (N := some 59) (v := ?_) (a' := ?_) #[true, true, true, true, true, true, true, true, true, false, false, false, false] rfl rfl (any_of HT_.out (by kernel_rfl)) (fun _ _ _ h => h) (Or.inl ⟨by rfl, ?_⟩) ?_ ?_
         rotate_left
         ·intro w'
          go_simp
          with_reducible rfl
         rotate_left
         ·simp only [Act.put, List.setIfInBounds_toArray, List.set_cons_zero, List.set_cons_succ, i64_w, i32_w]
          rfl
         refine pure_ (i := 9) (N := some 68) (v := ?_) (a' := ?_) #[true, true, true, true, true, true, true, true, true, true, false, false, false] rfl rfl (any_of HT_.out (by kernel_rfl)) (fun _ _ _ h => h) (Or.inl ⟨by rfl, ?_⟩) ?_ ?_
         rotate_left
         ·intro w'
          go_simp
          with_reducible rfl
         rotate_left
         ·simp only [Act.put, List.setIfInBounds_toArray, List.set_cons_zero, List.set_cons_succ, i64_w, i32_w]
          rfl
         refine pure_ (i := 10) (N := some 69) (v := ?_) (a' := ?_) #[true, true, true, true, true, true, true, true, true, true, true, false, false] rfl rfl (any_of HT_.out (by kernel_rfl)) (fun _ _ _ h => h) (Or.inl ⟨by rfl, ?_⟩) ?_ ?_
         rotate_left
         ·intro w'
          go_simp
          with_reducible rfl
         rotate_left
         ·simp only [Act.put, List.setIfInBounds_toArray, List.set_cons_zero, List.set_cons_succ, i64_w, i32_w]
          rfl
         refine pure_ (i := 11) (N := some 19) (v := ?_) (a' := ?_) #[true, true, true, true, true, true, true, true, true, true, true, true, false] rfl rfl (any_of HT_.out (by kernel_rfl)) (fun _ _ _ h => h) (Or.inl ⟨by rfl, ?_⟩) ?_ ?_
         rotate_left
         ·intro w'
          go_simp
          with_reducible rfl
         rotate_left
         ·simp only [Act.put, List.setIfInBounds_toArray, List.set_cons_zero, List.set_cons_succ, i64_w, i32_w]
          rfl
         refine pure_ (i := 12) (N := some 20) (v := ?_) (a' := ?_) #[true, true, true, true, true, true, true, true, true, true, true, true, true] rfl rfl (any_of HT_.out (by kernel_rfl)) (fun _ _ _ h => h) (Or.inl ⟨by rfl, ?_⟩) ?_ ?_
         rotate_left
         ·intro w'
          go_simp
          with_reducible rfl
         rotate_left
         ·simp only [Act.put, List.setIfInBounds_toArray, List.set_cons_zero, List.set_cons_succ, i64_w, i32_w]
          rfl
         refine done_ (Qcf HT_.out (by kernel_rfl)) ?_
         have hcz30_0 : w29.cell? ⟨gb445, 0, none⟩ = some (.string t438) := (Qai BK445.out 0).trans rfl
         have hcz30_1 : w29.cell? ⟨gb445, 1, none⟩ = some (.int .i64 t439) := (Qai BK445.out 1).trans rfl
         have hcz30_2 : w29.cell? ⟨gb445, 2, none⟩ = some (.int .i64 t440) := (Qai BK445.out 2).trans rfl
         have hcz30_3 : w29.cell? ⟨gb445, 3, none⟩ = some (.int .i64 t441) := (Qai BK445.out 3).trans rfl
         have hcz30_4 : w29.cell? ⟨gb445, 4, none⟩ = some (.int .i64 t442) := (Qai BK445.out 4).trans rfl
         have hcz30_5 : w29.cell? ⟨gb445, 5, none⟩ = some (.int .i64 t443) := (Qai BK445.out 5).trans rfl
         have hfz30_0 := Qah BK445.out 0
         have hfz30_1 := Qah BK445.out 1
         have hfz30_2 := Qah BK445.out 2
         have hfz30_3 := Qah BK445.out 3
         have hfz30_4 := Qah BK445.out 4
         have hfz30_5 := Qah BK445.out 5
         go_upto_if 79 with (first | ((with_reducible refine Qaw (f := 58) rfl ?_); refine goesL_ (some 74) rfl rfl Try.func58 (by kernel_rfl) rfl #[.int .i64 a2, .int .i64 t443, .int .i64 1000, .int .i64 3] rfl (Zl) ?_; (with_reducible refine (Qa5.calls a2 t443 1000 3 t449 t450 _ A22.out).mono ?_); rintro e w31 ⟨rfl, hb⟩; refine ⟨_, rfl, ?_⟩; have n0_ := Aside0.mk (Kd.R_below (Zr HO_14.out) hb); have n1_ := Aside0.mk (Kd.R_below (Zr HO_15.out) hb); have n2_ := Aside0.mk (Qan (g := gb431) (o := .cells #[.string a1_0, .string a1_1] 44 (0, 0)) (Zu BK431.out) hb); have n3_ := Aside0.mk (Qan (g := gb445) (o := .cells #[.string t438, .int .i64 t439, .int .i64 t440, .int .i64 t441, .int .i64 t442, .int .i64 t443] 84 (0, 0)) (Zu BK445.out) hb); have n4_ := Aside0.mk (Qao (Zc2 GE431.out GE445.out) hb); clear HO_14; clear HO_15; clear BK431; clear BK445; clear HB; have HO_14 := n0_; have HO_15 := n1_; have BK431 := n2_; have BK445 := n3_; have HB := n4_; clear n0_ n1_ n2_ n3_ n4_; (try clear hb); (try clear hb2); (try clear hk); (try clear hi)))
         (try simp only [Act.put, List.setIfInBounds_toArray, List.set_cons_zero, List.set_cons_succ])
         by_cases c32 : t447 > t449
         ·rw [if_pos c32] at H
          have c32b0 : decide (t449 < t447) = true := decide_eq_true c32
          clear c32
          (try simp only [c32b0])
          by_cases c33 : x14_2.length < 17592186044416
          ·rw [if_pos c33] at H
           have LMc33 := Aside0.mk c33
           clear c33
           obtain ⟨y451, hy451⟩ : ∃ y_ : List Int, y_ = (x14_2 ++ [t449]) := ⟨_, rfl⟩
           replace H : (Qat.l0 k2 a2 l3 l4 y451 t434 (wrap64 (x16_2 + 1))) = some (r1, r2) := by first | (rw [hy451]; with_reducible exact H) | (have H2_ := (Option.bind_some _ _).symm.trans H; rw [hy451]; with_reducible exact H2_) | (have H2_ := (Option.bind_some _ _).symm.trans H; with_reducible exact H2_) | with_reducible exact H | (rw [hy451]; exact H) | exact H
           have Ny451 := Aside0.mk hy451
           clear hy451
           have H' := Aside0.mk H
           clear H
           go_wp2_with (first | ((with_reducible refine QbP (b := .append) (xs := #[.tmp 81, .tmp 83]) rfl ?_); at_builtin; refine Kd.R_append (Kd.int .i64) (w0 := w) w.heap.size rfl (.tmp 81) (.tmp 83) 63 3 (.int .i64 0) 8 rfl Try.underlying63 info3 rfl (by decide) (by omega) u14 x14_2 t449 [.int .i64 t449] (fun _ => True) (fun _ => False) rfl rfl ?aP (fun _ hk => hk.elim) ?aF ?aO ?aB ?aS ?aL ?_; (case aP => exact rfl); (case aB => exact (Zc2 GE431.out GE445.out)); (case aF => exact (fun _ _ => trivial)); (case aO => exact (Zr HO_14.out)); (case aS => exact (Qam (Zc2 GE431.out GE445.out))); (case aL => have := LMc33.out; omega); intro v452 w34 ho hb hg hat; rw [← Ny451.out] at ho; have n0_ := Aside0.mk (Kd.R_over' (Zr HO_15.out) (Kd.R_typed (Zr HO_14.out)) (by decide) hg); have n1_ := Aside0.mk (Qa9 (g := gb431) (o := .cells #[.string a1_0, .string a1_1] 44 (0, 0)) (Zu BK431.out) hg (Kd.R_ne HO_14.out BK431.out (by decide))); have n2_ := Aside0.mk (Qa9 (g := gb445) (o := .cells #[.string t438, .int .i64 t439, .int .i64 t440, .int .i64 t441, .int .i64 t442, .int .i64 t443] 84 (0, 0)) (Zu BK445.out) hg (Kd.R_ne HO_14.out BK445.out (by decide))); have n3_ := Aside0.mk (hb); have n4_ := Aside0.mk (ho); clear HO_15; clear BK431; clear BK445; clear HB; clear HO_14; have HO_15 := n0_; have BK431 := n1_; have BK445 := n2_; have HB := n3_; have HO453 := n4_; clear n0_ n1_ n2_ n3_ n4_; clear ho hb hg hat))
           go_roundg k2
           case measure => have := HJ10.out; have := HK2.out; omega
           case rel => exact ⟨(y451), (wrap64 (x16_2 + 1)), (Zs), H', ⟨by have := HJ10.out; have := HK2.out; omega⟩, ⟨Zr HO453.out⟩, ⟨Zr HO_15.out⟩, ⟨Zu BK431.out⟩, ⟨Zc2 GE431.out GE445.out⟩⟩
          ·rw [if_neg c33] at H
           exact absurd H (by simp)
         ·rw [if_neg c32] at H
          have c32b0 : decide (t449 < t447) = false := decide_eq_false c32
          clear c32
          (try simp only [c32b0])
          by_cases c35 : x14_2.length < 17592186044416
          ·rw [if_pos c35] at H
           have LMc35 := Aside0.mk c35
           clear c35
           obtain ⟨y454, hy454⟩ : ∃ y_ : List Int, y_ = (x14_2 ++ [t447]) := ⟨_, rfl⟩
           replace H : (Qat.l0 k2 a2 l3 l4 y454 t434 (wrap64 (x16_2 + 1))) = some (r1, r2) := by first | (rw [hy454]; with_reducible exact H) | (have H2_ := (Option.bind_some _ _).symm.trans H; rw [hy454]; with_reducible exact H2_) | (have H2_ := (Option.bind_some _ _).symm.trans H; with_reducible exact H2_) | with_reducible exact H | (rw [hy454]; exact H) | exact H
           have Ny454 := Aside0.mk hy454
           clear hy454
           have H' := Aside0.mk H
           clear H
           go_wp2_with (first | ((with_reducible refine QbP (b := .append) (xs := #[.tmp 81, .tmp 83]) rfl ?_); at_builtin; refine Kd.R_append (Kd.int .i64) (w0 := w) w.heap.size rfl (.tmp 81) (.tmp 83) 63 3 (.int .i64 0) 8 rfl Try.underlying63 info3 rfl (by decide) (by omega) u14 x14_2 t447 [.int .i64 t447] (fun _ => True) (fun _ => False) rfl rfl ?aP (fun _ hk => hk.elim) ?aF ?aO ?aB ?aS ?aL ?_; (case aP => exact rfl); (case aB => exact (Zc2 GE431.out GE445.out)); (case aF => exact (fun _ _ => trivial)); (case aO => exact (Zr HO_14.out)); (case aS => exact (Qam (Zc2 GE431.out GE445.out))); (case aL => have := LMc35.out; omega); intro v455 w36 ho hb hg hat; rw [← Ny454.out] at ho; have n0_ := Aside0.mk (Kd.R_over' (Zr HO_15.out) (Kd.R_typed (Zr HO_14.out)) (by decide) hg); have n1_ := Aside0.mk (Qa9 (g := gb431) (o := .cells #[.string a1_0, .string a1_1] 44 (0, 0)) (Zu BK431.out) hg (Kd.R_ne HO_14.out BK431.out (by decide))); have n2_ := Aside0.mk (Qa9 (g := gb445) (o := .cells #[.string t438, .int .i64 t439, .int .i64 t440, .int .i64 t441, .int .i64 t442, .int .i64 t443] 84 (0, 0)) (Zu BK445.out) hg (Kd.R_ne HO_14.out BK445.out (by decide))); have n3_ := Aside0.mk (hb); have n4_ := Aside0.mk (ho); clear HO_15; clear BK431; clear BK445; clear HB; clear HO_14; have HO_15 := n0_; have BK431 := n1_; have BK445 := n2_; have HB := n3_; have HO456 := n4_; clear n0_ n1_ n2_ n3_ n4_; clear ho hb hg hat))
           go_roundg k2
           case measure => have := HJ10.out; have := HK2.out; omega
           case rel => exact ⟨(y454), (wrap64 (x16_2 + 1)), (Zs), H', ⟨by have := HJ10.out; have := HK2.out; omega⟩, ⟨Zr HO456.out⟩, ⟨Zr HO_15.out⟩, ⟨Zu BK431.out⟩, ⟨Zc2 GE431.out GE445.out⟩⟩
          ·rw [if_neg c35] at H
           exact absurd H (by simp)
        ·rw [if_neg c19] at H
         exact absurd H (by simp)
       ·rw [if_neg c18] at H
        have c18b0 : decide (x16_2 < (t434.length : Int)) = false := decide_eq_false c18
        clear c18
        (try simp only [c18b0])
        simp only [Option.some.injEq, Prod.mk.injEq] at H
        obtain ⟨rfl, rfl⟩ := H
        go_wp2
        go_ret2
        exact ⟨_, Zq, Zr HO_14.out, Zc1 GE431.out⟩
 ·rw [if_neg c10] at H
  have c10b0 : (t433 == 0) = false := beq_eq_false_iff_ne.mpr c10
  have c10b1 : (t433 != 0) = true := bne_iff_ne.mpr c10
  (try simp only [c10b0, c10b1])
  simp only [Option.some.injEq, Prod.mk.injEq] at H
  obtain ⟨rfl, rfl⟩ := H
  go_wp2
  go_ret2
  exact ⟨_, Zq, by first | exact Kd.R_nil _ _ _ _ _ | exact Kd.N_nil _ _ _ _ _ | exact Kd.V_nil _ _ _ _ _ | exact Kd.Q_nil _ _ _ _ _ | exact Kd.S_nil _ _ _ _ _, Zc1 GE431.out⟩
def Qbi.f (k : Nat) (l0 : List (S46)) (a1_0 : ByteArray) (a1_1 : ByteArray) (a2 : Int) (l3 : List (S84)) (l4 : List (S98)) : Option (Int × Int) := (Qat.f k l0 a1_0 a1_1 a2 l3 l4).bind fun bt458 => (if bt458.2 = 0 then ((QaO.f k bt458.1).bind fun bt462 => (some (bt462.1, bt462.2))) else (some (0, bt458.2)))
theorem Qbi.mono : ∀ a0 a1 a2 a3 a4 a5 k, LeO (Qbi.f k a0 a1 a2 a3 a4 a5) (Qbi.f (k + 1) a0 a1 a2 a3 a4 a5) := by
 intro a0 a1 a2 a3 a4 a5 k
 unfold Qbi.f
 repeat' first
   | (with_reducible exact QaO.mono _ _)
   | (with_reducible exact Qat.mono _ _ _ _ _ _ _)
   | (with_reducible exact LeO.refl _)
   | (with_reducible exact LeO.none _)
   | (with_reducible refine LeO.ite ?_ ?_)
   | (with_reducible refine LeO.bind ?_ (fun _ => ?_))
   | exact QaO.mono _ _
   | exact Qat.mono _ _ _ _ _ _ _
   | exact LeO.none _
   | refine LeO.ite ?_ ?_
   | refine LeO.bind ?_ (fun _ => ?_)
set_option maxHeartbeats 8000000 in
set_option maxRecDepth 100000 in
theorem Qbi.calls (k : Nat) (A0 : Option Addr) (c0 : Nat) (l0 : List (S46)) (a1_0 : ByteArray) (a1_1 : ByteArray) (a2 : Int) (A3 : Option Addr) (c3 : Nat) (l3 : List (S84)) (A4 : Option Addr) (c4 : Nat) (l4 : List (S98)) (r1 : Int) (r2 : Int) (w : World) (hr0 : Kd.C k46 w A0 l0.length l0) (hc0 : l0.length ≤ c0) (hr3 : Kd.C k84 w A3 l3.length l3) (hc3 : l3.length ≤ c3) (hr4 : Kd.C k98 w A4 l4.length l4) (hc4 : l4.length ≤ c4) (h : Qbi.f k l0 a1_0 a1_1 a2 l3 l4 = some (r1, r2)) :
  Calls Try.prog 31 #[.slice A0 l0.length c0, .agg #[.string a1_0, .string a1_1], .int .i64 a2, .slice A3 l3.length c3, .slice A4 l4.length c4] w fun e w' => e = .returned (.tuple #[.int .i64 r1, .int .i64 r2]) ∧ Below w.heap.size w w' := by
 have hu44 := Try.underlying44
 have HR0 := Aside0.mk hr0
 have HC0 := Aside0.mk hc0
 clear hr0 hc0
 have HR3 := Aside0.mk hr3
 have HC3 := Aside0.mk hc3
 clear hr3 hc3
 have HR4 := Aside0.mk hr4
 have HC4 := Aside0.mk hc4
 clear hr4 hc4
 have HB := Aside0.mk (Below.refl w.heap.size w)
 have H : ((Qat.f k l0 a1_0 a1_1 a2 l3 l4).bind fun bt458 => (if bt458.2 = 0 then ((QaO.f k bt458.1).bind fun bt462 => (some (bt462.1, bt462.2))) else (some (0, bt458.2)))) = some (r1, r2) := h
 clear h
 replace H := Option.bind_eq_some_iff.mp H
 obtain ⟨⟨t458, t461⟩, A60, H⟩ := H
 replace H : (if t461 = 0 then ((QaO.f k t458).bind fun bt462 => (some (bt462.1, bt462.2))) else (some (0, t461))) = some (r1, r2) := H
 have A6 := Aside0.mk A60
 clear A60
 go_enter Try.func31, Try.ntmps31
 go_upto_if 24 with (first | ((with_reducible refine QaW (N := 6) rfl ?_); refine Qa2 ?hg (N := 6) ?hd (cs := #[.string a1_0, .string a1_1]) (t := 44) ?hr ?_; (case hd => rfl); (case hg => rfl); (case hr => first | (go_simp; done) | (go_simp; rfl)); intro gb457 hg w7 hbox hb; have n0_ := Aside0.mk (Qao (Zb) hb); have n1_ := Aside0.mk (hbox); have n2_ := Aside0.mk ((by rw [hg]; exact (Qam (Zb)) : w.heap.size ≤ gb457)); have n3_ := Aside0.mk ((by rw [hg]; exact (Qam (Zb)) : w.heap.size ≤ gb457)); clear HB; have HB := n0_; have BK457 := n1_; have GW457 := n2_; have GE457 := n3_; clear n0_ n1_ n2_ n3_; clear hb hbox hg; have hcz8_0 : w7.cell? ⟨gb457, 0, none⟩ = some (.string a1_0) := (Qai BK457.out 0).trans rfl; have hcz8_1 : w7.cell? ⟨gb457, 1, none⟩ = some (.string a1_1) := (Qai BK457.out 1).trans rfl; have hfz8_0 := Qah BK457.out 0; have hfz8_1 := Qah BK457.out 1) | ((with_reducible refine Qaw (f := 29) rfl ?_); refine goesL_ (some 20) rfl rfl Try.func29 (by kernel_rfl) rfl #[.slice A0 l0.length c0, .agg #[.string a1_0, .string a1_1], .int .i64 a2, .slice A3 l3.length c3, .slice A4 l4.length c4] rfl (Zl) ?_; (with_reducible refine (Qat.calls k _ _ l0 a1_0 a1_1 a2 _ _ l3 _ _ l4 t458 t461 _ ?side1 ?side2 ?side3 ?side4 ?side5 ?side6 A6.out).mono ?_); (case side1 => exact Zv (Kd.C_below HR0.out HB.out)); (case side2 => exact HC0.out); (case side3 => exact Zv (Kd.C_below HR3.out HB.out)); (case side4 => exact HC3.out); (case side5 => exact Zv (Kd.C_below HR4.out HB.out)); (case side6 => exact HC4.out); rintro e w9 ⟨v459, rfl, ho0, hb⟩; refine ⟨_, rfl, ?_⟩; have n0_ := Aside0.mk (Kd.R_lower ho0 (Qam (Zc1 GE457.out))); have n1_ := Aside0.mk (Qan (g := gb457) (o := .cells #[.string a1_0, .string a1_1] 44 (0, 0)) (Zu BK457.out) hb); have n2_ := Aside0.mk (Qao (Zc1 GE457.out) hb); clear BK457; clear HB; have HO460 := n0_; have BK457 := n1_; have HB := n2_; clear n0_ n1_ n2_; (try clear hb); (try clear hb2); (try clear hk); (try clear hi); (try clear ho0)))
 (try simp only [Act.put, List.setIfInBounds_toArray, List.set_cons_zero, List.set_cons_succ])
 by_cases c10 : t461 = 0
 ·rw [if_pos c10] at H
  have c10b0 : (t461 == 0) = true := beq_iff_eq.mpr c10
  have c10b1 : (t461 != 0) = false := bne_eq_false_iff_eq.mpr c10
  clear c10
  (try simp only [c10b0, c10b1])
  replace H := Option.bind_eq_some_iff.mp H
  obtain ⟨⟨t462, t463⟩, A110, H⟩ := H
  replace H : (some (t462, t463)) = some (r1, r2) := H
  have A11 := Aside0.mk A110
  clear A110
  simp only [Option.some.injEq, Prod.mk.injEq] at H
  obtain ⟨rfl, rfl⟩ := H
  obtain ⟨Ao12, co12, eo12⟩ := Kd.R_slice HO460.out
  subst eo12
  go_wp2_with (first | ((with_reducible refine Qaw (f := 60) rfl ?_); refine goesL_ (some 27) rfl rfl Try.func60 (by kernel_rfl) rfl #[.slice Ao12 t458.length co12] rfl (Zl) ?_; (with_reducible refine (QaO.calls k _ _ t458 t462 t463 _ ?side1 ?side2 A11.out).mono ?_); (case side1 => repeat (first | exact (Kd.R_reads' HO460.out).2.2 | (with_reducible refine Kd.C_alloc ?_ _) | (with_reducible refine Kd.C_drewN ?_ _) | (with_reducible refine Kd.C_drew ?_))); (case side2 => exact (Kd.R_reads' HO460.out).2.1); rintro e w' ⟨rfl, ⟨nd, rfl⟩⟩; refine ⟨_, rfl, ?_⟩))
  go_ret2
  exact ⟨Zq, Zc1 GE457.out⟩
 ·rw [if_neg c10] at H
  have c10b0 : (t461 == 0) = false := beq_eq_false_iff_ne.mpr c10
  have c10b1 : (t461 != 0) = true := bne_iff_ne.mpr c10
  (try simp only [c10b0, c10b1])
  simp only [Option.some.injEq, Prod.mk.injEq] at H
  obtain ⟨rfl, rfl⟩ := H
  go_wp2
  go_ret2
  exact ⟨Zq, Zc1 GE457.out⟩
mutual
def QaE.l0 : Nat → List (S48) → List (S46) → List (S84) → List (S98) → List (S100) → Int → Option ((List (S100)) × Int)
 | 0, _, _, _, _, _, _ => none
 | k + 1, x0, x1, x2, x3, x10, x11 => if x11 < (x0.length : Int) then (if 0 ≤ x11 then (if ((rd_T48 x0 x11).f7) < 0 then (QaE.j1 k x0 x1 x2 x3 x10 x11 ((rd_T48 x0 x11).f7) true) else (QaE.j1 k x0 x1 x2 x3 x10 x11 ((rd_T48 x0 x11).f7) (decide (((rd_T48 x0 x11).f7) > 1152921504606846976)))) else (none)) else (some (x10, 0))
def QaE.j1 : Nat → List (S48) → List (S46) → List (S84) → List (S98) → List (S100) → Int → Int → Bool → Option ((List (S100)) × Int)
 | 0, _, _, _, _, _, _, _, _ => none
 | k + 1, x0, x1, x2, x3, x10, x11, x12, x36 => if x36 = true then (some (([] : List (S100)), 2)) else (if 0 ≤ x11 then (if x11 < (x0.length : Int) then ((Qbi.f k x1 ((rd_T48 x0 x11).f0.f0) ((rd_T48 x0 x11).f0.f1) x12 x2 x3).bind fun bt466 => (if bt466.2 = 0 then ((QbI.f x12 bt466.1).bind fun bt468 => (if bt468.2 = 0 then (if x10.length < 2513169434916 then (QaE.l0 k x0 x1 x2 x3 (x10 ++ [(⟨(⟨(rd_T48 x0 x11).f0.f0, (rd_T48 x0 x11).f0.f1⟩ : S44), x12, bt466.1, bt468.1⟩ : S100)]) (wrap64 (x11 + 1))) else (none)) else (some (([] : List (S100)), bt468.2)))) else (some (([] : List (S100)), bt466.2)))) else (none)) else (none))
end
def QaE.f (k : Nat) (l0 : List (S48)) (l1 : List (S46)) (l2 : List (S84)) (l3 : List (S98)) : Option ((List (S100)) × Int) := if (l0.length : Int) > 1024 then (some (([] : List (S100)), 8)) else (QaE.l0 k l0 l1 l2 l3 ([] : List (S100)) 0)
theorem QaE.mono_l : ∀ k, (∀ y0 y1 y2 y3 y4 y5, LeO (QaE.l0 k y0 y1 y2 y3 y4 y5) (QaE.l0 (k + 1) y0 y1 y2 y3 y4 y5)) ∧ (∀ y0 y1 y2 y3 y4 y5 y6 y7, LeO (QaE.j1 k y0 y1 y2 y3 y4 y5 y6 y7) (QaE.j1 (k + 1) y0 y1 y2 y3 y4 y5 y6 y7))
 | 0 => ⟨fun _ _ _ _ _ _ r h => by simp [QaE.l0] at h, fun _ _ _ _ _ _ _ _ r h => by simp [QaE.j1] at h⟩
 | k + 1 => by
  obtain ⟨ih0, ih1⟩ := QaE.mono_l k
  refine ⟨?_, ?_⟩
  ·intro y0 y1 y2 y3 y4 y5
   unfold QaE.l0
   repeat' first
   | (with_reducible exact ih0 _ _ _ _ _ _)
   | (with_reducible exact ih1 _ _ _ _ _ _ _ _)
   | (with_reducible exact Qbi.mono _ _ _ _ _ _ _)
   | (with_reducible exact LeO.refl _)
   | (with_reducible exact LeO.none _)
   | (with_reducible refine LeO.ite ?_ ?_)
   | (with_reducible refine LeO.bind ?_ (fun _ => ?_))
   | exact ih0 _ _ _ _ _ _
   | exact ih1 _ _ _ _ _ _ _ _
   | exact Qbi.mono _ _ _ _ _ _ _
   | exact LeO.none _
   | refine LeO.ite ?_ ?_
   | refine LeO.bind ?_ (fun _ => ?_)
  ·intro y0 y1 y2 y3 y4 y5 y6 y7
   unfold QaE.j1
   repeat' first
   | (with_reducible exact ih0 _ _ _ _ _ _)
   | (with_reducible exact ih1 _ _ _ _ _ _ _ _)
   | (with_reducible exact Qbi.mono _ _ _ _ _ _ _)
   | (with_reducible exact LeO.refl _)
   | (with_reducible exact LeO.none _)
   | (with_reducible refine LeO.ite ?_ ?_)
   | (with_reducible refine LeO.bind ?_ (fun _ => ?_))
   | exact ih0 _ _ _ _ _ _
   | exact ih1 _ _ _ _ _ _ _ _
   | exact Qbi.mono _ _ _ _ _ _ _
   | exact LeO.none _
   | refine LeO.ite ?_ ?_
   | refine LeO.bind ?_ (fun _ => ?_)
theorem QaE.mono : ∀ a0 a1 a2 a3 k, LeO (QaE.f k a0 a1 a2 a3) (QaE.f (k + 1) a0 a1 a2 a3) := by
 intro a0 a1 a2 a3 k
 obtain ⟨ih0, ih1⟩ := QaE.mono_l k
 unfold QaE.f
 repeat' first
   | (with_reducible exact ih0 _ _ _ _ _ _)
   | (with_reducible exact ih1 _ _ _ _ _ _ _ _)
   | (with_reducible exact Qbi.mono _ _ _ _ _ _ _)
   | (with_reducible exact LeO.refl _)
   | (with_reducible exact LeO.none _)
   | (with_reducible refine LeO.ite ?_ ?_)
   | (with_reducible refine LeO.bind ?_ (fun _ => ?_))
   | exact ih0 _ _ _ _ _ _
   | exact ih1 _ _ _ _ _ _ _ _
   | exact Qbi.mono _ _ _ _ _ _ _
   | exact LeO.none _
   | refine LeO.ite ?_ ?_
   | refine LeO.bind ?_ (fun _ => ?_)
set_option maxHeartbeats 8000000 in
set_option maxRecDepth 100000 in
theorem QaE.calls (k : Nat) (A0 : Option Addr) (c0 : Nat) (l0 : List (S48)) (A1 : Option Addr) (c1 : Nat) (l1 : List (S46)) (A2 : Option Addr) (c2 : Nat) (l2 : List (S84)) (A3 : Option Addr) (c3 : Nat) (l3 : List (S98)) (r1 : List (S100)) (r2 : Int) (w : World) (hr0 : Kd.C k48 w A0 l0.length l0) (hc0 : l0.length ≤ c0) (hr1 : Kd.C k46 w A1 l1.length l1) (hc1 : l1.length ≤ c1) (hr2 : Kd.C k84 w A2 l2.length l2) (hc2 : l2.length ≤ c2) (hr3 : Kd.C k98 w A3 l3.length l3) (hc3 : l3.length ≤ c3) (h : QaE.f k l0 l1 l2 l3 = some (r1, r2)) :
  Calls Try.prog 19 #[.slice A0 l0.length c0, .slice A1 l1.length c1, .slice A2 l2.length c2, .slice A3 l3.length c3] w fun e w' => ∃ v0_ : Value, e = .returned (.tuple #[v0_, .int .i64 r2]) ∧ Kd.R k100 100 w' w.heap.size (fun _ => True) v0_ r1 ∧ Below w.heap.size w w' := by
 have hu44 := Try.underlying44
 have hu100 := Try.underlying100
 have HR0 := Aside0.mk hr0
 have HC0 := Aside0.mk hc0
 clear hr0 hc0
 have HR1 := Aside0.mk hr1
 have HC1 := Aside0.mk hc1
 clear hr1 hc1
 have HR2 := Aside0.mk hr2
 have HC2 := Aside0.mk hc2
 clear hr2 hc2
 have HR3 := Aside0.mk hr3
 have HC3 := Aside0.mk hc3
 clear hr3 hc3
 have HB := Aside0.mk (Below.refl w.heap.size w)
 have H : (if (l0.length : Int) > 1024 then (some (([] : List (S100)), 8)) else (QaE.l0 k l0 l1 l2 l3 ([] : List (S100)) 0)) = some (r1, r2) := h
 clear h
 by_cases c5 : (l0.length : Int) > 1024
 ·rw [if_pos c5] at H
  have c5b0 : decide (1024 < (l0.length : Int)) = true := decide_eq_true c5
  have c5b1 : decide (1024 < l0.length) = true := decide_eq_true (by omega)
  clear c5
  simp only [Option.some.injEq, Prod.mk.injEq] at H
  obtain ⟨rfl, rfl⟩ := H
  go_enter Try.func19, Try.ntmps19
  go_wp2
  go_ret2
  exact ⟨_, Zq, by first | exact Kd.R_nil _ _ _ _ _ | exact Kd.N_nil _ _ _ _ _ | exact Kd.V_nil _ _ _ _ _ | exact Kd.Q_nil _ _ _ _ _ | exact Kd.S_nil _ _ _ _ _, Zb⟩
 ·rw [if_neg c5] at H
  have c5b0 : decide (1024 < (l0.length : Int)) = false := decide_eq_false c5
  have c5b1 : decide (1024 < l0.length) = false := decide_eq_false (by omega)
  clear c5
  have H' := Aside0.mk H
  clear H
  go_enter Try.func19, Try.ntmps19
  go_wp2
  go_loopg [10, 11] k (fun kq v10 v11 w' => ∃ (x10_1 : List (S100)) (x11_1 : Int), v11 = .int .i64 x11_1 ∧ Aside0 (QaE.l0 kq l0 l1 l2 l3 x10_1 x11_1 = some (r1, r2)) ∧ Aside0 (kq ≤ k) ∧ Aside0 (Kd.R k100 100 w' w.heap.size (fun _ => True) v10 x10_1) ∧ Aside0 (Below w.heap.size w w'))
  case atStart => exact ⟨(([] : List (S100))), (0), (Zs), H', ⟨Nat.le_refl _⟩, ⟨by first | exact Kd.R_nil _ _ _ _ _ | exact Kd.N_nil _ _ _ _ _ | exact Kd.V_nil _ _ _ _ _ | exact Kd.Q_nil _ _ _ _ _ | exact Kd.S_nil _ _ _ _ _⟩, ⟨Zb⟩⟩
  case round =>
   clear H'
   try clear c1
   try clear c2
   try clear p2
   try clear c3
   try clear c5
   try clear c5b0
   try clear c5b1
   obtain ⟨x10_1, x11_1, rfl, HA, HK1, HO_10, HB⟩ := hrel
   cases gk with
   | zero => exact absurd HA.out (by simp [QaE.l0])
   | succ k1 =>
    have H := HA.out
    clear HA
    simp only [QaE.l0] at H
    by_cases c6 : x11_1 < (l0.length : Int)
    ·rw [if_pos c6] at H
     have c6b0 : decide (x11_1 < (l0.length : Int)) = true := decide_eq_true c6
     clear c6
     (try simp only [c6b0])
     by_cases c7 : 0 ≤ x11_1
     ·rw [if_pos c7] at H
      have c7b0 : decide (0 ≤ x11_1) = true := decide_eq_true c7
      clear c7
      have HC8 := Aside0.mk H
      clear H
      have p464 : 0 ≤ (x11_1 : Int) := Ze
      have q464 : x11_1 < (l0.length : Int) := Ze
      obtain ⟨ad464, e464, hx464_0, hx464_1, hx464_2, hx464_3, hx464_4, hx464_5, hx464_6, hx464_7, hx464_8⟩ := at_T48 HR0.out x11_1 p464 q464
      cases e464
      replace hx464_0 := (HB.out.cell (World.block_lt_of_cell? w _ hx464_0)).trans hx464_0
      replace hx464_1 := (HB.out.cell (World.block_lt_of_cell? w _ hx464_1)).trans hx464_1
      replace hx464_2 := (HB.out.cell (World.block_lt_of_cell? w _ hx464_2)).trans hx464_2
      replace hx464_3 := (HB.out.cell (World.block_lt_of_cell? w _ hx464_3)).trans hx464_3
      replace hx464_4 := (HB.out.cell (World.block_lt_of_cell? w _ hx464_4)).trans hx464_4
      replace hx464_5 := (HB.out.cell (World.block_lt_of_cell? w _ hx464_5)).trans hx464_5
      replace hx464_6 := (HB.out.cell (World.block_lt_of_cell? w _ hx464_6)).trans hx464_6
      replace hx464_7 := (HB.out.cell (World.block_lt_of_cell? w _ hx464_7)).trans hx464_7
      replace hx464_8 := (HB.out.cell (World.block_lt_of_cell? w _ hx464_8)).trans hx464_8
      replace p464 := eq_true p464
      replace q464 := eq_true q464
      go_upto_region 8 with (fail)
      go_cut [36] (fun v36 wc => ∃ (kq : Nat) (x36_7 : Bool), v36 = .bool x36_7 ∧ Aside0 (QaE.j1 kq l0 l1 l2 l3 x10_1 x11_1 ((rd_T48 l0 x11_1).f7) x36_7 = some (r1, r2)) ∧ Aside0 (kq ≤ k1) ∧ Aside0 (Kd.R k100 100 wc w.heap.size (fun _ => True) u10 x10_1) ∧ Aside0 (Below w.heap.size w wc))
      case first =>
       have H := HC8.out
       clear HC8
       by_cases c9 : ((rd_T48 l0 x11_1).f7) < 0
       ·rw [if_pos c9] at H
        have c9b0 : decide (((rd_T48 l0 x11_1).f7) < 0) = true := decide_eq_true c9
        clear c9
        have H' := Aside0.mk H
        clear H
        go_wp2
        go_meet
        case rel => exact ⟨_, (true), (Zs), H', ⟨by have := HK1.out; first | omega | exact Nat.le_refl _⟩, ⟨Zr HO_10.out⟩, ⟨Zb⟩⟩
       ·rw [if_neg c9] at H
        have c9b0 : decide (((rd_T48 l0 x11_1).f7) < 0) = false := decide_eq_false c9
        clear c9
        have H' := Aside0.mk H
        clear H
        go_wp2
        go_meet
        case rel => exact ⟨_, (decide (((rd_T48 l0 x11_1).f7) > 1152921504606846976)), (Zs), H', ⟨by have := HK1.out; first | omega | exact Nat.le_refl _⟩, ⟨Zr HO_10.out⟩, ⟨Zb⟩⟩
      case rest =>
       clear HC8
       try clear c1
       try clear c2
       try clear p2
       try clear c3
       try clear p4
       try clear q4
       try clear hx4
       try clear c5
       try clear c5b0
       try clear c5b1
       try clear c6
       try clear c6b0
       try clear c7
       try clear c7b0
       try clear c9
       try clear c9b0
       try clear hx464_0
       try clear hx464_1
       try clear hx464_2
       try clear hx464_3
       try clear hx464_4
       try clear hx464_5
       try clear hx464_6
       try clear hx464_7
       try clear hx464_8
       try clear p2
       try clear p464
       try clear q464
       obtain ⟨kq, x36_7, rfl, HA, HJ7, HO_10, HB⟩ := hcut
       cases kq with
       | zero => exact absurd HA.out (by simp [QaE.j1])
       | succ kj7 =>
        have H := HA.out
        clear HA
        simp only [QaE.j1] at H
        by_cases c10 : x36_7 = true
        ·subst c10
         have H1 : (some (([] : List (S100)), 2)) = some (r1, r2) := by rw [if_pos rfl] at H; exact H
         clear H
         have H := H1
         clear H1
         simp only [Option.some.injEq, Prod.mk.injEq] at H
         obtain ⟨rfl, rfl⟩ := H
         go_wp2
         go_ret2
         exact ⟨_, Zq, by first | exact Kd.R_nil _ _ _ _ _ | exact Kd.N_nil _ _ _ _ _ | exact Kd.V_nil _ _ _ _ _ | exact Kd.Q_nil _ _ _ _ _ | exact Kd.S_nil _ _ _ _ _, Zb⟩
        ·replace c10 := Bool.eq_false_iff.mpr c10
         subst c10
         have H1 : (if 0 ≤ x11_1 then (if x11_1 < (l0.length : Int) then ((Qbi.f kj7 l1 ((rd_T48 l0 x11_1).f0.f0) ((rd_T48 l0 x11_1).f0.f1) ((rd_T48 l0 x11_1).f7) l2 l3).bind fun bt466 => (if bt466.2 = 0 then ((QbI.f ((rd_T48 l0 x11_1).f7) bt466.1).bind fun bt468 => (if bt468.2 = 0 then (if x10_1.length < 2513169434916 then (QaE.l0 kj7 l0 l1 l2 l3 (x10_1 ++ [(⟨(⟨(rd_T48 l0 x11_1).f0.f0, (rd_T48 l0 x11_1).f0.f1⟩ : S44), ((rd_T48 l0 x11_1).f7), bt466.1, bt468.1⟩ : S100)]) (wrap64 (x11_1 + 1))) else (none)) else (some (([] : List (S100)), bt468.2)))) else (some (([] : List (S100)), bt466.2)))) else (none)) else (none)) = some (r1, r2) := by rw [if_neg (show ¬ (false = true) by decide)] at H; exact H
         clear H
         have H := H1
         clear H1
         by_cases c11 : 0 ≤ x11_1
         ·rw [if_pos c11] at H
          have c11b0 : decide (0 ≤ x11_1) = true := decide_eq_true c11
          clear c11
          (try simp only [c11b0])
          by_cases c12 : x11_1 < (l0.length : Int)
          ·rw [if_pos c12] at H
           have c12b0 : decide (x11_1 < (l0.length : Int)) = true := decide_eq_true c12
           clear c12
           replace H := Option.bind_eq_some_iff.mp H
           obtain ⟨⟨t466, t467⟩, A130, H⟩ := H
           replace H : (if t467 = 0 then ((QbI.f ((rd_T48 l0 x11_1).f7) t466).bind fun bt468 => (if bt468.2 = 0 then (if x10_1.length < 2513169434916 then (QaE.l0 kj7 l0 l1 l2 l3 (x10_1 ++ [(⟨(⟨(rd_T48 l0 x11_1).f0.f0, (rd_T48 l0 x11_1).f0.f1⟩ : S44), ((rd_T48 l0 x11_1).f7), t466, bt468.1⟩ : S100)]) (wrap64 (x11_1 + 1))) else (none)) else (some (([] : List (S100)), bt468.2)))) else (some (([] : List (S100)), t467))) = some (r1, r2) := H
           have A13 := Aside0.mk A130
           clear A130
           have p465 : 0 ≤ (x11_1 : Int) := Ze
           have q465 : x11_1 < (l0.length : Int) := Ze
           obtain ⟨ad465, e465, hx465_0, hx465_1, hx465_2, hx465_3, hx465_4, hx465_5, hx465_6, hx465_7, hx465_8⟩ := at_T48 HR0.out x11_1 p465 q465
           obtain rfl : ad464 = ad465 := (by injection e465)
           replace hx465_0 := (HB.out.cell (World.block_lt_of_cell? w _ hx465_0)).trans hx465_0
           replace hx465_1 := (HB.out.cell (World.block_lt_of_cell? w _ hx465_1)).trans hx465_1
           replace hx465_2 := (HB.out.cell (World.block_lt_of_cell? w _ hx465_2)).trans hx465_2
           replace hx465_3 := (HB.out.cell (World.block_lt_of_cell? w _ hx465_3)).trans hx465_3
           replace hx465_4 := (HB.out.cell (World.block_lt_of_cell? w _ hx465_4)).trans hx465_4
           replace hx465_5 := (HB.out.cell (World.block_lt_of_cell? w _ hx465_5)).trans hx465_5
           replace hx465_6 := (HB.out.cell (World.block_lt_of_cell? w _ hx465_6)).trans hx465_6
           replace hx465_7 := (HB.out.cell (World.block_lt_of_cell? w _ hx465_7)).trans hx465_7
           replace hx465_8 := (HB.out.cell (World.block_lt_of_cell? w _ hx465_8)).trans hx465_8
           replace p465 := eq_true p465
           replace q465 := eq_true q465
           go_upto_if 51 with (first | ((with_reducible refine Qaw (f := 31) rfl ?_); refine goesL_ (some 47) rfl rfl Try.func31 (by kernel_rfl) rfl #[.slice A1 l1.length c1, .agg #[.string ((rd_T48 l0 x11_1).f0.f0), .string ((rd_T48 l0 x11_1).f0.f1)], .int .i64 ((rd_T48 l0 x11_1).f7), .slice A2 l2.length c2, .slice A3 l3.length c3] rfl (Zl) ?_; (with_reducible refine (Qbi.calls kj7 _ _ l1 ((rd_T48 l0 x11_1).f0.f0) ((rd_T48 l0 x11_1).f0.f1) ((rd_T48 l0 x11_1).f7) _ _ l2 _ _ l3 t466 t467 _ ?side1 ?side2 ?side3 ?side4 ?side5 ?side6 A13.out).mono ?_); (case side1 => exact Zv (Kd.C_below HR1.out HB.out)); (case side2 => exact HC1.out); (case side3 => exact Zv (Kd.C_below HR2.out HB.out)); (case side4 => exact HC2.out); (case side5 => exact Zv (Kd.C_below HR3.out HB.out)); (case side6 => exact HC3.out); rintro e w14 ⟨rfl, hb⟩; refine ⟨_, rfl, ?_⟩; have n0_ := Aside0.mk (Kd.R_below (Zr HO_10.out) hb); have n1_ := Aside0.mk (Qao (Zb) hb); clear HO_10; clear HB; have HO_10 := n0_; have HB := n1_; clear n0_ n1_; (try clear hb); (try clear hb2); (try clear hk); (try clear hi)))
           (try simp only [Act.put, List.setIfInBounds_toArray, List.set_cons_zero, List.set_cons_succ])
           by_cases c15 : t467 = 0
           ·rw [if_pos c15] at H
            have c15b0 : (t467 == 0) = true := beq_iff_eq.mpr c15
            have c15b1 : (t467 != 0) = false := bne_eq_false_iff_eq.mpr c15
            clear c15
            (try simp only [c15b0, c15b1])
            replace H := Option.bind_eq_some_iff.mp H
            obtain ⟨⟨t468, t469⟩, A160, H⟩ := H
            replace H : (if t469 = 0 then (if x10_1.length < 2513169434916 then (QaE.l0 kj7 l0 l1 l2 l3 (x10_1 ++ [(⟨(⟨(rd_T48 l0 x11_1).f0.f0, (rd_T48 l0 x11_1).f0.f1⟩ : S44), ((rd_T48 l0 x11_1).f7), t466, t468⟩ : S100)]) (wrap64 (x11_1 + 1))) else (none)) else (some (([] : List (S100)), t469))) = some (r1, r2) := H
            have A16 := Aside0.mk A160
            clear A160
            go_upto_if 60 with (first | ((with_reducible refine Qaw (f := 16) rfl ?_); refine goesL_ (some 56) rfl rfl Try.func16 (by kernel_rfl) rfl #[.int .i64 ((rd_T48 l0 x11_1).f7), .int .i64 t466] rfl (Zl) ?_; (with_reducible refine (QbI.calls ((rd_T48 l0 x11_1).f7) t466 t468 t469 _ A16.out).mono ?_); rintro e w17 ⟨rfl, hb⟩; refine ⟨_, rfl, ?_⟩; have n0_ := Aside0.mk (Kd.R_below (Zr HO_10.out) hb); have n1_ := Aside0.mk (Qao (Zb) hb); clear HO_10; clear HB; have HO_10 := n0_; have HB := n1_; clear n0_ n1_; (try clear hb); (try clear hb2); (try clear hk); (try clear hi)))
            (try simp only [Act.put, List.setIfInBounds_toArray, List.set_cons_zero, List.set_cons_succ])
            by_cases c18 : t469 = 0
            ·rw [if_pos c18] at H
             have c18b0 : (t469 == 0) = true := beq_iff_eq.mpr c18
             have c18b1 : (t469 != 0) = false := bne_eq_false_iff_eq.mpr c18
             clear c18
             (try simp only [c18b0, c18b1])
             by_cases c19 : x10_1.length < 2513169434916
             ·rw [if_pos c19] at H
              have LMc19 := Aside0.mk c19
              clear c19
              obtain ⟨y471, hy471⟩ : ∃ y_ : List (S100), y_ = (x10_1 ++ [(⟨(⟨(rd_T48 l0 x11_1).f0.f0, (rd_T48 l0 x11_1).f0.f1⟩ : S44), ((rd_T48 l0 x11_1).f7), t466, t468⟩ : S100)]) := ⟨_, rfl⟩
              replace H : (QaE.l0 kj7 l0 l1 l2 l3 y471 (wrap64 (x11_1 + 1))) = some (r1, r2) := by first | (rw [hy471]; with_reducible exact H) | (have H2_ := (Option.bind_some _ _).symm.trans H; rw [hy471]; with_reducible exact H2_) | (have H2_ := (Option.bind_some _ _).symm.trans H; with_reducible exact H2_) | with_reducible exact H | (rw [hy471]; exact H) | exact H
              have Ny471 := Aside0.mk hy471
              clear hy471
              have H' := Aside0.mk H
              clear H
              have p470 : 0 ≤ (x11_1 : Int) := Ze
              have q470 : x11_1 < (l0.length : Int) := Ze
              obtain ⟨ad470, e470, hx470_0, hx470_1, hx470_2, hx470_3, hx470_4, hx470_5, hx470_6, hx470_7, hx470_8⟩ := at_T48 HR0.out x11_1 p470 q470
              obtain rfl : ad464 = ad470 := (by injection e470)
              replace hx470_0 := (HB.out.cell (World.block_lt_of_cell? w _ hx470_0)).trans hx470_0
              replace hx470_1 := (HB.out.cell (World.block_lt_of_cell? w _ hx470_1)).trans hx470_1
              replace hx470_2 := (HB.out.cell (World.block_lt_of_cell? w _ hx470_2)).trans hx470_2
              replace hx470_3 := (HB.out.cell (World.block_lt_of_cell? w _ hx470_3)).trans hx470_3
              replace hx470_4 := (HB.out.cell (World.block_lt_of_cell? w _ hx470_4)).trans hx470_4
              replace hx470_5 := (HB.out.cell (World.block_lt_of_cell? w _ hx470_5)).trans hx470_5
              replace hx470_6 := (HB.out.cell (World.block_lt_of_cell? w _ hx470_6)).trans hx470_6
              replace hx470_7 := (HB.out.cell (World.block_lt_of_cell? w _ hx470_7)).trans hx470_7
              replace hx470_8 := (HB.out.cell (World.block_lt_of_cell? w _ hx470_8)).trans hx470_8
              replace p470 := eq_true p470
              replace q470 := eq_true q470
              go_wp2_with (first | ((with_reducible refine QbP (b := .append) (xs := #[.tmp 62, .tmp 72]) rfl ?_); at_builtin; refine Kd.R_append k100 (w0 := w) w.heap.size rfl (.tmp 62) (.tmp 72) 38 100 (.agg #[(.string ⟨#[]⟩), (.string ⟨#[]⟩), (.int .i64 0), (.int .i64 0), (.int .i64 0)]) 56 rfl Try.underlying38 Qgg rfl (by decide) (by omega) u10 x10_1 (⟨(⟨(rd_T48 l0 x11_1).f0.f0, (rd_T48 l0 x11_1).f0.f1⟩ : S44), ((rd_T48 l0 x11_1).f7), t466, t468⟩ : S100) [.string ((rd_T48 l0 x11_1).f0.f0), .string ((rd_T48 l0 x11_1).f0.f1), .int .i64 ((rd_T48 l0 x11_1).f7), .int .i64 t466, .int .i64 t468] (fun _ => True) (fun _ => False) rfl rfl ?aP (fun _ hk => hk.elim) ?aF ?aO ?aB ?aS ?aL ?_; (case aP => exact QfD _ _ _ (⟨(⟨(rd_T48 l0 x11_1).f0.f0, (rd_T48 l0 x11_1).f0.f1⟩ : S44), ((rd_T48 l0 x11_1).f7), t466, t468⟩ : S100)); (case aB => exact (Zb)); (case aF => exact (fun _ _ => trivial)); (case aO => exact (Zr HO_10.out)); (case aS => exact (Qam (Zb))); (case aL => have := LMc19.out; omega); intro v472 w20 ho hb hg hat; rw [← Ny471.out] at ho; have n0_ := Aside0.mk (hb); have n1_ := Aside0.mk (ho); clear HB; clear HO_10; have HB := n0_; have HO473 := n1_; clear n0_ n1_; clear ho hb hg hat))
              go_roundg kj7
              case measure => have := HK1.out; have := HJ7.out; omega
              case rel => exact ⟨(y471), (wrap64 (x11_1 + 1)), (Zs), H', ⟨by have := HK1.out; have := HJ7.out; omega⟩, ⟨Zr HO473.out⟩, ⟨Zb⟩⟩
             ·rw [if_neg c19] at H
              exact absurd H (by simp)
            ·rw [if_neg c18] at H
             have c18b0 : (t469 == 0) = false := beq_eq_false_iff_ne.mpr c18
             have c18b1 : (t469 != 0) = true := bne_iff_ne.mpr c18
             (try simp only [c18b0, c18b1])
             simp only [Option.some.injEq, Prod.mk.injEq] at H
             obtain ⟨rfl, rfl⟩ := H
             go_wp2
             go_ret2
             exact ⟨_, Zq, by first | exact Kd.R_nil _ _ _ _ _ | exact Kd.N_nil _ _ _ _ _ | exact Kd.V_nil _ _ _ _ _ | exact Kd.Q_nil _ _ _ _ _ | exact Kd.S_nil _ _ _ _ _, Zb⟩
           ·rw [if_neg c15] at H
            have c15b0 : (t467 == 0) = false := beq_eq_false_iff_ne.mpr c15
            have c15b1 : (t467 != 0) = true := bne_iff_ne.mpr c15
            (try simp only [c15b0, c15b1])
            simp only [Option.some.injEq, Prod.mk.injEq] at H
            obtain ⟨rfl, rfl⟩ := H
            go_wp2
            go_ret2
            exact ⟨_, Zq, by first | exact Kd.R_nil _ _ _ _ _ | exact Kd.N_nil _ _ _ _ _ | exact Kd.V_nil _ _ _ _ _ | exact Kd.Q_nil _ _ _ _ _ | exact Kd.S_nil _ _ _ _ _, Zb⟩
          ·rw [if_neg c12] at H
           exact absurd H (by simp)
         ·rw [if_neg c11] at H
          exact absurd H (by simp)
     ·rw [if_neg c7] at H
      exact absurd H (by simp)
    ·rw [if_neg c6] at H
     have c6b0 : decide (x11_1 < (l0.length : Int)) = false := decide_eq_false c6
     clear c6
     (try simp only [c6b0])
     simp only [Option.some.injEq, Prod.mk.injEq] at H
     obtain ⟨rfl, rfl⟩ := H
     go_wp2
     go_ret2
     exact ⟨_, Zq, Zr HO_10.out, Zb⟩
end Go.Proofs.Ytfcaaefdmabkhaa.Pr
