/- Functions' values and contracts, as the print wrote them. -/
import Derived.Test.YtfcaaefdmabkhaaQ1A6P0
import Derived.Test.YtfcaaefdmabkhaaQ1A6P1
import Derived.Test.YtfcaaefdmabkhaaQ1A6P2
namespace Go.Proofs.Ytfcaaefdmabkhaa.Pr
open Bool renaming true → T
open Bool renaming false → F
open Go.RowKit Go.Proofs.YtfcaaefdmabkhaaW.PrintWords Go.Proofs.YtfcaaefdmabkhaaW.PrintLast Go.Proofs.YtfcaaefdmabkhaaW.PrintMore
attribute [local go_sem] QaP QaR QaV QaW QaG QaH QaQ QaS   -- for this text's walks alone
set_option linter.unusedVariables false
set_option linter.unusedSimpArgs false
set_option maxRecDepth 100000
set_option maxHeartbeats 8000000
mutual
def Qav.l0 : Nat → List (S46) → List (S46) → Int → Int → Option (Int)
 | 0, _, _, _, _ => none
 | k + 1, x0, x8, x9, x10 => if x10 < x9 then (if 0 ≤ x10 then (if x10 < (x8.length : Int) then ((QaM.f k (([(rd_T46 x8 x10).f0.f0, (rd_T46 x8 x10).f0.f1, (rd_T46 x8 x10).f1] : List ByteArray))).bind fun t193 => (if t193 = T then (if x10 > 0 then (if 0 ≤ (wrap64 (x10 - 1)) then (if (wrap64 (x10 - 1)) < (x0.length : Int) then ((Qbh.f ((rd_T46 x0 (wrap64 (x10 - 1))).f0.f0) ((rd_T46 x0 (wrap64 (x10 - 1))).f0.f1) ((rd_T46 x0 (wrap64 (x10 - 1))).f1) ((rd_T46 x0 (wrap64 (x10 - 1))).f2) ((rd_T46 x8 x10).f0.f0) ((rd_T46 x8 x10).f0.f1) ((rd_T46 x8 x10).f1) ((rd_T46 x8 x10).f2)).bind fun t195 => (Qav.j1 k x0 x8 x9 x10 (decide (t195 ≥ 0)) ((rd_T46 x8 x10).f0.f0) ((rd_T46 x8 x10).f0.f1) ((rd_T46 x8 x10).f1) ((rd_T46 x8 x10).f2))) else (none)) else (none)) else (Qav.j1 k x0 x8 x9 x10 F ((rd_T46 x8 x10).f0.f0) ((rd_T46 x8 x10).f0.f1) ((rd_T46 x8 x10).f1) ((rd_T46 x8 x10).f2))) else (some 10))) else (none)) else (none)) else (some 0)
def Qav.j1 : Nat → List (S46) → List (S46) → Int → Int → Bool → ByteArray → ByteArray → ByteArray → Int → Option (Int)
 | 0, _, _, _, _, _, _, _, _, _ => none
 | k + 1, x0, x8, x9, x10, x27, x190000, x190001, x190002, x190003 => if x27 = T then (some 12) else ((Qbk.f x190003).bind fun t196 => (if t196 = T then (Qav.l0 k x0 x8 x9 (wrap64 (x10 + 1))) else (some 18)))
end
def Qav.f (k : Nat) (l0 : List (S46)) : Option (Int) := if (l0.length : Int) > 1024 then (some 8) else (Qav.l0 k l0 l0 (l0.length : Int) 0)
theorem Qav.mono_l : ∀ k, (∀ y0 y1 y2 y3, LeO (Qav.l0 k y0 y1 y2 y3) (Qav.l0 (k + 1) y0 y1 y2 y3)) ∧ (∀ y0 y1 y2 y3 y4 y5 y6 y7 y8, LeO (Qav.j1 k y0 y1 y2 y3 y4 y5 y6 y7 y8) (Qav.j1 (k + 1) y0 y1 y2 y3 y4 y5 y6 y7 y8))
 | 0 => ⟨fun _ _ _ _ r h => by simp [Qav.l0] at h, fun _ _ _ _ _ _ _ _ _ r h => by simp [Qav.j1] at h⟩
 | k + 1 => by
  obtain ⟨ih0, ih1⟩ := Qav.mono_l k
  refine ⟨?_, ?_⟩
  ·intro y0 y1 y2 y3
   unfold Qav.l0
   exact ZM3 ih0 ih1 QaM.mono
  intro y0 y1 y2 y3 y4 y5 y6 y7 y8
  unfold Qav.j1
  exact ZM3 ih0 ih1 QaM.mono
theorem Qav.mono : ∀ a0 k, LeO (Qav.f k a0) (Qav.f (k + 1) a0) := by
 intro a0 k
 obtain ⟨ih0, ih1⟩ := Qav.mono_l k
 unfold Qav.f
 exact ZM3 ih0 ih1 QaM.mono
def Qav.T8 : Bool × List (List Nat × List Nat) := (T, [([], []), ([0], [0]), ([1], [1]), ([2], [2]), ([2], [2]), ([4, 2], [2, 4]), ([3, 5, 2], [2, 3, 5]), ([6, 2], [2, 6]), ([2], [2]), ([7, 8, 2, 2], [2, 7, 8]), ([9, 2], [2, 9]), ([2, 10], [2, 10]), ([11, 9], [11])])
def Qav.B8 : List Nat := [0, 1, 3, 7, 7, 23, 63, 127, 7, 511, 1023, 2047, 4095]
theorem Qav.tab8 : rtab .any (opsOf Try.f71 8) = Qav.T8 := by kernel_rfl
theorem Qav.bits8 : QbO Qav.T8.2 Qav.B8 = T := by kernel_rfl
theorem Qav.calls (k : Nat) (A0 : Option Addr) (c0 : Nat) (l0 : List (S46)) (r : Int) (w : World) (hr0 : Kd.C k46 w A0 l0.length l0) (hc0 : l0.length ≤ c0) (h : Qav.f k l0 = some r) :
  Calls Try.prog 71 #[.slice A0 l0.length c0] w fun e w' => e = .returned (.int .i64 r) ∧ Below w.heap.size w w' := by
 have hu46 := Try.underlying46
 have HR0 := Aside0.mk hr0
 have HC0 := Aside0.mk hc0
 clear hr0 hc0
 have HB := Aside0.mk (Below.refl w.heap.size w)
 have H : (if (l0.length : Int) > 1024 then (some 8) else (Qav.l0 k l0 l0 (l0.length : Int) 0)) = some r := h
 clear h
 by_cases c2 : (l0.length : Int) > 1024
 ·rw [if_pos c2] at H
  have c2b0 : decide (1024 < (l0.length : Int)) = T := decide_eq_true c2
  have c2b1 : decide (1024 < l0.length) = T := decide_eq_true (by omega)
  clear c2
  obtain rfl := Option.some.inj H
  go_enter Try.func71, Try.ntmps71
  go_wp2
  go_ret
  exact ⟨Zq, Zb⟩
 rw [if_neg c2] at H
 have c2b0 : decide (1024 < (l0.length : Int)) = F := decide_eq_false c2
 have c2b1 : decide (1024 < l0.length) = F := decide_eq_false (by omega)
 clear c2
 have H' := Aside0.mk H
 clear H
 go_enter Try.func71, Try.ntmps71
 go_wp2
 go_loopg [10] k (fun kq v10 w' => ∃ (x10_1 : Int), v10 = .int .i64 x10_1 ∧ Aside0 (Qav.l0 kq l0 l0 (l0.length : Int) x10_1 = some r) ∧ Aside0 (kq ≤ k) ∧ Aside0 (Below w.heap.size w w'))
 case atStart => exact ⟨(0), (Zs), H', ⟨Nat.le_refl _⟩, ⟨Zb⟩⟩
 case round =>
  clear H'
  try clear c2
  try clear c2b0
  try clear c2b1
  try clear p2
  obtain ⟨x10_1, rfl, HA, HK1, HB⟩ := hrel
  cases gk with
  | zero => exact absurd HA.out (by simp [Qav.l0])
  | succ k1 =>
   have H := HA.out
   clear HA
   simp only [Qav.l0] at H
   by_cases c3 : x10_1 < (l0.length : Int)
   ·rw [if_pos c3] at H
    have c3b0 : decide (x10_1 < (l0.length : Int)) = T := decide_eq_true c3
    clear c3
    (try simp only [c3b0])
    by_cases c4 : 0 ≤ x10_1
    ·rw [if_pos c4] at H
     have c4b0 : decide (0 ≤ x10_1) = T := decide_eq_true c4
     clear c4
     by_cases c5 : x10_1 < (l0.length : Int)
     ·rw [if_pos c5] at H
      have c5b0 : decide (x10_1 < (l0.length : Int)) = T := decide_eq_true c5
      clear c5
      obtain ⟨y190, hy190⟩ : ∃ y_ : List ByteArray, y_ = (([(rd_T46 l0 x10_1).f0.f0, (rd_T46 l0 x10_1).f0.f1, (rd_T46 l0 x10_1).f1] : List ByteArray)) := ⟨_, rfl⟩
      replace H : ((QaM.f k1 y190).bind fun t193 => (if t193 = T then (if x10_1 > 0 then (if 0 ≤ (wrap64 (x10_1 - 1)) then (if (wrap64 (x10_1 - 1)) < (l0.length : Int) then ((Qbh.f ((rd_T46 l0 (wrap64 (x10_1 - 1))).f0.f0) ((rd_T46 l0 (wrap64 (x10_1 - 1))).f0.f1) ((rd_T46 l0 (wrap64 (x10_1 - 1))).f1) ((rd_T46 l0 (wrap64 (x10_1 - 1))).f2) ((rd_T46 l0 x10_1).f0.f0) ((rd_T46 l0 x10_1).f0.f1) ((rd_T46 l0 x10_1).f1) ((rd_T46 l0 x10_1).f2)).bind fun t195 => (Qav.j1 k1 l0 l0 (l0.length : Int) x10_1 (decide (t195 ≥ 0)) ((rd_T46 l0 x10_1).f0.f0) ((rd_T46 l0 x10_1).f0.f1) ((rd_T46 l0 x10_1).f1) ((rd_T46 l0 x10_1).f2))) else (none)) else (none)) else (Qav.j1 k1 l0 l0 (l0.length : Int) x10_1 F ((rd_T46 l0 x10_1).f0.f0) ((rd_T46 l0 x10_1).f0.f1) ((rd_T46 l0 x10_1).f1) ((rd_T46 l0 x10_1).f2))) else (some 10))) = some r := by first | (rw [hy190]; with_reducible exact H) | (have H2_ := (Option.bind_some _ _).symm.trans H; rw [hy190]; with_reducible exact H2_) | (have H2_ := (Option.bind_some _ _).symm.trans H; with_reducible exact H2_) | with_reducible exact H | (rw [hy190]; exact H) | exact H
      have Ny190 := Aside0.mk hy190
      clear hy190
      replace H := Option.bind_eq_some_iff.mp H
      obtain ⟨t193, A60, H⟩ := H
      replace H : (if t193 = T then (if x10_1 > 0 then (if 0 ≤ (wrap64 (x10_1 - 1)) then (if (wrap64 (x10_1 - 1)) < (l0.length : Int) then ((Qbh.f ((rd_T46 l0 (wrap64 (x10_1 - 1))).f0.f0) ((rd_T46 l0 (wrap64 (x10_1 - 1))).f0.f1) ((rd_T46 l0 (wrap64 (x10_1 - 1))).f1) ((rd_T46 l0 (wrap64 (x10_1 - 1))).f2) ((rd_T46 l0 x10_1).f0.f0) ((rd_T46 l0 x10_1).f0.f1) ((rd_T46 l0 x10_1).f1) ((rd_T46 l0 x10_1).f2)).bind fun t195 => (Qav.j1 k1 l0 l0 (l0.length : Int) x10_1 (decide (t195 ≥ 0)) ((rd_T46 l0 x10_1).f0.f0) ((rd_T46 l0 x10_1).f0.f1) ((rd_T46 l0 x10_1).f1) ((rd_T46 l0 x10_1).f2))) else (none)) else (none)) else (Qav.j1 k1 l0 l0 (l0.length : Int) x10_1 F ((rd_T46 l0 x10_1).f0.f0) ((rd_T46 l0 x10_1).f0.f1) ((rd_T46 l0 x10_1).f1) ((rd_T46 l0 x10_1).f2))) else (some 10)) = some r := H
      have A6 := Aside0.mk A60
      clear A60
      have p188 : 0 ≤ (x10_1 : Int) := Ze
      have q188 : x10_1 < (l0.length : Int) := Ze
      obtain ⟨ad188, e188, hx188_0, hx188_1, hx188_2, hx188_3⟩ := at_T46 HR0.out x10_1 p188 q188
      cases e188
      replace hx188_0 := Zx HB.out hx188_0
      replace hx188_1 := Zx HB.out hx188_1
      replace hx188_2 := Zx HB.out hx188_2
      replace hx188_3 := Zx HB.out hx188_3
      replace p188 := eq_true p188
      replace q188 := eq_true q188
      go_upto_if 15 with (first | ((with_reducible refine QaD (N := 4) rfl ?_); refine Zbx (N := 4) (cs := #[.string (⟨#[]⟩ : ByteArray), .string (⟨#[]⟩ : ByteArray), .string (⟨#[]⟩ : ByteArray), .int .i64 0]) (t := 46) ?_; intro gb189 hg w7 hbox hb; have BK189 := Aside0.mk (hbox); have GW189 := Aside0.mk (Zt w hg (Zb)); have GE189 := GW189; replace HB := Aside0.mk (Qao (Zb) hb); clear hb hbox hg; obtain ⟨hcz8_0, hfz8_0⟩ := Zy (v := (.string (⟨#[]⟩ : ByteArray))) BK189.out 0; obtain ⟨hcz8_1, hfz8_1⟩ := Zy (v := (.string (⟨#[]⟩ : ByteArray))) BK189.out 1; obtain ⟨hcz8_2, hfz8_2⟩ := Zy (v := (.string (⟨#[]⟩ : ByteArray))) BK189.out 2; obtain ⟨hcz8_3, hfz8_3⟩ := Zy (v := (.int .i64 0)) BK189.out 3) | ((with_reducible refine QaD (N := 24) rfl ?_); refine Kd.R_lit Kd.string _ 9 ?hg (N := 24) ?hd (xs := ([(rd_T46 l0 x10_1).f0.f0, (rd_T46 l0 x10_1).f0.f1, (rd_T46 l0 x10_1).f1] : List ByteArray)) (inner := [.string ((rd_T46 l0 x10_1).f0.f0), .string ((rd_T46 l0 x10_1).f0.f1), .string ((rd_T46 l0 x10_1).f1)]) (ok := fun _ => True) (okp := fun _ => True) ?hr ?hp (fun _ hk => hk) trivial (Below.refl _ _) (Nat.le_refl _) (by simp) ?_; (case hd => rfl); (case hg => rfl); (case hr => first | (go_simp; done) | (go_simp; rfl)); (case hp => exact (Reps.one (show Kd.M Kd.string _ _ _ ((rd_T46 l0 x10_1).f0.f0) [.string ((rd_T46 l0 x10_1).f0.f0)] from rfl) (Reps.one (show Kd.M Kd.string _ _ _ ((rd_T46 l0 x10_1).f0.f1) [.string ((rd_T46 l0 x10_1).f0.f1)] from rfl) (Reps.one (show Kd.M Kd.string _ _ _ ((rd_T46 l0 x10_1).f1) [.string ((rd_T46 l0 x10_1).f1)] from rfl) (Reps.none _ _))))); intro v191 w9 ho10 hb hg_ hnew_; clear hg_ hnew_; (first | rw [← Ny190.out] at ho10 | (simp only [Int.reduceToNat] at ho10; rw [← Ny190.out] at ho10)); have HO192 := Aside0.mk (Kd.R_lower ho10 (Qan (Zc1 GE189.out))); replace BK189 := Aside0.mk (Zpi #[.string ((rd_T46 l0 x10_1).f0.f0), .string ((rd_T46 l0 x10_1).f0.f1), .string ((rd_T46 l0 x10_1).f1), .int .i64 ((rd_T46 l0 x10_1).f2)] BK189.out hb); replace HB := Aside0.mk (Qao (Zc1 GE189.out) hb); clear hb ho10; obtain ⟨Ao11, co11, eo11⟩ := Kd.R_slice HO192.out; subst eo11) | ((with_reducible refine Qax (f := 83) rfl ?_); refine goesL_ (some 25) rfl rfl Try.func83 (by kernel_rfl) rfl #[.slice Ao11 y190.length co11] rfl (Zl) ?_; (with_reducible refine (QaM.calls k1 _ _ y190 t193 _ ?side1 ?side2 A6.out).mono ?_); (case side1 => exact Zv (Kd.R_reads' HO192.out).2.2); (case side2 => exact (Kd.R_reads' HO192.out).2.1); rintro e w' ⟨rfl, ⟨nd, rfl⟩⟩; refine ⟨_, rfl, ?_⟩))
      (try simp only [Act.put, Zj, Zk, Zm])
      by_cases c12 : t193 = T
      ·subst c12
       have H1 : (if x10_1 > 0 then (if 0 ≤ (wrap64 (x10_1 - 1)) then (if (wrap64 (x10_1 - 1)) < (l0.length : Int) then ((Qbh.f ((rd_T46 l0 (wrap64 (x10_1 - 1))).f0.f0) ((rd_T46 l0 (wrap64 (x10_1 - 1))).f0.f1) ((rd_T46 l0 (wrap64 (x10_1 - 1))).f1) ((rd_T46 l0 (wrap64 (x10_1 - 1))).f2) ((rd_T46 l0 x10_1).f0.f0) ((rd_T46 l0 x10_1).f0.f1) ((rd_T46 l0 x10_1).f1) ((rd_T46 l0 x10_1).f2)).bind fun t195 => (Qav.j1 k1 l0 l0 (l0.length : Int) x10_1 (decide (t195 ≥ 0)) ((rd_T46 l0 x10_1).f0.f0) ((rd_T46 l0 x10_1).f0.f1) ((rd_T46 l0 x10_1).f1) ((rd_T46 l0 x10_1).f2))) else (none)) else (none)) else (Qav.j1 k1 l0 l0 (l0.length : Int) x10_1 F ((rd_T46 l0 x10_1).f0.f0) ((rd_T46 l0 x10_1).f0.f1) ((rd_T46 l0 x10_1).f1) ((rd_T46 l0 x10_1).f2))) = some r := by rw [if_pos rfl] at H; exact H
       clear H
       have H := H1
       clear H1
       have HC13 := Aside0.mk H
       clear H
       go_upto_region 8 with (fail)
       go_cut [27] (fun v27 wc => ∃ (kq : Nat) (x27_12 : Bool), v27 = .bool x27_12 ∧ Aside0 (Qav.j1 kq l0 l0 (l0.length : Int) x10_1 x27_12 ((rd_T46 l0 x10_1).f0.f0) ((rd_T46 l0 x10_1).f0.f1) ((rd_T46 l0 x10_1).f1) ((rd_T46 l0 x10_1).f2) = some r) ∧ Aside0 (kq ≤ k1) ∧ Aside0 (wc.heap[gb189]? = some (.cells #[.string ((rd_T46 l0 x10_1).f0.f0), .string ((rd_T46 l0 x10_1).f0.f1), .string ((rd_T46 l0 x10_1).f1), .int .i64 ((rd_T46 l0 x10_1).f2)] 46 (0, 0))) ∧ Aside0 (Below w.heap.size w wc))
       case first =>
        have H := HC13.out
        clear HC13
        by_cases c14 : x10_1 > 0
        ·rw [if_pos c14] at H
         have c14b0 : decide (0 < x10_1) = T := decide_eq_true c14
         clear c14
         (first | rw [c14b0] | (simp only [i64_w, i32_w]; rw [c14b0]) | skip)
         obtain ⟨ji15, hji15⟩ : ∃ j_ : Int, (wrap64 (x10_1 - 1)) = j_ := ⟨_, rfl⟩
         replace H : (if 0 ≤ (ji15) then (if (ji15) < (l0.length : Int) then ((Qbh.f ((rd_T46 l0 (ji15)).f0.f0) ((rd_T46 l0 (ji15)).f0.f1) ((rd_T46 l0 (ji15)).f1) ((rd_T46 l0 (ji15)).f2) ((rd_T46 l0 x10_1).f0.f0) ((rd_T46 l0 x10_1).f0.f1) ((rd_T46 l0 x10_1).f1) ((rd_T46 l0 x10_1).f2)).bind fun t195 => (Qav.j1 k1 l0 l0 (l0.length : Int) x10_1 (decide (t195 ≥ 0)) ((rd_T46 l0 x10_1).f0.f0) ((rd_T46 l0 x10_1).f0.f1) ((rd_T46 l0 x10_1).f1) ((rd_T46 l0 x10_1).f2))) else (none)) else (none)) = some r := by first | (rw [hji15] at H; exact H) | (simp only [hji15] at H ⊢; exact H)
         have hji15w : (IntKind.i64.wrap (x10_1 - 1)) = ji15 := (i64_w _).trans hji15
         by_cases c16 : 0 ≤ (ji15)
         ·rw [if_pos c16] at H
          have c16b0 : decide (0 ≤ (ji15)) = T := decide_eq_true c16
          clear c16
          by_cases c17 : (ji15) < (l0.length : Int)
          ·rw [if_pos c17] at H
           have c17b0 : decide ((ji15) < (l0.length : Int)) = T := decide_eq_true c17
           clear c17
           replace H := Option.bind_eq_some_iff.mp H
           obtain ⟨t195, A180, H⟩ := H
           replace H : (Qav.j1 k1 l0 l0 (l0.length : Int) x10_1 (decide (t195 ≥ 0)) ((rd_T46 l0 x10_1).f0.f0) ((rd_T46 l0 x10_1).f0.f1) ((rd_T46 l0 x10_1).f1) ((rd_T46 l0 x10_1).f2)) = some r := H
           have A18 := Aside0.mk A180
           clear A180
           have H' := Aside0.mk H
           clear H
           try go_wp2
           (try (rw [QcK w9]; generalize hq_ : World.drewN w9 _ = w9; have n0_ : Aside0 (Kd.R Kd.string 9 w9 w.heap.size (fun _ => True) (.slice Ao11 y190.length co11) y190) := ⟨by rw [← hq_]; exact (Zr HO192.out)⟩; have n1_ : Aside0 (w9.heap[gb189]? = some (.cells #[.string ((rd_T46 l0 x10_1).f0.f0), .string ((rd_T46 l0 x10_1).f0.f1), .string ((rd_T46 l0 x10_1).f1), .int .i64 ((rd_T46 l0 x10_1).f2)] 46 (0, 0))) := ⟨by rw [← hq_]; exact (Zu BK189.out)⟩; have n2_ : Aside0 (Below w.heap.size w w9) := ⟨by rw [← hq_]; exact (Zc1 GE189.out)⟩; clear HO192 BK189 HB hq_; have HO192 := n0_; have BK189 := n1_; have HB := n2_; clear n0_ n1_ n2_))
           replace HO192 := Aside0.mk (Kd.R_drew HO192.out)
           replace BK189 := Aside0.mk (Qac BK189.out)
           replace HB := Aside0.mk (Qai HB.out)
           have p194 : 0 ≤ ((ji15) : Int) := Ze
           have q194 : (ji15) < (l0.length : Int) := Ze
           obtain ⟨ad194, e194, hx194_0, hx194_1, hx194_2, hx194_3⟩ := at_T46 HR0.out (ji15) p194 q194
           have hw194_3 := hx194_3
           have hw194_2 := hx194_2
           have hw194_1 := hx194_1
           have hw194_0 := hx194_0
           obtain rfl : ad188 = ad194 := (by injection e194)
           replace hx194_0 := Zx HB.out hx194_0
           replace hx194_1 := Zx HB.out hx194_1
           replace hx194_2 := Zx HB.out hx194_2
           replace hx194_3 := Zx HB.out hx194_3
           replace p194 := eq_true p194
           replace q194 := eq_true q194
           refine start_ (n := 13) (S := fun w' => w'.cell? ⟨gb189, 0, none⟩ = some (.string ((rd_T46 l0 x10_1).f0.f0)) ∧ w'.cell? ⟨gb189, 1, none⟩ = some (.string ((rd_T46 l0 x10_1).f0.f1)) ∧ w'.cell? ⟨gb189, 2, none⟩ = some (.string ((rd_T46 l0 x10_1).f1)) ∧ w'.cell? ⟨gb189, 3, none⟩ = some (.int .i64 ((rd_T46 l0 x10_1).f2)) ∧ w'.cell? (ad188.add (((ji15)).toNat * 4)) = some (.string ((rd_T46 l0 (ji15)).f0.f0)) ∧ w'.cell? ⟨(ad188.add (((ji15)).toNat * 4)).block, (ad188.add (((ji15)).toNat * 4)).off + 1, none⟩ = some (.string ((rd_T46 l0 (ji15)).f0.f1)) ∧ w'.cell? ⟨(ad188.add (((ji15)).toNat * 4)).block, (ad188.add (((ji15)).toNat * 4)).off + 2, none⟩ = some (.string ((rd_T46 l0 (ji15)).f1)) ∧ w'.cell? ⟨(ad188.add (((ji15)).toNat * 4)).block, (ad188.add (((ji15)).toNat * 4)).off + 3, none⟩ = some (.int .i64 ((rd_T46 l0 (ji15)).f2))) (ds := []) #[F, F, F, F, F, F, F, F, F, F, F, F, F] (by kernel_rfl) rfl rfl ⟨(Qag BK189.out 0).trans rfl, (Qag BK189.out 1).trans rfl, (Qag BK189.out 2).trans rfl, (Qag BK189.out 3).trans rfl, ((HB.out.cell (World.block_lt_of_cell? w _ hw194_0)).trans hw194_0), ((HB.out.cell (World.block_lt_of_cell? w _ hw194_1)).trans hw194_1), ((HB.out.cell (World.block_lt_of_cell? w _ hw194_2)).trans hw194_2), ((HB.out.cell (World.block_lt_of_cell? w _ hw194_3)).trans hw194_3)⟩ (fun hHeld => ?_); refine QbM Qav.tab8 Qav.bits8 (fun HT_ HW_ => ?_)
           generalize w9.drew = w19 at HO192 BK189 HB hx194_0 hx194_1 hx194_2 hx194_3 hHeld ⊢
           refine pure_ (i := 0) (N := some 28) (v := ?_) (a' := ?_) #[T, F, F, F, F, F, F, F, F, F, F, F, F] rfl rfl (any_of HT_.out (by kernel_rfl)) (fun _ _ _ h => h) (Or.inl ⟨by rfl, ?_⟩) ?_ ?_
           rotate_left
           ·intro w'
            go_simp
            with_reducible rfl
           rotate_left
           ·simp only [Act.put, Zj, Zk, Zm, i64_w, i32_w]
            rfl
           refine pure_ (i := 1) (N := some 29) (v := ?_) (a' := ?_) #[T, T, F, F, F, F, F, F, F, F, F, F, F] rfl rfl (any_of HT_.out (by kernel_rfl)) (fun _ _ _ h => h) (Or.inl ⟨by rfl, ?_⟩) ?_ ?_
           rotate_left
           ·intro w'
            go_simp
            with_reducible rfl
           rotate_left
           ·simp only [Act.put, Zj, Zk, Zm, i64_w, i32_w]
            rfl
           refine pure_ (i := 2) (N := some 30) (v := ?_) (a' := ?_) #[T, T, T, F, F, F, F, F, F, F, F, F, F] rfl rfl (any_of HT_.out (by kernel_rfl)) (fun _ _ _ h => h) (Or.inl ⟨by rfl, ?_⟩) ?_ ?_
           rotate_left
           ·intro w'
            go_simp
            with_reducible rfl
           rotate_left
           ·simp only [Act.put, Zj, Zk, Zm, i64_w, i32_w]
            rfl
           refine pure_ (i := 3) (N := some 31) (v := ?_) (a' := ?_) #[T, T, T, T, F, F, F, F, F, F, F, F, F] rfl rfl (any_of HT_.out (by kernel_rfl)) (fun _ _ _ h => h) (Or.inl ⟨by rfl, ?_⟩) ?_ ?_
           rotate_left
           ·intro w'
            go_simp
            with_reducible rfl
           rotate_left
           ·simp only [Act.put, Zj, Zk, Zm, i64_w, i32_w]
            rfl
           refine pure_ (i := 4) (N := some 32) (v := ?_) (a' := ?_) #[T, T, T, T, T, F, F, F, F, F, F, F, F] rfl rfl (any_of HT_.out (by kernel_rfl)) (fun _ _ _ h => h) (Or.inl ⟨by rfl, ?_⟩) ?_ ?_
           rotate_left
           ·intro w'
            go_simp
            with_reducible rfl
           rotate_left
           ·simp only [Act.put, Zj, Zk, Zm, i64_w, i32_w]
            rfl
           refine pure_ (i := 5) (N := some 33) (v := ?_) (a' := ?_) #[T, T, T, T, T, T, F, F, F, F, F, F, F] rfl rfl (any_of HT_.out (by kernel_rfl)) (fun _ _ _ h => h) (Or.inl ⟨by rfl, ?_⟩) ?_ ?_
           rotate_left
           ·intro w'
            go_simp
            with_reducible rfl
           rotate_left
           ·simp only [Act.put, Zj, Zk, Zm, i64_w, i32_w]
            rfl
           refine pure_ (i := 6) (N := some 34) (v := ?_) (a' := ?_) #[T, T, T, T, T, T, T, F, F, F, F, F, F] rfl rfl (any_of HT_.out (by kernel_rfl)) (fun _ _ _ h => h) (Or.inl ⟨by rfl, ?_⟩) ?_ ?_
           rotate_left
           ·intro w'
            go_simp
            with_reducible rfl
           rotate_left
           ·simp only [Act.put, Zj, Zk, Zm, i64_w, i32_w]
            rfl
           refine take_ (i := 7) (N := some 35) (v := ?_) (a' := ?_) #[T, T, T, T, T, T, T, T, F, F, F, F, F] rfl rfl (QbB HT_.out HW_.out (by kernel_rfl)) (fun _ _ _ h => h) (Or.inl ⟨by rfl, ?_⟩) hHeld ?_ ?_
           rotate_left
           ·rintro w' ⟨s0, s1, s2, s3, s4, s5, s6, s7⟩
            go_simp
            with_reducible rfl
           rotate_left
           ·simp only [Act.put, Zj, Zk, Zm, i64_w, i32_w]
            rfl
           refine take_ (i := 8) (N := some 36) (v := ?_) (a' := ?_) #[T, T, T, T, T, T, T, T, T, F, F, F, F] rfl rfl (QbB HT_.out HW_.out (by kernel_rfl)) (fun _ _ _ h => h) (Or.inl ⟨by rfl, ?_⟩) hHeld ?_ ?_
           rotate_left
           ·rintro w' ⟨s0, s1, s2, s3, s4, s5, s6, s7⟩
            go_simp
            with_reducible rfl
           rotate_left
           ·simp only [Act.put, Zj, Zk, Zm, i64_w, i32_w]
            rfl
           refine one_ (i := 9) (N := some 37) #[T, T, T, T, T, T, T, T, T, T, F, F, F] rfl rfl (one_of HT_.out (by kernel_rfl)) (by decide) (fun K hK => ?_)
           refine goes_ Try.func74 (by kernel_rfl) rfl #[.agg #[.string ((rd_T46 l0 (ji15)).f0.f0), .string ((rd_T46 l0 (ji15)).f0.f1), .string ((rd_T46 l0 (ji15)).f1), .int .i64 ((rd_T46 l0 (ji15)).f2)], .agg #[.string ((rd_T46 l0 x10_1).f0.f0), .string ((rd_T46 l0 x10_1).f0.f1), .string ((rd_T46 l0 x10_1).f1), .int .i64 ((rd_T46 l0 x10_1).f2)]] (by rfl) rfl rfl (by (try simp only [List.map_toArray, List.map_cons, List.map_nil]); first | done | (simp only [hji15]; rfl) | rfl | (simp only [List.length_drop, List.length_take]; rfl)) ?_
           with_reducible refine (Qbh.calls ((rd_T46 l0 (ji15)).f0.f0) ((rd_T46 l0 (ji15)).f0.f1) ((rd_T46 l0 (ji15)).f1) ((rd_T46 l0 (ji15)).f2) ((rd_T46 l0 x10_1).f0.f0) ((rd_T46 l0 x10_1).f0.f1) ((rd_T46 l0 x10_1).f1) ((rd_T46 l0 x10_1).f2) t195 _ A18.out).mono ?_
           rintro e w20 ⟨rfl, hb⟩
           refine ⟨_, rfl, ?_⟩
           replace HO192 := Aside0.mk (Kd.R_below (Zr HO192.out) hb)
           replace BK189 := Aside0.mk (Zi BK189.out hb)
           replace HB := Aside0.mk (Qao (Zc1 GE189.out) hb)
           (try clear hb)
           (try clear hb2)
           (try clear hk)
           (try clear hi)
           refine hK.out _ _ ⟨(Qag BK189.out 0).trans rfl, (Qag BK189.out 1).trans rfl, (Qag BK189.out 2).trans rfl, (Qag BK189.out 3).trans rfl, ((HB.out.cell (World.block_lt_of_cell? w _ hw194_0)).trans hw194_0), ((HB.out.cell (World.block_lt_of_cell? w _ hw194_1)).trans hw194_1), ((HB.out.cell (World.block_lt_of_cell? w _ hw194_2)).trans hw194_2), ((HB.out.cell (World.block_lt_of_cell? w _ hw194_3)).trans hw194_3)⟩ (fun hHeld => ?_)
           clear hK K
           refine norm_ (a' := ?_) ?_ ?_
           rotate_left
           ·show Act.put _ (some 37) _ = _
            simp only [Act.put, Zj, Zk, Zm, i64_w, i32_w]
            rfl
           refine pure_ (i := 10) (N := some 38) (v := ?_) (a' := ?_) #[T, T, T, T, T, T, T, T, T, T, T, F, F] rfl rfl (any_of HT_.out (by kernel_rfl)) (fun _ _ _ h => h) (Or.inl ⟨by rfl, ?_⟩) ?_ ?_
           rotate_left
           ·intro w'
            go_simp
            with_reducible rfl
           rotate_left
           ·simp only [Act.put, Zj, Zk, Zm, i64_w, i32_w]
            rfl
           refine pure_ (i := 11) (N := some 39) (v := ?_) (a' := ?_) #[T, T, T, T, T, T, T, T, T, T, T, T, F] rfl rfl (any_of HT_.out (by kernel_rfl)) (fun _ _ _ h => h) (Or.inl ⟨by rfl, ?_⟩) ?_ ?_
           rotate_left
           ·intro w'
            go_simp
            with_reducible rfl
           rotate_left
           ·simp only [Act.put, Zj, Zk, Zm, i64_w, i32_w]
            rfl
           refine pure_ (i := 12) (N := some 27) (v := ?_) (a' := ?_) #[T, T, T, T, T, T, T, T, T, T, T, T, T] rfl rfl (any_of HT_.out (by kernel_rfl)) (fun _ _ _ h => h) (Or.inl ⟨by rfl, ?_⟩) ?_ ?_
           rotate_left
           ·intro w'
            go_simp
            with_reducible rfl
           rotate_left
           ·simp only [Act.put, Zj, Zk, Zm, i64_w, i32_w]
            rfl
           refine done_ (QbY HT_.out (by kernel_rfl)) ?_
           try go_wp2
           go_meet
           case rel => exact ⟨_, (decide (t195 ≥ 0)), (Zs), H', ⟨by have := HK1.out; first | omega | exact Nat.le_refl _⟩, ⟨Zu BK189.out⟩, ⟨Zc1 GE189.out⟩⟩
          rw [if_neg c17] at H
          exact absurd H (by simp)
         rw [if_neg c16] at H
         exact absurd H (by simp)
        rw [if_neg c14] at H
        have c14b0 : decide (0 < x10_1) = F := decide_eq_false c14
        clear c14
        (first | rw [c14b0] | (simp only [i64_w, i32_w]; rw [c14b0]) | skip)
        have H' := Aside0.mk H
        clear H
        try go_wp2
        (try (rw [QcK w9]; generalize hq_ : World.drewN w9 _ = w9; have n0_ : Aside0 (Kd.R Kd.string 9 w9 w.heap.size (fun _ => True) (.slice Ao11 y190.length co11) y190) := ⟨by rw [← hq_]; exact (Zr HO192.out)⟩; have n1_ : Aside0 (w9.heap[gb189]? = some (.cells #[.string ((rd_T46 l0 x10_1).f0.f0), .string ((rd_T46 l0 x10_1).f0.f1), .string ((rd_T46 l0 x10_1).f1), .int .i64 ((rd_T46 l0 x10_1).f2)] 46 (0, 0))) := ⟨by rw [← hq_]; exact (Zu BK189.out)⟩; have n2_ : Aside0 (Below w.heap.size w w9) := ⟨by rw [← hq_]; exact (Zc1 GE189.out)⟩; clear HO192 BK189 HB hq_; have HO192 := n0_; have BK189 := n1_; have HB := n2_; clear n0_ n1_ n2_))
        replace HO192 := Aside0.mk (Kd.R_drew HO192.out)
        replace BK189 := Aside0.mk (Qac BK189.out)
        replace HB := Aside0.mk (Qai HB.out)
        refine start_ (n := 13) (S := fun w' => True) (ds := []) #[F, F, F, F, F, F, F, F, F, F, F, F, F] (by kernel_rfl) rfl rfl trivial (fun hHeld => ?_); refine QbM Qav.tab8 Qav.bits8 (fun HT_ HW_ => ?_)
        generalize w9.drew = w21 at HO192 BK189 HB hHeld ⊢
        refine pure_ (i := 0) (N := some 28) (v := ?_) (a' := ?_) #[T, F, F, F, F, F, F, F, F, F, F, F, F] rfl rfl (any_of HT_.out (by kernel_rfl)) (fun _ _ _ h => h) (Or.inl ⟨by rfl, ?_⟩) ?_ ?_
        rotate_left
        ·intro w'
         go_simp
         with_reducible rfl
        rotate_left
        ·simp only [Act.put, Zj, Zk, Zm, i64_w, i32_w]
         rfl
        refine pure_ (i := 1) (N := some 29) (v := ?_) (a' := ?_) #[T, T, F, F, F, F, F, F, F, F, F, F, F] rfl rfl (any_of HT_.out (by kernel_rfl)) (fun _ _ _ h => h) (Or.inl ⟨by rfl, ?_⟩) ?_ ?_
        rotate_left
        ·intro w'
         go_simp
         with_reducible rfl
        rotate_left
        ·simp only [Act.put, Zj, Zk, Zm, i64_w, i32_w]
         rfl
        refine pure_ (i := 2) (N := some 30) (v := ?_) (a' := ?_) #[T, T, T, F, F, F, F, F, F, F, F, F, F] rfl rfl (any_of HT_.out (by kernel_rfl)) (fun _ _ _ h => h) (Or.inl ⟨by rfl, ?_⟩) ?_ ?_
        rotate_left
        ·intro w'
         go_simp
         with_reducible rfl
        rotate_left
        ·simp only [Act.put, Zj, Zk, Zm, i64_w, i32_w]
         rfl
        refine pure_ (i := 3) (N := some 31) (v := undef) (a' := ?_) #[T, T, T, T, F, F, F, F, F, F, F, F, F] rfl rfl (any_of HT_.out (by kernel_rfl)) (fun _ _ _ h => h) (Or.inr ⟨by rfl, rfl⟩) ?_ ?_
        rotate_left
        ·simp only [Act.put, Zj, Zk, Zm, i64_w, i32_w]
         rfl
        refine pure_ (i := 4) (N := some 32) (v := undef) (a' := ?_) #[T, T, T, T, T, F, F, F, F, F, F, F, F] rfl rfl (any_of HT_.out (by kernel_rfl)) (fun _ _ _ h => h) (Or.inr ⟨by rfl, rfl⟩) ?_ ?_
        rotate_left
        ·simp only [Act.put, Zj, Zk, Zm, i64_w, i32_w]
         rfl
        refine pure_ (i := 5) (N := some 33) (v := undef) (a' := ?_) #[T, T, T, T, T, T, F, F, F, F, F, F, F] rfl rfl (any_of HT_.out (by kernel_rfl)) (fun _ _ _ h => h) (Or.inr ⟨by rfl, rfl⟩) ?_ ?_
        rotate_left
        ·simp only [Act.put, Zj, Zk, Zm, i64_w, i32_w]
         rfl
        refine pure_ (i := 6) (N := some 34) (v := undef) (a' := ?_) #[T, T, T, T, T, T, T, F, F, F, F, F, F] rfl rfl (any_of HT_.out (by kernel_rfl)) (fun _ _ _ h => h) (Or.inr ⟨by rfl, rfl⟩) ?_ ?_
        rotate_left
        ·simp only [Act.put, Zj, Zk, Zm, i64_w, i32_w]
         rfl
        refine pure_ (i := 7) (N := some 35) (v := undef) (a' := ?_) #[T, T, T, T, T, T, T, T, F, F, F, F, F] rfl rfl (any_of HT_.out (by kernel_rfl)) (fun _ _ _ h => h) (Or.inr ⟨by rfl, rfl⟩) ?_ ?_
        rotate_left
        ·simp only [Act.put, Zj, Zk, Zm, i64_w, i32_w]
         rfl
        refine pure_ (i := 8) (N := some 36) (v := undef) (a' := ?_) #[T, T, T, T, T, T, T, T, T, F, F, F, F] rfl rfl (any_of HT_.out (by kernel_rfl)) (fun _ _ _ h => h) (Or.inr ⟨by rfl, rfl⟩) ?_ ?_
        rotate_left
        ·simp only [Act.put, Zj, Zk, Zm, i64_w, i32_w]
         rfl
        refine pure_ (i := 9) (N := some 37) (v := undef) (a' := ?_) #[T, T, T, T, T, T, T, T, T, T, F, F, F] rfl rfl (any_of HT_.out (by kernel_rfl)) (fun _ _ _ h => h) (Or.inr ⟨by rfl, rfl⟩) ?_ ?_
        rotate_left
        ·simp only [Act.put, Zj, Zk, Zm, i64_w, i32_w]
         rfl
        refine pure_ (i := 10) (N := some 38) (v := undef) (a' := ?_) #[T, T, T, T, T, T, T, T, T, T, T, F, F] rfl rfl (any_of HT_.out (by kernel_rfl)) (fun _ _ _ h => h) (Or.inr ⟨by rfl, rfl⟩) ?_ ?_
        rotate_left
        ·simp only [Act.put, Zj, Zk, Zm, i64_w, i32_w]
         rfl
        refine pure_ (i := 11) (N := some 39) (v := ?_) (a' := ?_) #[T, T, T, T, T, T, T, T, T, T, T, T, F] rfl rfl (any_of HT_.out (by kernel_rfl)) (fun _ _ _ h => h) (Or.inl ⟨by rfl, ?_⟩) ?_ ?_
        rotate_left
        ·intro w'
         go_simp
         with_reducible rfl
        rotate_left
        ·simp only [Act.put, Zj, Zk, Zm, i64_w, i32_w]
         rfl
        refine pure_ (i := 12) (N := some 27) (v := ?_) (a' := ?_) #[T, T, T, T, T, T, T, T, T, T, T, T, T] rfl rfl (any_of HT_.out (by kernel_rfl)) (fun _ _ _ h => h) (Or.inl ⟨by rfl, ?_⟩) ?_ ?_
        rotate_left
        ·intro w'
         go_simp
         with_reducible rfl
        rotate_left
        ·simp only [Act.put, Zj, Zk, Zm, i64_w, i32_w]
         rfl
        refine done_ (QbY HT_.out (by kernel_rfl)) ?_
        try go_wp2
        go_meet
        case rel => exact ⟨_, (F), (Zs), H', ⟨by have := HK1.out; first | omega | exact Nat.le_refl _⟩, ⟨Zu BK189.out⟩, ⟨Zc1 GE189.out⟩⟩
       case rest =>
        clear HC13
        try clear c1
        try clear p1
        try clear q1
        try clear hx1
        try clear c2
        try clear c2b0
        try clear c2b1
        try clear p2
        try clear c3
        try clear c3b0
        try clear c4
        try clear c4b0
        try clear c5
        try clear c5b0
        try clear p6
        try clear c7
        try clear c8
        try clear c12
        try clear c14
        try clear c14b0
        try clear c16
        try clear c16b0
        try clear c17
        try clear c17b0
        try clear p18
        try clear q18
        try clear hx18
        try clear p19
        try clear q19
        try clear hx19
        try clear hcz8_0
        try clear hcz8_1
        try clear hcz8_2
        try clear hcz8_3
        try clear hfz8_0
        try clear hfz8_1
        try clear hfz8_2
        try clear hfz8_3
        try clear hx188_0
        try clear hx188_1
        try clear hx188_2
        try clear hx188_3
        try clear hx194_0
        try clear hx194_1
        try clear hx194_2
        try clear hx194_3
        try clear p188
        try clear p194
        try clear p2
        try clear q188
        try clear q194
        obtain ⟨kq, x27_12, rfl, HA, HJ12, BK189, HB⟩ := hcut
        cases kq with
        | zero => exact absurd HA.out (by simp [Qav.j1])
        | succ kj12 =>
         have H := HA.out
         clear HA
         simp only [Qav.j1] at H
         by_cases c22 : x27_12 = T
         ·subst c22
          have H1 : (some 12) = some r := by rw [if_pos rfl] at H; exact H
          clear H
          have H := H1
          clear H1
          obtain rfl := Option.some.inj H
          go_wp2
          go_ret
          exact ⟨Zq, Zc1 GE189.out⟩
         replace c22 := Bool.eq_false_iff.mpr c22
         subst c22
         have H1 : ((Qbk.f ((rd_T46 l0 x10_1).f2)).bind fun t196 => (if t196 = T then (Qav.l0 kj12 l0 l0 (l0.length : Int) (wrap64 (x10_1 + 1))) else (some 18))) = some r := by rw [if_neg (show ¬ (F = T) by decide)] at H; exact H
         clear H
         have H := H1
         clear H1
         replace H := Option.bind_eq_some_iff.mp H
         obtain ⟨t196, A230, H⟩ := H
         replace H : (if t196 = T then (Qav.l0 kj12 l0 l0 (l0.length : Int) (wrap64 (x10_1 + 1))) else (some 18)) = some r := H
         have A23 := Aside0.mk A230
         clear A230
         obtain ⟨hcz24_0, hfz24_0⟩ := Zy (v := (.string ((rd_T46 l0 x10_1).f0.f0))) BK189.out 0
         obtain ⟨hcz24_1, hfz24_1⟩ := Zy (v := (.string ((rd_T46 l0 x10_1).f0.f1))) BK189.out 1
         obtain ⟨hcz24_2, hfz24_2⟩ := Zy (v := (.string ((rd_T46 l0 x10_1).f1))) BK189.out 2
         obtain ⟨hcz24_3, hfz24_3⟩ := Zy (v := (.int .i64 ((rd_T46 l0 x10_1).f2))) BK189.out 3
         go_upto_if 40 with (first | ((with_reducible refine Qax (f := 72) rfl ?_); refine goesL_ (some 43) rfl rfl Try.func72 (by kernel_rfl) rfl #[.int .i64 ((rd_T46 l0 x10_1).f2)] rfl (Zl) ?_; (with_reducible refine (Qbk.calls ((rd_T46 l0 x10_1).f2) t196 _ A23.out).mono ?_); rintro e w' ⟨rfl, ⟨nd, rfl⟩⟩; refine ⟨_, rfl, ?_⟩))
         (try simp only [Act.put, Zj, Zk, Zm])
         by_cases c25 : t196 = T
         ·subst c25
          have H1 : (Qav.l0 kj12 l0 l0 (l0.length : Int) (wrap64 (x10_1 + 1))) = some r := by rw [if_pos rfl] at H; exact H
          clear H
          have H := H1
          clear H1
          have H' := Aside0.mk H
          clear H
          go_wp2
          go_roundg kj12
          case measure => have := HK1.out; have := HJ12.out; omega
          case rel => exact ⟨(wrap64 (x10_1 + 1)), (Zs), H', ⟨by have := HK1.out; have := HJ12.out; omega⟩, ⟨Zc1 GE189.out⟩⟩
         replace c25 := Bool.eq_false_iff.mpr c25
         subst c25
         have H1 : (some 18) = some r := by rw [if_neg (show ¬ (F = T) by decide)] at H; exact H
         clear H
         have H := H1
         clear H1
         obtain rfl := Option.some.inj H
         go_wp2
         go_ret
         exact ⟨Zq, Zc1 GE189.out⟩
      replace c12 := Bool.eq_false_iff.mpr c12
      subst c12
      have H1 : (some 10) = some r := by rw [if_neg (show ¬ (F = T) by decide)] at H; exact H
      clear H
      have H := H1
      clear H1
      obtain rfl := Option.some.inj H
      go_wp2
      go_ret
      exact ⟨Zq, Zc1 GE189.out⟩
     rw [if_neg c5] at H
     exact absurd H (by simp)
    rw [if_neg c4] at H
    exact absurd H (by simp)
   rw [if_neg c3] at H
   have c3b0 : decide (x10_1 < (l0.length : Int)) = F := decide_eq_false c3
   clear c3
   (try simp only [c3b0])
   obtain rfl := Option.some.inj H
   go_wp2
   go_ret
   exact ⟨Zq, Zb⟩
def QaI.l0 : Nat → List (S84) → List (S98) → List Int → List (S46) → Int → Int → Option (Int × Int)
 | 0, _, _, _, _, _, _ => none
 | k + 1, x2, x3, x10, x29, x30, x31 => if x31 < x30 then (if 0 ≤ x31 then (if x31 < (x29.length : Int) then ((QaY.f k x2 ((rd_T46 x29 x31).f1)).bind fun bt217 => (if bt217.2.2.2.2.2.2 = T then ((Qa0.f k bt217.1 bt217.2.1 bt217.2.2.1 bt217.2.2.2.1 bt217.2.2.2.2.1 bt217.2.2.2.2.2.1 ((rd_T46 x29 x31).f2) x3).bind fun bt225 => (if bt225.2 = 0 then (if x10.length < 17592186044416 then (QaI.l0 k x2 x3 (x10 ++ [bt225.1]) x29 x30 (wrap64 (x31 + 1))) else (none)) else (some (0, bt225.2)))) else (some (0, 11)))) else (none)) else (none)) else ((Qa4.f k x10).bind fun bt213 => (some (bt213.1, bt213.2)))
def QaI.f (k : Nat) (l0 : List (S46)) (a1_0 : ByteArray) (a1_1 : ByteArray) (l2 : List (S84)) (l3 : List (S98)) : Option (Int × Int) := (Qav.f k l0).bind fun t208 => (if t208 = 0 then ((QaL.f k l2).bind fun t209 => (if t209 = 0 then ((QaX.f k l0 a1_0 a1_1).bind fun t210 => (QaI.l0 k l2 l3 ([] : List Int) t210 (t210.length : Int) 0)) else (some (0, t209)))) else (some (0, t208)))
theorem QaI.mono_l : ∀ k, (∀ y0 y1 y2 y3 y4 y5, LeO (QaI.l0 k y0 y1 y2 y3 y4 y5) (QaI.l0 (k + 1) y0 y1 y2 y3 y4 y5))
 | 0 => fun _ _ _ _ _ _ r h => by simp [QaI.l0] at h
 | k + 1 => by
  have ih0 := QaI.mono_l k
  intro y0 y1 y2 y3 y4 y5
  unfold QaI.l0
  exact ZM7 ih0 QaL.mono QaY.mono Qa0.mono Qa4.mono Qav.mono QaX.mono
theorem QaI.mono : ∀ a0 a1 a2 a3 a4 k, LeO (QaI.f k a0 a1 a2 a3 a4) (QaI.f (k + 1) a0 a1 a2 a3 a4) := by
 intro a0 a1 a2 a3 a4 k
 have ih0 := QaI.mono_l k
 unfold QaI.f
 exact ZM7 ih0 QaL.mono QaY.mono Qa0.mono Qa4.mono Qav.mono QaX.mono
theorem QaI.calls (k : Nat) (A0 : Option Addr) (c0 : Nat) (l0 : List (S46)) (a1_0 : ByteArray) (a1_1 : ByteArray) (A2 : Option Addr) (c2 : Nat) (l2 : List (S84)) (A3 : Option Addr) (c3 : Nat) (l3 : List (S98)) (r1 : Int) (r2 : Int) (w : World) (hr0 : Kd.C k46 w A0 l0.length l0) (hc0 : l0.length ≤ c0) (hr2 : Kd.C k84 w A2 l2.length l2) (hc2 : l2.length ≤ c2) (hr3 : Kd.C k98 w A3 l3.length l3) (hc3 : l3.length ≤ c3) (h : QaI.f k l0 a1_0 a1_1 l2 l3 = some (r1, r2)) :
  Calls Try.prog 85 #[.slice A0 l0.length c0, .agg #[.string a1_0, .string a1_1], .slice A2 l2.length c2, .slice A3 l3.length c3] w fun e w' => e = .returned (.tuple #[.int .i64 r1, .int .i64 r2]) ∧ Below w.heap.size w w' := by
 have hu44 := Try.underlying44
 have hu46 := Try.underlying46
 have hu84 := Try.underlying84
 have HR0 := Aside0.mk hr0
 have HC0 := Aside0.mk hc0
 clear hr0 hc0
 have HR2 := Aside0.mk hr2
 have HC2 := Aside0.mk hc2
 clear hr2 hc2
 have HR3 := Aside0.mk hr3
 have HC3 := Aside0.mk hc3
 clear hr3 hc3
 have HB := Aside0.mk (Below.refl w.heap.size w)
 have H : ((Qav.f k l0).bind fun t208 => (if t208 = 0 then ((QaL.f k l2).bind fun t209 => (if t209 = 0 then ((QaX.f k l0 a1_0 a1_1).bind fun t210 => (QaI.l0 k l2 l3 ([] : List Int) t210 (t210.length : Int) 0)) else (some (0, t209)))) else (some (0, t208)))) = some (r1, r2) := h
 clear h
 replace H := Option.bind_eq_some_iff.mp H
 obtain ⟨t208, A50, H⟩ := H
 replace H : (if t208 = 0 then ((QaL.f k l2).bind fun t209 => (if t209 = 0 then ((QaX.f k l0 a1_0 a1_1).bind fun t210 => (QaI.l0 k l2 l3 ([] : List Int) t210 (t210.length : Int) 0)) else (some (0, t209)))) else (some (0, t208))) = some (r1, r2) := H
 have A5 := Aside0.mk A50
 clear A50
 go_enter Try.func85, Try.ntmps85
 go_upto_if 20 with (first | ((with_reducible refine QaD (N := 5) rfl ?_); refine Zbx (N := 5) (cs := #[.string a1_0, .string a1_1]) (t := 44) ?_; intro gb207 hg w6 hbox hb; have BK207 := Aside0.mk (hbox); have GW207 := Aside0.mk (Zt w hg (Zb)); have GE207 := GW207; replace HB := Aside0.mk (Qao (Zb) hb); clear hb hbox hg) | ((with_reducible refine Qax (f := 71) rfl ?_); refine goesL_ (some 18) rfl rfl Try.func71 (by kernel_rfl) rfl #[.slice A0 l0.length c0] rfl (Zl) ?_; (with_reducible refine (Qav.calls k _ _ l0 t208 _ ?side1 ?side2 A5.out).mono ?_); (case side1 => exact Zv (Kd.C_below HR0.out HB.out)); (case side2 => exact HC0.out); rintro e w7 ⟨rfl, hb⟩; refine ⟨_, rfl, ?_⟩; replace BK207 := Aside0.mk (Zi BK207.out hb); replace HB := Aside0.mk (Qao (Zc1 GE207.out) hb); (try clear hb); (try clear hb2); (try clear hk); (try clear hi)))
 (try simp only [Act.put, Zj, Zk, Zm])
 by_cases c8 : t208 = 0
 ·rw [if_pos c8] at H
  have c8b0 : (t208 == 0) = T := beq_iff_eq.mpr c8
  have c8b1 : (t208 != 0) = F := bne_eq_false_iff_eq.mpr c8
  clear c8
  (try simp only [c8b0, c8b1])
  replace H := Option.bind_eq_some_iff.mp H
  obtain ⟨t209, A90, H⟩ := H
  replace H : (if t209 = 0 then ((QaX.f k l0 a1_0 a1_1).bind fun t210 => (QaI.l0 k l2 l3 ([] : List Int) t210 (t210.length : Int) 0)) else (some (0, t209))) = some (r1, r2) := H
  have A9 := Aside0.mk A90
  clear A90
  go_upto_if 25 with (first | ((with_reducible refine Qax (f := 116) rfl ?_); refine goesL_ (some 23) rfl rfl Try.func116 (by kernel_rfl) rfl #[.slice A2 l2.length c2] rfl (Zl) ?_; (with_reducible refine (QaL.calls k _ _ l2 t209 _ ?side1 ?side2 A9.out).mono ?_); (case side1 => exact Zv (Kd.C_below HR2.out HB.out)); (case side2 => exact HC2.out); rintro e w10 ⟨rfl, hb⟩; refine ⟨_, rfl, ?_⟩; replace BK207 := Aside0.mk (Zi BK207.out hb); replace HB := Aside0.mk (Qao (Zc1 GE207.out) hb); (try clear hb); (try clear hb2); (try clear hk); (try clear hi)))
  (try simp only [Act.put, Zj, Zk, Zm])
  by_cases c11 : t209 = 0
  ·rw [if_pos c11] at H
   have c11b0 : (t209 == 0) = T := beq_iff_eq.mpr c11
   have c11b1 : (t209 != 0) = F := bne_eq_false_iff_eq.mpr c11
   clear c11
   (try simp only [c11b0, c11b1])
   replace H := Option.bind_eq_some_iff.mp H
   obtain ⟨t210, A120, H⟩ := H
   replace H : (QaI.l0 k l2 l3 ([] : List Int) t210 (t210.length : Int) 0) = some (r1, r2) := H
   have A12 := Aside0.mk A120
   clear A120
   have H' := Aside0.mk H
   clear H
   obtain ⟨hcz13_0, hfz13_0⟩ := Zy (v := (.string a1_0)) BK207.out 0
   obtain ⟨hcz13_1, hfz13_1⟩ := Zy (v := (.string a1_1)) BK207.out 1
   go_wp2_with (first | ((with_reducible refine Qax (f := 86) rfl ?_); refine goesL_ (some 29) rfl rfl Try.func86 (by kernel_rfl) rfl #[.slice A0 l0.length c0, .agg #[.string a1_0, .string a1_1]] rfl (Zl) ?_; (with_reducible refine (QaX.calls k _ _ l0 a1_0 a1_1 t210 _ ?side1 ?side2 A12.out).mono ?_); (case side1 => exact Zv (Kd.C_below HR0.out HB.out)); (case side2 => exact HC0.out); rintro e w14 ⟨v211, rfl, ho0, hb⟩; refine ⟨_, rfl, ?_⟩; have HO212 := Aside0.mk (Kd.R_lower ho0 (Qan (Zc1 GE207.out))); replace BK207 := Aside0.mk (Zi BK207.out hb); replace HB := Aside0.mk (Qao (Zc1 GE207.out) hb); (try clear hb); (try clear hb2); (try clear hk); (try clear hi); (try clear ho0); obtain ⟨Ao15, co15, eo15⟩ := Kd.R_slice HO212.out; subst eo15))
   go_loopg [10, 31] k (fun kq v10 v31 w' => ∃ (x10_1 : List Int) (x31_1 : Int), v31 = .int .i64 x31_1 ∧ Aside0 (QaI.l0 kq l2 l3 x10_1 t210 (t210.length : Int) x31_1 = some (r1, r2)) ∧ Aside0 (kq ≤ k) ∧ Aside0 (Kd.R (Kd.int .i64) 3 w' w.heap.size (fun _ => True) v10 x10_1) ∧ Aside0 (Kd.R k46 46 w' w.heap.size (fun _ => True) (.slice Ao15 t210.length co15) t210) ∧ Aside0 (w'.heap[gb207]? = some (.cells #[.string a1_0, .string a1_1] 44 (0, 0))) ∧ Aside0 (Below w.heap.size w w'))
   case atStart => exact ⟨(([] : List Int)), (0), (Zs), H', ⟨Nat.le_refl _⟩, ⟨by first | exact Kd.R_nil _ _ _ _ _ | exact Kd.N_nil _ _ _ _ _ | exact Kd.V_nil _ _ _ _ _ | exact Kd.Q_nil _ _ _ _ _ | exact Kd.S_nil _ _ _ _ _⟩, ⟨Zr HO212.out⟩, ⟨Zu BK207.out⟩, ⟨Zc1 GE207.out⟩⟩
   case round =>
    clear H'
    try clear c1
    try clear c2
    try clear p2
    try clear c3
    try clear c7
    try clear c8
    try clear c8b0
    try clear c8b1
    try clear c11
    try clear c11b0
    try clear c11b1
    try clear hcz13_0
    try clear hcz13_1
    try clear hfz13_0
    try clear hfz13_1
    obtain ⟨x10_1, x31_1, rfl, HA, HK1, HO_10, HO_29, BK207, HB⟩ := hrel
    cases gk with
    | zero => exact absurd HA.out (by simp [QaI.l0])
    | succ k1 =>
     have H := HA.out
     clear HA
     simp only [QaI.l0] at H
     by_cases c16 : x31_1 < (t210.length : Int)
     ·rw [if_pos c16] at H
      have c16b0 : decide (x31_1 < (t210.length : Int)) = T := decide_eq_true c16
      clear c16
      (try simp only [c16b0])
      by_cases c17 : 0 ≤ x31_1
      ·rw [if_pos c17] at H
       have c17b0 : decide (0 ≤ x31_1) = T := decide_eq_true c17
       clear c17
       by_cases c18 : x31_1 < (t210.length : Int)
       ·rw [if_pos c18] at H
        have c18b0 : decide (x31_1 < (t210.length : Int)) = T := decide_eq_true c18
        clear c18
        replace H := Option.bind_eq_some_iff.mp H
        obtain ⟨⟨t217, t218, t219, t220, t221, t222, t223⟩, A190, H⟩ := H
        replace H : (if t223 = T then ((Qa0.f k1 t217 t218 t219 t220 t221 t222 ((rd_T46 t210 x31_1).f2) l3).bind fun bt225 => (if bt225.2 = 0 then (if x10_1.length < 17592186044416 then (QaI.l0 k1 l2 l3 (x10_1 ++ [bt225.1]) t210 (t210.length : Int) (wrap64 (x31_1 + 1))) else (none)) else (some (0, bt225.2)))) else (some (0, 11))) = some (r1, r2) := H
        have A19 := Aside0.mk A190
        clear A190
        have p215 : 0 ≤ (x31_1 : Int) := Ze
        have q215 : x31_1 < (t210.length : Int) := Ze
        obtain ⟨ad215, e215, hx215_0, hx215_1, hx215_2, hx215_3⟩ := at_T46 (Kd.R_reads' HO_29.out).2.2 x31_1 p215 q215
        cases e215
        replace p215 := eq_true p215
        replace q215 := eq_true q215
        go_upto_if 43 with (first | ((with_reducible refine QaD (N := 12) rfl ?_); refine Zbx (N := 12) (cs := #[.string (⟨#[]⟩ : ByteArray), .string (⟨#[]⟩ : ByteArray), .string (⟨#[]⟩ : ByteArray), .int .i64 0]) (t := 46) ?_; intro gb216 hg w20 hbox hb; have BK216 := Aside0.mk (hbox); have GW216 := Aside0.mk (Zt w hg (Zc1 GE207.out)); have GE216 := GW216; have NB207_216 := Aside0.mk (Zn hg BK207.out); have NB216_207 := Aside0.mk NB207_216.out.symm; replace HO_10 := Aside0.mk (Kd.R_below (Zr HO_10.out) hb); replace HO_29 := Aside0.mk (Kd.R_below (Kd.R_elderB (Zr HO_29.out) gb216 (Nat.le_of_eq hg.symm)) hb); replace BK207 := Aside0.mk (Zi BK207.out hb); replace HB := Aside0.mk (Qao (Zc1 GE207.out) hb); clear hb hbox hg; have hnb21 := NB216_207.out; have hnc21 := NB207_216.out; obtain ⟨hcz22_0, hfz22_0⟩ := Zy (v := (.string (⟨#[]⟩ : ByteArray))) BK216.out 0; obtain ⟨hcz22_1, hfz22_1⟩ := Zy (v := (.string (⟨#[]⟩ : ByteArray))) BK216.out 1; obtain ⟨hcz22_2, hfz22_2⟩ := Zy (v := (.string (⟨#[]⟩ : ByteArray))) BK216.out 2; obtain ⟨hcz22_3, hfz22_3⟩ := Zy (v := (.int .i64 0)) BK216.out 3) | ((with_reducible refine Qax (f := 48) rfl ?_); refine goesL_ (some 39) rfl rfl Try.func48 (by kernel_rfl) rfl #[.slice A2 l2.length c2, .string ((rd_T46 t210 x31_1).f1)] rfl (Zl) ?_; (with_reducible refine (QaY.calls k1 _ _ l2 ((rd_T46 t210 x31_1).f1) t217 t218 t219 t220 t221 t222 t223 _ ?side1 ?side2 A19.out).mono ?_); (case side1 => exact Kd.C_below HR2.out (Zc2 GE207.out GE216.out)); (case side2 => exact HC2.out); rintro e w23 ⟨rfl, hb⟩; refine ⟨_, rfl, ?_⟩; replace HO_10 := Aside0.mk (Kd.R_below (by (with_reducible repeat (first | apply Kd.R_alloc | apply Kd.R_drewN | apply Kd.R_drew)); exact (Kd.R_mono (Zf gb216 3 (Zf gb216 2 (Zf gb216 1 (Zf gb216 0 (Kd.R_types HO_10.out BK216.out (by decide)) (.string ((rd_T46 t210 x31_1).f0.f0))) (.string ((rd_T46 t210 x31_1).f0.f1))) (.string ((rd_T46 t210 x31_1).f1))) (.int .i64 ((rd_T46 t210 x31_1).f2))) (fun _ h_ => h_.1))) hb); replace HO_29 := Aside0.mk (Kd.R_below (by (with_reducible repeat (first | apply Kd.R_alloc | apply Kd.R_drewN | apply Kd.R_drew)); exact (Kd.R_mono (Zf gb216 3 (Zf gb216 2 (Zf gb216 1 (Zf gb216 0 (Kd.R_mono HO_29.out (fun k_ hk => (⟨hk, hk.2⟩ : _ ∧ k_ ≠ gb216))) (.string ((rd_T46 t210 x31_1).f0.f0))) (.string ((rd_T46 t210 x31_1).f0.f1))) (.string ((rd_T46 t210 x31_1).f1))) (.int .i64 ((rd_T46 t210 x31_1).f2))) (fun _ h_ => h_.1))) hb); replace BK207 := Aside0.mk (Qaj (g := gb207) (o := .cells #[.string a1_0, .string a1_1] 44 (0, 0)) (Zg4 BK207.out NB207_216.out NB207_216.out NB207_216.out NB207_216.out) hb); replace BK216 := Aside0.mk (Zpi #[.string ((rd_T46 t210 x31_1).f0.f0), .string ((rd_T46 t210 x31_1).f0.f1), .string ((rd_T46 t210 x31_1).f1), .int .i64 ((rd_T46 t210 x31_1).f2)] BK216.out hb); replace HB := Aside0.mk (Qao (Zc2 GE207.out GE216.out) hb); (try clear hb); (try clear hb2); (try clear hk); (try clear hi)) | ((with_reducible refine QaD (N := 13) rfl ?_); refine Zbx (N := 13) (cs := #[.string (⟨#[]⟩ : ByteArray), .int .i64 0, .int .i64 0, .int .i64 0, .int .i64 0, .int .i64 0]) (t := 84) ?_; intro gb224 hg w24 hbox hb; have BK224 := Aside0.mk (hbox); have GW224 := Aside0.mk (Zt w hg (Zc2 GE207.out GE216.out)); have GE224 := GW224; have NB207_224 := Aside0.mk (Zn hg BK207.out); have NB224_207 := Aside0.mk NB207_224.out.symm; have NB216_224 := Aside0.mk (Zn hg BK216.out); have NB224_216 := Aside0.mk NB216_224.out.symm; replace HO_10 := Aside0.mk (Kd.R_below (Zr HO_10.out) hb); replace HO_29 := Aside0.mk (Kd.R_below (Zr HO_29.out) hb); replace BK207 := Aside0.mk (Zi BK207.out hb); replace BK216 := Aside0.mk (Zi BK216.out hb); replace HB := Aside0.mk (Qao (Zc2 GE207.out GE216.out) hb); clear hb hbox hg; have hnb25 := NB224_207.out; have hnc25 := NB207_224.out; have hnb26 := NB224_216.out; have hnc26 := NB216_224.out; obtain ⟨hcz27_0, hfz27_0⟩ := Zy (v := (.string (⟨#[]⟩ : ByteArray))) BK224.out 0; obtain ⟨hcz27_1, hfz27_1⟩ := Zy (v := (.int .i64 0)) BK224.out 1; obtain ⟨hcz27_2, hfz27_2⟩ := Zy (v := (.int .i64 0)) BK224.out 2; obtain ⟨hcz27_3, hfz27_3⟩ := Zy (v := (.int .i64 0)) BK224.out 3; obtain ⟨hcz27_4, hfz27_4⟩ := Zy (v := (.int .i64 0)) BK224.out 4; obtain ⟨hcz27_5, hfz27_5⟩ := Zy (v := (.int .i64 0)) BK224.out 5))
        (try simp only [Act.put, Zj, Zk, Zm])
        by_cases c28 : t223 = T
        ·subst c28
         have H1 : ((Qa0.f k1 t217 t218 t219 t220 t221 t222 ((rd_T46 t210 x31_1).f2) l3).bind fun bt225 => (if bt225.2 = 0 then (if x10_1.length < 17592186044416 then (QaI.l0 k1 l2 l3 (x10_1 ++ [bt225.1]) t210 (t210.length : Int) (wrap64 (x31_1 + 1))) else (none)) else (some (0, bt225.2)))) = some (r1, r2) := by rw [if_pos rfl] at H; exact H
         clear H
         have H := H1
         clear H1
         replace H := Option.bind_eq_some_iff.mp H
         obtain ⟨⟨t225, t226⟩, A290, H⟩ := H
         replace H : (if t226 = 0 then (if x10_1.length < 17592186044416 then (QaI.l0 k1 l2 l3 (x10_1 ++ [t225]) t210 (t210.length : Int) (wrap64 (x31_1 + 1))) else (none)) else (some (0, t226))) = some (r1, r2) := H
         have A29 := Aside0.mk A290
         clear A290
         have hnb30 := NB224_207.out
         have hnc30 := NB207_224.out
         have hnb31 := NB224_216.out
         have hnc31 := NB216_224.out
         obtain ⟨hcz32_0, hfz32_0⟩ := Zy (v := (.string (⟨#[]⟩ : ByteArray))) BK224.out 0
         obtain ⟨hcz32_1, hfz32_1⟩ := Zy (v := (.int .i64 0)) BK224.out 1
         obtain ⟨hcz32_2, hfz32_2⟩ := Zy (v := (.int .i64 0)) BK224.out 2
         obtain ⟨hcz32_3, hfz32_3⟩ := Zy (v := (.int .i64 0)) BK224.out 3
         obtain ⟨hcz32_4, hfz32_4⟩ := Zy (v := (.int .i64 0)) BK224.out 4
         obtain ⟨hcz32_5, hfz32_5⟩ := Zy (v := (.int .i64 0)) BK224.out 5
         have hnb33 := NB216_207.out
         have hnc33 := NB207_216.out
         obtain ⟨hcz34_0, hfz34_0⟩ := Zy (v := (.string ((rd_T46 t210 x31_1).f0.f0))) BK216.out 0
         obtain ⟨hcz34_1, hfz34_1⟩ := Zy (v := (.string ((rd_T46 t210 x31_1).f0.f1))) BK216.out 1
         obtain ⟨hcz34_2, hfz34_2⟩ := Zy (v := (.string ((rd_T46 t210 x31_1).f1))) BK216.out 2
         obtain ⟨hcz34_3, hfz34_3⟩ := Zy (v := (.int .i64 ((rd_T46 t210 x31_1).f2))) BK216.out 3
         go_upto_if 53 with (first | ((with_reducible refine Qax (f := 82) rfl ?_); refine goesL_ (some 49) rfl rfl Try.func82 (by kernel_rfl) rfl #[.agg #[.string t217, .int .i64 t218, .int .i64 t219, .int .i64 t220, .int .i64 t221, .int .i64 t222], .int .i64 ((rd_T46 t210 x31_1).f2), .slice A3 l3.length c3] rfl (Zl) ?_; (with_reducible refine (Qa0.calls k1 t217 t218 t219 t220 t221 t222 ((rd_T46 t210 x31_1).f2) _ _ l3 t225 t226 _ ?side1 ?side2 A29.out).mono ?_); (case side1 => exact Kd.C_below HR3.out (Zc3 GE207.out GE216.out GE224.out)); (case side2 => exact HC3.out); rintro e w35 ⟨rfl, hb⟩; refine ⟨_, rfl, ?_⟩; replace HO_10 := Aside0.mk (Kd.R_below (by (with_reducible repeat (first | apply Kd.R_alloc | apply Kd.R_drewN | apply Kd.R_drew)); exact (Kd.R_mono (Zf gb224 5 (Zf gb224 4 (Zf gb224 3 (Zf gb224 2 (Zf gb224 1 (Zf gb224 0 (Kd.R_types HO_10.out BK224.out (by decide)) (.string t217)) (.int .i64 t218)) (.int .i64 t219)) (.int .i64 t220)) (.int .i64 t221)) (.int .i64 t222)) (fun _ h_ => h_.1))) hb); replace HO_29 := Aside0.mk (Kd.R_below (by (with_reducible repeat (first | apply Kd.R_alloc | apply Kd.R_drewN | apply Kd.R_drew)); exact (Kd.R_mono (Zf gb224 5 (Zf gb224 4 (Zf gb224 3 (Zf gb224 2 (Zf gb224 1 (Zf gb224 0 (Kd.R_types HO_29.out BK224.out (by decide)) (.string t217)) (.int .i64 t218)) (.int .i64 t219)) (.int .i64 t220)) (.int .i64 t221)) (.int .i64 t222)) (fun _ h_ => h_.1))) hb); replace BK207 := Aside0.mk (Qaj (g := gb207) (o := .cells #[.string a1_0, .string a1_1] 44 (0, 0)) (Zg6 BK207.out NB207_224.out NB207_224.out NB207_224.out NB207_224.out NB207_224.out NB207_224.out) hb); replace BK216 := Aside0.mk (Qaj (g := gb216) (o := .cells #[.string ((rd_T46 t210 x31_1).f0.f0), .string ((rd_T46 t210 x31_1).f0.f1), .string ((rd_T46 t210 x31_1).f1), .int .i64 ((rd_T46 t210 x31_1).f2)] 46 (0, 0)) (Zg6 BK216.out NB216_224.out NB216_224.out NB216_224.out NB216_224.out NB216_224.out NB216_224.out) hb); replace BK224 := Aside0.mk (Zpi #[.string t217, .int .i64 t218, .int .i64 t219, .int .i64 t220, .int .i64 t221, .int .i64 t222] BK224.out hb); replace HB := Aside0.mk (Qao (Zc3 GE207.out GE216.out GE224.out) hb); (try clear hb); (try clear hb2); (try clear hk); (try clear hi)))
         (try simp only [Act.put, Zj, Zk, Zm])
         by_cases c36 : t226 = 0
         ·rw [if_pos c36] at H
          have c36b0 : (t226 == 0) = T := beq_iff_eq.mpr c36
          have c36b1 : (t226 != 0) = F := bne_eq_false_iff_eq.mpr c36
          clear c36
          (try simp only [c36b0, c36b1])
          by_cases c37 : x10_1.length < 17592186044416
          ·rw [if_pos c37] at H
           have LMc37 := Aside0.mk c37
           clear c37
           obtain ⟨y227, hy227⟩ : ∃ y_ : List Int, y_ = (x10_1 ++ [t225]) := ⟨_, rfl⟩
           replace H : (QaI.l0 k1 l2 l3 y227 t210 (t210.length : Int) (wrap64 (x31_1 + 1))) = some (r1, r2) := by first | (rw [hy227]; with_reducible exact H) | (have H2_ := (Option.bind_some _ _).symm.trans H; rw [hy227]; with_reducible exact H2_) | (have H2_ := (Option.bind_some _ _).symm.trans H; with_reducible exact H2_) | with_reducible exact H | (rw [hy227]; exact H) | exact H
           have Ny227 := Aside0.mk hy227
           clear hy227
           have H' := Aside0.mk H
           clear H
           go_wp2_with (first | ((with_reducible refine QbN (b := .append) (xs := #[.tmp 55, .tmp 57]) rfl ?_); at_builtin; refine Kd.R_append (Kd.int .i64) (w0 := w) w.heap.size rfl (.tmp 55) (.tmp 57) 63 3 (.int .i64 0) 8 rfl Try.underlying63 info3 rfl (by decide) (by omega) u10 x10_1 t225 [.int .i64 t225] (fun _ => True) (fun _ => False) rfl rfl ?aP (fun _ hk => hk.elim) ?aF ?aO ?aB ?aS ?aL ?_; (case aP => exact rfl); (case aB => exact (Zc3 GE207.out GE216.out GE224.out)); (case aF => exact (fun _ _ => trivial)); (case aO => exact (Zr HO_10.out)); (case aS => exact (Qan (Zc3 GE207.out GE216.out GE224.out))); (case aL => have := LMc37.out; omega); intro v228 w38 ho hb hg hat; rw [← Ny227.out] at ho; have HO229 := Aside0.mk (ho); replace HO_29 := Aside0.mk (Kd.R_over' (Zr HO_29.out) (Kd.R_typed (Zr HO_10.out)) (by decide) hg); replace BK207 := Aside0.mk (Qa6 (g := gb207) (o := .cells #[.string a1_0, .string a1_1] 44 (0, 0)) (Zu BK207.out) hg (Kd.R_ne HO_10.out BK207.out (by decide))); replace BK216 := Aside0.mk (Qa6 (g := gb216) (o := .cells #[.string ((rd_T46 t210 x31_1).f0.f0), .string ((rd_T46 t210 x31_1).f0.f1), .string ((rd_T46 t210 x31_1).f1), .int .i64 ((rd_T46 t210 x31_1).f2)] 46 (0, 0)) (Zu BK216.out) hg (Kd.R_ne HO_10.out BK216.out (by decide))); replace BK224 := Aside0.mk (Qa6 (g := gb224) (o := .cells #[.string t217, .int .i64 t218, .int .i64 t219, .int .i64 t220, .int .i64 t221, .int .i64 t222] 84 (0, 0)) (Zu BK224.out) hg (Kd.R_ne HO_10.out BK224.out (by decide))); replace HB := Aside0.mk (hb); clear HO_10; clear ho hb hg hat))
           go_roundg k1
           case measure => have := HK1.out; omega
           case rel => exact ⟨(y227), (wrap64 (x31_1 + 1)), (Zs), H', ⟨by have := HK1.out; omega⟩, ⟨Zr HO229.out⟩, ⟨by (with_reducible repeat (first | apply Kd.R_alloc | apply Kd.R_drewN | apply Kd.R_drew)); exact Kd.R_mono HO_29.out (fun _ hk => trivial)⟩, ⟨Zu BK207.out⟩, ⟨Zc3 GE207.out GE216.out GE224.out⟩⟩
          rw [if_neg c37] at H
          exact absurd H (by simp)
         rw [if_neg c36] at H
         have c36b0 : (t226 == 0) = F := beq_eq_false_iff_ne.mpr c36
         have c36b1 : (t226 != 0) = T := bne_iff_ne.mpr c36
         (try simp only [c36b0, c36b1])
         simp only [Option.some.injEq, Prod.mk.injEq] at H
         obtain ⟨rfl, rfl⟩ := H
         go_wp2
         go_ret2
         exact ⟨Zq, Zc3 GE207.out GE216.out GE224.out⟩
        replace c28 := Bool.eq_false_iff.mpr c28
        subst c28
        have H1 : (some (0, 11)) = some (r1, r2) := by rw [if_neg (show ¬ (F = T) by decide)] at H; exact H
        clear H
        have H := H1
        clear H1
        simp only [Option.some.injEq, Prod.mk.injEq] at H
        obtain ⟨rfl, rfl⟩ := H
        go_wp2
        go_ret2
        exact ⟨Zq, Zc3 GE207.out GE216.out GE224.out⟩
       rw [if_neg c18] at H
       exact absurd H (by simp)
      rw [if_neg c17] at H
      exact absurd H (by simp)
     rw [if_neg c16] at H
     have c16b0 : decide (x31_1 < (t210.length : Int)) = F := decide_eq_false c16
     clear c16
     (try simp only [c16b0])
     replace H := Option.bind_eq_some_iff.mp H
     obtain ⟨⟨t213, t214⟩, A390, H⟩ := H
     replace H : (some (t213, t214)) = some (r1, r2) := H
     have A39 := Aside0.mk A390
     clear A390
     simp only [Option.some.injEq, Prod.mk.injEq] at H
     obtain ⟨rfl, rfl⟩ := H
     obtain ⟨Ao40, co40, eo40⟩ := Kd.R_slice HO_10.out
     subst eo40
     go_wp2_with (first | ((with_reducible refine Qax (f := 59) rfl ?_); refine goesL_ (some 61) rfl rfl Try.func59 (by kernel_rfl) rfl #[.slice Ao40 x10_1.length co40] rfl (Zl) ?_; (with_reducible refine (Qa4.calls k1 _ _ x10_1 t213 t214 _ ?side1 ?side2 A39.out).mono ?_); (case side1 => exact Zv (Kd.R_reads' HO_10.out).2.2); (case side2 => exact (Kd.R_reads' HO_10.out).2.1); rintro e w' ⟨rfl, ⟨nd, rfl⟩⟩; refine ⟨_, rfl, ?_⟩))
     go_ret2
     exact ⟨Zq, Zc1 GE207.out⟩
  rw [if_neg c11] at H
  have c11b0 : (t209 == 0) = F := beq_eq_false_iff_ne.mpr c11
  have c11b1 : (t209 != 0) = T := bne_iff_ne.mpr c11
  (try simp only [c11b0, c11b1])
  simp only [Option.some.injEq, Prod.mk.injEq] at H
  obtain ⟨rfl, rfl⟩ := H
  go_wp2
  go_ret2
  exact ⟨Zq, Zc1 GE207.out⟩
 rw [if_neg c8] at H
 have c8b0 : (t208 == 0) = F := beq_eq_false_iff_ne.mpr c8
 have c8b1 : (t208 != 0) = T := bne_iff_ne.mpr c8
 (try simp only [c8b0, c8b1])
 simp only [Option.some.injEq, Prod.mk.injEq] at H
 obtain ⟨rfl, rfl⟩ := H
 go_wp2
 go_ret2
 exact ⟨Zq, Zc1 GE207.out⟩
def Qar.l0 : Nat → List (S46) → Int → Int → ByteArray → ByteArray → ByteArray → Int → Option (Int × Bool)
 | 0, _, _, _, _, _, _, _ => none
 | k + 1, x0, x8, x9, x612000, x612001, x612002, x612003 => if x8 < x9 then (if 0 ≤ (wrap64 (Int.tdiv (wrap64 (x8 + x9)) 2)) then (if (wrap64 (Int.tdiv (wrap64 (x8 + x9)) 2)) < (x0.length : Int) then ((Qbh.f ((rd_T46 x0 (wrap64 (Int.tdiv (wrap64 (x8 + x9)) 2))).f0.f0) ((rd_T46 x0 (wrap64 (Int.tdiv (wrap64 (x8 + x9)) 2))).f0.f1) ((rd_T46 x0 (wrap64 (Int.tdiv (wrap64 (x8 + x9)) 2))).f1) ((rd_T46 x0 (wrap64 (Int.tdiv (wrap64 (x8 + x9)) 2))).f2) x612000 x612001 x612002 x612003).bind fun t613 => (if t613 < 0 then (Qar.l0 k x0 (wrap64 ((wrap64 (Int.tdiv (wrap64 (x8 + x9)) 2)) + 1)) x9 x612000 x612001 x612002 x612003) else (Qar.l0 k x0 x8 (wrap64 (Int.tdiv (wrap64 (x8 + x9)) 2)) x612000 x612001 x612002 x612003))) else (none)) else (none)) else (if x8 < (x0.length : Int) then (if 0 ≤ x8 then ((Qbh.f ((rd_T46 x0 x8).f0.f0) ((rd_T46 x0 x8).f0.f1) ((rd_T46 x0 x8).f1) ((rd_T46 x0 x8).f2) x612000 x612001 x612002 x612003).bind fun t615 => (some (x8, (t615 == 0)))) else (none)) else (some (x8, F)))
def Qar.f (k : Nat) (l0 : List (S46)) (a1_0 : ByteArray) (a1_1 : ByteArray) (a1_2 : ByteArray) (a1_3 : Int)  : Option (Int × Bool) := Qar.l0 k l0 0 (l0.length : Int) a1_0 a1_1 a1_2 a1_3
theorem Qar.mono_l : ∀ k, (∀ y0 y1 y2 y3 y4 y5 y6, LeO (Qar.l0 k y0 y1 y2 y3 y4 y5 y6) (Qar.l0 (k + 1) y0 y1 y2 y3 y4 y5 y6))
 | 0 => fun _ _ _ _ _ _ _ r h => by simp [Qar.l0] at h
 | k + 1 => by
  have ih0 := Qar.mono_l k
  intro y0 y1 y2 y3 y4 y5 y6
  unfold Qar.l0
  exact ZM1 ih0
theorem Qar.mono : ∀ a0 a1 a2 a3 a4 k, LeO (Qar.f k a0 a1 a2 a3 a4) (Qar.f (k + 1) a0 a1 a2 a3 a4) := by
 intro a0 a1 a2 a3 a4 k
 have ih0 := Qar.mono_l k
 unfold Qar.f
 exact ZM1 ih0
def Qar.T4 : Bool × List (List Nat × List Nat) := (T, [([], []), ([], []), ([], []), ([1, 2], [1, 2]), ([3], [3]), ([], []), ([0, 4, 5], [0, 4, 5]), ([6], [6])])
def Qar.B4 : List Nat := [0, 0, 0, 6, 14, 0, 63, 127]
theorem Qar.tab4 : rtab .any (opsOf Try.f73 4) = Qar.T4 := by kernel_rfl
theorem Qar.bits4 : QbO Qar.T4.2 Qar.B4 = T := by kernel_rfl
def Qar.T7 : Bool × List (List Nat × List Nat) := (T, [([], []), ([], []), ([], []), ([2], [2]), ([1, 3], [1, 3]), ([4], [4]), ([5], [5]), ([5], [5]), ([5], [5]), ([7, 8, 5], [5, 7, 8]), ([9, 5], [5, 9]), ([5], [5]), ([6, 10, 11, 5, 5], [5, 6, 10, 11]), ([12, 5], [5, 12]), ([5, 13], [5, 13]), ([0, 12, 0], [0]), ([14, 15, 0, 1, 2, 3, 4, 5, 6, 7, 8, 9, 10, 11, 12, 13, 14, 15], [14])])
def Qar.B7 : List Nat := [0, 0, 0, 4, 14, 30, 62, 62, 62, 446, 958, 62, 4094, 8190, 16382, 8191, 65535]
theorem Qar.tab7 : rtab .any (opsOf Try.f73 7) = Qar.T7 := by kernel_rfl
theorem Qar.bits7 : QbO Qar.T7.2 Qar.B7 = T := by kernel_rfl
theorem Qar.calls (k : Nat) (A0 : Option Addr) (c0 : Nat) (l0 : List (S46)) (a1_0 : ByteArray) (a1_1 : ByteArray) (a1_2 : ByteArray) (a1_3 : Int)  (r1 : Int) (r2 : Bool) (w : World) (hr0 : Kd.C k46 w A0 l0.length l0) (hc0 : l0.length ≤ c0) (h : Qar.f k l0 a1_0 a1_1 a1_2 a1_3 = some (r1, r2)) :
  Calls Try.prog 73 #[.slice A0 l0.length c0, .agg #[.string a1_0, .string a1_1, .string a1_2, .int .i64 a1_3], .func (.func 74) #[] #[]] w fun e w' => e = .returned (.tuple #[.int .i64 r1, .bool r2]) ∧ Below w.heap.size w w' := by
 have hu46 := Try.underlying46
 have HR0 := Aside0.mk hr0
 have HC0 := Aside0.mk hc0
 clear hr0 hc0
 have HB := Aside0.mk (Below.refl w.heap.size w)
 have H : (Qar.l0 k l0 0 (l0.length : Int) a1_0 a1_1 a1_2 a1_3) = some (r1, r2) := h
 clear h
 have H' := Aside0.mk H
 clear H
 go_enter Try.func73, Try.ntmps73
 go_wp2_with (first | ((with_reducible refine QaD (N := 4) rfl ?_); refine Zbx (N := 4) (cs := #[.string a1_0, .string a1_1, .string a1_2, .int .i64 a1_3]) (t := 46) ?_; intro gb611 hg w4 hbox hb; have BK611 := Aside0.mk (hbox); have GW611 := Aside0.mk (Zt w hg (Zb)); have GE611 := GW611; replace HB := Aside0.mk (Qao (Zb) hb); clear hb hbox hg))
 go_loopg [8, 9] k (fun kq v8 v9 w' => ∃ (x8_1 : Int) (x9_1 : Int), v8 = .int .i64 x8_1 ∧ v9 = .int .i64 x9_1 ∧ Aside0 (Qar.l0 kq l0 x8_1 x9_1 a1_0 a1_1 a1_2 a1_3 = some (r1, r2)) ∧ Aside0 (kq ≤ k) ∧ Aside0 (w'.heap[gb611]? = some (.cells #[.string a1_0, .string a1_1, .string a1_2, .int .i64 a1_3] 46 (0, 0))) ∧ Aside0 (Below w.heap.size w w'))
 case atStart => exact ⟨(0), ((l0.length : Int)), (Zs), (Zs), H', ⟨Nat.le_refl _⟩, ⟨Zu BK611.out⟩, ⟨Zc1 GE611.out⟩⟩
 case round =>
  clear H'
  try clear p2
  obtain ⟨x8_1, x9_1, rfl, rfl, HA, HK1, BK611, HB⟩ := hrel
  cases gk with
  | zero => exact absurd HA.out (by simp [Qar.l0])
  | succ k1 =>
   have H := HA.out
   clear HA
   simp only [Qar.l0] at H
   by_cases c5 : x8_1 < x9_1
   ·rw [if_pos c5] at H
    have c5b0 : decide (x8_1 < x9_1) = T := decide_eq_true c5
    clear c5
    (try simp only [c5b0])
    obtain ⟨ji6, hji6⟩ : ∃ j_ : Int, (wrap64 (Int.tdiv (wrap64 (x8_1 + x9_1)) 2)) = j_ := ⟨_, rfl⟩
    replace H : (if 0 ≤ (ji6) then (if (ji6) < (l0.length : Int) then ((Qbh.f ((rd_T46 l0 (ji6)).f0.f0) ((rd_T46 l0 (ji6)).f0.f1) ((rd_T46 l0 (ji6)).f1) ((rd_T46 l0 (ji6)).f2) a1_0 a1_1 a1_2 a1_3).bind fun t613 => (if t613 < 0 then (Qar.l0 k1 l0 (wrap64 ((ji6) + 1)) x9_1 a1_0 a1_1 a1_2 a1_3) else (Qar.l0 k1 l0 x8_1 ji6 a1_0 a1_1 a1_2 a1_3))) else (none)) else (none)) = some (r1, r2) := by first | (rw [hji6] at H; exact H) | (simp only [hji6] at H ⊢; exact H)
    have hji6w : (IntKind.i64.wrap (Int.tdiv (wrap64 (x8_1 + x9_1)) 2)) = ji6 := (i64_w _).trans hji6
    by_cases c7 : 0 ≤ (ji6)
    ·rw [if_pos c7] at H
     have c7b0 : decide (0 ≤ (ji6)) = T := decide_eq_true c7
     clear c7
     by_cases c8 : (ji6) < (l0.length : Int)
     ·rw [if_pos c8] at H
      have c8b0 : decide ((ji6) < (l0.length : Int)) = T := decide_eq_true c8
      clear c8
      replace H := Option.bind_eq_some_iff.mp H
      obtain ⟨t613, A90, H⟩ := H
      replace H : (if t613 < 0 then (Qar.l0 k1 l0 (wrap64 ((ji6) + 1)) x9_1 a1_0 a1_1 a1_2 a1_3) else (Qar.l0 k1 l0 x8_1 ji6 a1_0 a1_1 a1_2 a1_3)) = some (r1, r2) := H
      have A9 := Aside0.mk A90
      clear A90
      try go_wp2
      replace BK611 := Aside0.mk (Qac BK611.out)
      replace HB := Aside0.mk (Qai HB.out)
      have p612 : 0 ≤ ((ji6) : Int) := Ze
      have q612 : (ji6) < (l0.length : Int) := Ze
      obtain ⟨ad612, e612, hx612_0, hx612_1, hx612_2, hx612_3⟩ := at_T46 HR0.out (ji6) p612 q612
      have hw612_3 := hx612_3
      have hw612_2 := hx612_2
      have hw612_1 := hx612_1
      have hw612_0 := hx612_0
      cases e612
      replace hx612_0 := Zx HB.out hx612_0
      replace hx612_1 := Zx HB.out hx612_1
      replace hx612_2 := Zx HB.out hx612_2
      replace hx612_3 := Zx HB.out hx612_3
      replace p612 := eq_true p612
      replace q612 := eq_true q612
      refine start_ (n := 8) (S := fun w' => w'.cell? ⟨gb611, 0, none⟩ = some (.string a1_0) ∧ w'.cell? ⟨gb611, 1, none⟩ = some (.string a1_1) ∧ w'.cell? ⟨gb611, 2, none⟩ = some (.string a1_2) ∧ w'.cell? ⟨gb611, 3, none⟩ = some (.int .i64 a1_3) ∧ w'.cell? (ad612.add (((ji6)).toNat * 4)) = some (.string ((rd_T46 l0 (ji6)).f0.f0)) ∧ w'.cell? ⟨(ad612.add (((ji6)).toNat * 4)).block, (ad612.add (((ji6)).toNat * 4)).off + 1, none⟩ = some (.string ((rd_T46 l0 (ji6)).f0.f1)) ∧ w'.cell? ⟨(ad612.add (((ji6)).toNat * 4)).block, (ad612.add (((ji6)).toNat * 4)).off + 2, none⟩ = some (.string ((rd_T46 l0 (ji6)).f1)) ∧ w'.cell? ⟨(ad612.add (((ji6)).toNat * 4)).block, (ad612.add (((ji6)).toNat * 4)).off + 3, none⟩ = some (.int .i64 ((rd_T46 l0 (ji6)).f2))) (ds := []) #[F, F, F, F, F, F, F, F] (by kernel_rfl) rfl rfl ⟨(Qag BK611.out 0).trans rfl, (Qag BK611.out 1).trans rfl, (Qag BK611.out 2).trans rfl, (Qag BK611.out 3).trans rfl, ((HB.out.cell (World.block_lt_of_cell? w _ hw612_0)).trans hw612_0), ((HB.out.cell (World.block_lt_of_cell? w _ hw612_1)).trans hw612_1), ((HB.out.cell (World.block_lt_of_cell? w _ hw612_2)).trans hw612_2), ((HB.out.cell (World.block_lt_of_cell? w _ hw612_3)).trans hw612_3)⟩ (fun hHeld => ?_); refine QbM Qar.tab4 Qar.bits4 (fun HT_ HW_ => ?_)
      generalize wr.drew = w10 at BK611 HB hx612_0 hx612_1 hx612_2 hx612_3 hHeld ⊢
      refine pure_ (i := 0) (N := some 20) (v := ?_) (a' := ?_) #[T, F, F, F, F, F, F, F] rfl rfl (any_of HT_.out (by kernel_rfl)) (fun _ _ _ h => h) (Or.inl ⟨by rfl, ?_⟩) ?_ ?_
      rotate_left
      ·intro w'
       go_simp
       with_reducible rfl
      rotate_left
      ·simp only [Act.put, Zj, Zk, Zm, i64_w, i32_w]
       rfl
      refine pure_ (i := 1) (N := some 21) (v := ?_) (a' := ?_) #[T, T, F, F, F, F, F, F] rfl rfl (any_of HT_.out (by kernel_rfl)) (fun _ _ _ h => h) (Or.inl ⟨by rfl, ?_⟩) ?_ ?_
      rotate_left
      ·intro w'
       go_simp
       with_reducible rfl
      rotate_left
      ·simp only [Act.put, Zj, Zk, Zm, i64_w, i32_w]
       rfl
      refine pure_ (i := 2) (N := some 22) (v := ?_) (a' := ?_) #[T, T, T, F, F, F, F, F] rfl rfl (any_of HT_.out (by kernel_rfl)) (fun _ _ _ h => h) (Or.inl ⟨by rfl, ?_⟩) ?_ ?_
      rotate_left
      ·intro w'
       go_simp
       with_reducible rfl
      rotate_left
      ·simp only [Act.put, Zj, Zk, Zm, i64_w, i32_w]
       rfl
      refine pure_ (i := 3) (N := some 23) (v := ?_) (a' := ?_) #[T, T, T, T, F, F, F, F] rfl rfl (any_of HT_.out (by kernel_rfl)) (fun _ _ _ h => h) (Or.inl ⟨by rfl, ?_⟩) ?_ ?_
      rotate_left
      ·intro w'
       go_simp
       with_reducible rfl
      rotate_left
      ·simp only [Act.put, Zj, Zk, Zm, i64_w, i32_w]
       rfl
      refine take_ (i := 4) (N := some 24) (v := ?_) (a' := ?_) #[T, T, T, T, T, F, F, F] rfl rfl (QbB HT_.out HW_.out (by kernel_rfl)) (fun _ _ _ h => h) (Or.inl ⟨by rfl, ?_⟩) hHeld ?_ ?_
      rotate_left
      ·rintro w' ⟨s0, s1, s2, s3, s4, s5, s6, s7⟩
       go_simp
       with_reducible rfl
      rotate_left
      ·simp only [Act.put, Zj, Zk, Zm, i64_w, i32_w]
       rfl
      refine take_ (i := 5) (N := some 25) (v := ?_) (a' := ?_) #[T, T, T, T, T, T, F, F] rfl rfl (QbB HT_.out HW_.out (by kernel_rfl)) (fun _ _ _ h => h) (Or.inl ⟨by rfl, ?_⟩) hHeld ?_ ?_
      rotate_left
      ·rintro w' ⟨s0, s1, s2, s3, s4, s5, s6, s7⟩
       go_simp
       with_reducible rfl
      rotate_left
      ·simp only [Act.put, Zj, Zk, Zm, i64_w, i32_w]
       rfl
      refine one_ (i := 6) (N := some 26) #[T, T, T, T, T, T, T, F] rfl rfl (one_of HT_.out (by kernel_rfl)) (by decide) (fun K hK => ?_)
      refine goesV_ Try.func74 (by kernel_rfl) rfl #[.agg #[.string ((rd_T46 l0 (ji6)).f0.f0), .string ((rd_T46 l0 (ji6)).f0.f1), .string ((rd_T46 l0 (ji6)).f1), .int .i64 ((rd_T46 l0 (ji6)).f2)], .agg #[.string a1_0, .string a1_1, .string a1_2, .int .i64 a1_3]] (by rfl) rfl rfl rfl (by (try simp only [List.map_toArray, List.map_cons, List.map_nil]); first | done | (simp only [hji6]; rfl) | rfl | (simp only [List.length_drop, List.length_take]; rfl)) ?_
      with_reducible refine (Qbh.calls ((rd_T46 l0 (ji6)).f0.f0) ((rd_T46 l0 (ji6)).f0.f1) ((rd_T46 l0 (ji6)).f1) ((rd_T46 l0 (ji6)).f2) a1_0 a1_1 a1_2 a1_3 t613 _ A9.out).mono ?_
      rintro e w11 ⟨rfl, hb⟩
      refine ⟨_, rfl, ?_⟩
      replace BK611 := Aside0.mk (Zi BK611.out hb)
      replace HB := Aside0.mk (Qao (Zc1 GE611.out) hb)
      (try clear hb)
      (try clear hb2)
      (try clear hk)
      (try clear hi)
      refine hK.out _ _ ⟨(Qag BK611.out 0).trans rfl, (Qag BK611.out 1).trans rfl, (Qag BK611.out 2).trans rfl, (Qag BK611.out 3).trans rfl, ((HB.out.cell (World.block_lt_of_cell? w _ hw612_0)).trans hw612_0), ((HB.out.cell (World.block_lt_of_cell? w _ hw612_1)).trans hw612_1), ((HB.out.cell (World.block_lt_of_cell? w _ hw612_2)).trans hw612_2), ((HB.out.cell (World.block_lt_of_cell? w _ hw612_3)).trans hw612_3)⟩ (fun hHeld => ?_)
      clear hK K
      refine norm_ (a' := ?_) ?_ ?_
      rotate_left
      ·show Act.put _ (some 26) _ = _
       simp only [Act.put, Zj, Zk, Zm, i64_w, i32_w]
       rfl
      refine pure_ (i := 7) (N := some 27) (v := ?_) (a' := ?_) #[T, T, T, T, T, T, T, T] rfl rfl (any_of HT_.out (by kernel_rfl)) (fun _ _ _ h => h) (Or.inl ⟨by rfl, ?_⟩) ?_ ?_
      rotate_left
      ·intro w'
       go_simp
       with_reducible rfl
      rotate_left
      ·simp only [Act.put, Zj, Zk, Zm, i64_w, i32_w]
       rfl
      refine done_ (QbY HT_.out (by kernel_rfl)) ?_
      go_upto_if 27 with (fail)
      by_cases c12 : t613 < 0
      ·rw [if_pos c12] at H
       have c12b0 : decide (t613 < 0) = T := decide_eq_true c12
       clear c12
       (try simp only [c12b0])
       have H' := Aside0.mk H
       clear H
       go_wp2
       go_roundg k1
       case measure => have := HK1.out; omega
       case rel => exact ⟨(wrap64 ((ji6) + 1)), (x9_1), (by first | rfl | (simp; done) | (simp only [← hji6] <;> (first | rfl | simp)) | (simp [*]; done)), (Zs), H', ⟨by have := HK1.out; omega⟩, ⟨Zu BK611.out⟩, ⟨Zc1 GE611.out⟩⟩
      rw [if_neg c12] at H
      have c12b0 : decide (t613 < 0) = F := decide_eq_false c12
      clear c12
      (try simp only [c12b0])
      have H' := Aside0.mk H
      clear H
      go_wp2
      go_roundg k1
      case measure => have := HK1.out; omega
      case rel => exact ⟨(x8_1), (ji6), (Zs), (by first | rfl | (simp; done) | (simp only [← hji6] <;> (first | rfl | simp)) | (simp [*]; done)), H', ⟨by have := HK1.out; omega⟩, ⟨Zu BK611.out⟩, ⟨Zc1 GE611.out⟩⟩
     rw [if_neg c8] at H
     exact absurd H (by simp)
    rw [if_neg c7] at H
    exact absurd H (by simp)
   rw [if_neg c5] at H
   have c5b0 : decide (x8_1 < x9_1) = F := decide_eq_false c5
   clear c5
   (try simp only [c5b0])
   by_cases c13 : x8_1 < (l0.length : Int)
   ·rw [if_pos c13] at H
    have c13b0 : decide (x8_1 < (l0.length : Int)) = T := decide_eq_true c13
    clear c13
    by_cases c14 : 0 ≤ x8_1
    ·rw [if_pos c14] at H
     have c14b0 : decide (0 ≤ x8_1) = T := decide_eq_true c14
     clear c14
     replace H := Option.bind_eq_some_iff.mp H
     obtain ⟨t615, A150, H⟩ := H
     replace H : (some (x8_1, (t615 == 0))) = some (r1, r2) := H
     have A15 := Aside0.mk A150
     clear A150
     simp only [Option.some.injEq, Prod.mk.injEq] at H
     obtain ⟨rfl, rfl⟩ := H
     try go_wp2
     replace BK611 := Aside0.mk (Qac BK611.out)
     replace HB := Aside0.mk (Qai HB.out)
     have p614 : 0 ≤ (x8_1 : Int) := Ze
     have q614 : x8_1 < (l0.length : Int) := Ze
     obtain ⟨ad614, e614, hx614_0, hx614_1, hx614_2, hx614_3⟩ := at_T46 HR0.out x8_1 p614 q614
     have hw614_3 := hx614_3
     have hw614_2 := hx614_2
     have hw614_1 := hx614_1
     have hw614_0 := hx614_0
     cases e614
     replace hx614_0 := Zx HB.out hx614_0
     replace hx614_1 := Zx HB.out hx614_1
     replace hx614_2 := Zx HB.out hx614_2
     replace hx614_3 := Zx HB.out hx614_3
     replace p614 := eq_true p614
     replace q614 := eq_true q614
     refine start_ (n := 17) (S := fun w' => w'.cell? ⟨gb611, 0, none⟩ = some (.string a1_0) ∧ w'.cell? ⟨gb611, 1, none⟩ = some (.string a1_1) ∧ w'.cell? ⟨gb611, 2, none⟩ = some (.string a1_2) ∧ w'.cell? ⟨gb611, 3, none⟩ = some (.int .i64 a1_3) ∧ w'.cell? (ad614.add ((x8_1).toNat * 4)) = some (.string ((rd_T46 l0 x8_1).f0.f0)) ∧ w'.cell? ⟨(ad614.add ((x8_1).toNat * 4)).block, (ad614.add ((x8_1).toNat * 4)).off + 1, none⟩ = some (.string ((rd_T46 l0 x8_1).f0.f1)) ∧ w'.cell? ⟨(ad614.add ((x8_1).toNat * 4)).block, (ad614.add ((x8_1).toNat * 4)).off + 2, none⟩ = some (.string ((rd_T46 l0 x8_1).f1)) ∧ w'.cell? ⟨(ad614.add ((x8_1).toNat * 4)).block, (ad614.add ((x8_1).toNat * 4)).off + 3, none⟩ = some (.int .i64 ((rd_T46 l0 x8_1).f2))) (ds := []) #[F, F, F, F, F, F, F, F, F, F, F, F, F, F, F, F, F] (by kernel_rfl) rfl rfl ⟨(Qag BK611.out 0).trans rfl, (Qag BK611.out 1).trans rfl, (Qag BK611.out 2).trans rfl, (Qag BK611.out 3).trans rfl, ((HB.out.cell (World.block_lt_of_cell? w _ hw614_0)).trans hw614_0), ((HB.out.cell (World.block_lt_of_cell? w _ hw614_1)).trans hw614_1), ((HB.out.cell (World.block_lt_of_cell? w _ hw614_2)).trans hw614_2), ((HB.out.cell (World.block_lt_of_cell? w _ hw614_3)).trans hw614_3)⟩ (fun hHeld => ?_); refine QbM Qar.tab7 Qar.bits7 (fun HT_ HW_ => ?_)
     generalize wr.drew = w16 at BK611 HB hx614_0 hx614_1 hx614_2 hx614_3 hHeld ⊢
     refine pure_ (i := 0) (N := some 31) (v := ?_) (a' := ?_) #[T, F, F, F, F, F, F, F, F, F, F, F, F, F, F, F, F] rfl rfl (any_of HT_.out (by kernel_rfl)) (fun _ _ _ h => h) (Or.inl ⟨by rfl, ?_⟩) ?_ ?_
     rotate_left
     ·intro w'
      go_simp
      with_reducible rfl
     rotate_left
     ·simp only [Act.put, Zj, Zk, Zm, i64_w, i32_w]
      rfl
     refine pure_ (i := 1) (N := some 32) (v := ?_) (a' := ?_) #[T, T, F, F, F, F, F, F, F, F, F, F, F, F, F, F, F] rfl rfl (any_of HT_.out (by kernel_rfl)) (fun _ _ _ h => h) (Or.inl ⟨by rfl, ?_⟩) ?_ ?_
     rotate_left
     ·intro w'
      go_simp
      with_reducible rfl
     rotate_left
     ·simp only [Act.put, Zj, Zk, Zm, i64_w, i32_w]
      rfl
     refine pure_ (i := 2) (N := some 33) (v := ?_) (a' := ?_) #[T, T, T, F, F, F, F, F, F, F, F, F, F, F, F, F, F] rfl rfl (any_of HT_.out (by kernel_rfl)) (fun _ _ _ h => h) (Or.inl ⟨by rfl, ?_⟩) ?_ ?_
     rotate_left
     ·intro w'
      go_simp
      with_reducible rfl
     rotate_left
     ·simp only [Act.put, Zj, Zk, Zm, i64_w, i32_w]
      rfl
     refine pure_ (i := 3) (N := some 34) (v := ?_) (a' := ?_) #[T, T, T, T, F, F, F, F, F, F, F, F, F, F, F, F, F] rfl rfl (any_of HT_.out (by kernel_rfl)) (fun _ _ _ h => h) (Or.inl ⟨by rfl, ?_⟩) ?_ ?_
     rotate_left
     ·intro w'
      go_simp
      with_reducible rfl
     rotate_left
     ·simp only [Act.put, Zj, Zk, Zm, i64_w, i32_w]
      rfl
     refine pure_ (i := 4) (N := some 35) (v := ?_) (a' := ?_) #[T, T, T, T, T, F, F, F, F, F, F, F, F, F, F, F, F] rfl rfl (any_of HT_.out (by kernel_rfl)) (fun _ _ _ h => h) (Or.inl ⟨by rfl, ?_⟩) ?_ ?_
     rotate_left
     ·intro w'
      go_simp
      with_reducible rfl
     rotate_left
     ·simp only [Act.put, Zj, Zk, Zm, i64_w, i32_w]
      rfl
     refine pure_ (i := 5) (N := some 36) (v := ?_) (a' := ?_) #[T, T, T, T, T, T, F, F, F, F, F, F, F, F, F, F, F] rfl rfl (any_of HT_.out (by kernel_rfl)) (fun _ _ _ h => h) (Or.inl ⟨by rfl, ?_⟩) ?_ ?_
     rotate_left
     ·intro w'
      go_simp
      with_reducible rfl
     rotate_left
     ·simp only [Act.put, Zj, Zk, Zm, i64_w, i32_w]
      rfl
     refine pure_ (i := 6) (N := some 37) (v := ?_) (a' := ?_) #[T, T, T, T, T, T, T, F, F, F, F, F, F, F, F, F, F] rfl rfl (any_of HT_.out (by kernel_rfl)) (fun _ _ _ h => h) (Or.inl ⟨by rfl, ?_⟩) ?_ ?_
     rotate_left
     ·intro w'
      go_simp
      with_reducible rfl
     rotate_left
     ·simp only [Act.put, Zj, Zk, Zm, i64_w, i32_w]
      rfl
     refine pure_ (i := 7) (N := some 38) (v := ?_) (a' := ?_) #[T, T, T, T, T, T, T, T, F, F, F, F, F, F, F, F, F] rfl rfl (any_of HT_.out (by kernel_rfl)) (fun _ _ _ h => h) (Or.inl ⟨by rfl, ?_⟩) ?_ ?_
     rotate_left
     ·intro w'
      go_simp
      with_reducible rfl
     rotate_left
     ·simp only [Act.put, Zj, Zk, Zm, i64_w, i32_w]
      rfl
     refine pure_ (i := 8) (N := some 39) (v := ?_) (a' := ?_) #[T, T, T, T, T, T, T, T, T, F, F, F, F, F, F, F, F] rfl rfl (any_of HT_.out (by kernel_rfl)) (fun _ _ _ h => h) (Or.inl ⟨by rfl, ?_⟩) ?_ ?_
     rotate_left
     ·intro w'
      go_simp
      with_reducible rfl
     rotate_left
     ·simp only [Act.put, Zj, Zk, Zm, i64_w, i32_w]
      rfl
     refine pure_ (i := 9) (N := some 40) (v := ?_) (a' := ?_) #[T, T, T, T, T, T, T, T, T, T, F, F, F, F, F, F, F] rfl rfl (any_of HT_.out (by kernel_rfl)) (fun _ _ _ h => h) (Or.inl ⟨by rfl, ?_⟩) ?_ ?_
     rotate_left
     ·intro w'
      go_simp
      with_reducible rfl
     rotate_left
     ·simp only [Act.put, Zj, Zk, Zm, i64_w, i32_w]
      rfl
     refine take_ (i := 10) (N := some 41) (v := ?_) (a' := ?_) #[T, T, T, T, T, T, T, T, T, T, T, F, F, F, F, F, F] rfl rfl (QbB HT_.out HW_.out (by kernel_rfl)) (fun _ _ _ h => h) (Or.inl ⟨by rfl, ?_⟩) hHeld ?_ ?_
     rotate_left
     ·rintro w' ⟨s0, s1, s2, s3, s4, s5, s6, s7⟩
      go_simp
      with_reducible rfl
     rotate_left
     ·simp only [Act.put, Zj, Zk, Zm, i64_w, i32_w]
      rfl
     refine take_ (i := 11) (N := some 42) (v := ?_) (a' := ?_) #[T, T, T, T, T, T, T, T, T, T, T, T, F, F, F, F, F] rfl rfl (QbB HT_.out HW_.out (by kernel_rfl)) (fun _ _ _ h => h) (Or.inl ⟨by rfl, ?_⟩) hHeld ?_ ?_
     rotate_left
     ·rintro w' ⟨s0, s1, s2, s3, s4, s5, s6, s7⟩
      go_simp
      with_reducible rfl
     rotate_left
     ·simp only [Act.put, Zj, Zk, Zm, i64_w, i32_w]
      rfl
     refine one_ (i := 12) (N := some 43) #[T, T, T, T, T, T, T, T, T, T, T, T, T, F, F, F, F] rfl rfl (one_of HT_.out (by kernel_rfl)) (by decide) (fun K hK => ?_)
     refine goesV_ Try.func74 (by kernel_rfl) rfl #[.agg #[.string ((rd_T46 l0 x8_1).f0.f0), .string ((rd_T46 l0 x8_1).f0.f1), .string ((rd_T46 l0 x8_1).f1), .int .i64 ((rd_T46 l0 x8_1).f2)], .agg #[.string a1_0, .string a1_1, .string a1_2, .int .i64 a1_3]] (by rfl) rfl rfl rfl (Zl) ?_
     with_reducible refine (Qbh.calls ((rd_T46 l0 x8_1).f0.f0) ((rd_T46 l0 x8_1).f0.f1) ((rd_T46 l0 x8_1).f1) ((rd_T46 l0 x8_1).f2) a1_0 a1_1 a1_2 a1_3 t615 _ A15.out).mono ?_
     rintro e w17 ⟨rfl, hb⟩
     refine ⟨_, rfl, ?_⟩
     replace BK611 := Aside0.mk (Zi BK611.out hb)
     replace HB := Aside0.mk (Qao (Zc1 GE611.out) hb)
     (try clear hb)
     (try clear hb2)
     (try clear hk)
     (try clear hi)
     refine hK.out _ _ ⟨(Qag BK611.out 0).trans rfl, (Qag BK611.out 1).trans rfl, (Qag BK611.out 2).trans rfl, (Qag BK611.out 3).trans rfl, ((HB.out.cell (World.block_lt_of_cell? w _ hw614_0)).trans hw614_0), ((HB.out.cell (World.block_lt_of_cell? w _ hw614_1)).trans hw614_1), ((HB.out.cell (World.block_lt_of_cell? w _ hw614_2)).trans hw614_2), ((HB.out.cell (World.block_lt_of_cell? w _ hw614_3)).trans hw614_3)⟩ (fun hHeld => ?_)
     clear hK K
     refine norm_ (a' := ?_) ?_ ?_
     rotate_left
     ·show Act.put _ (some 43) _ = _
      simp only [Act.put, Zj, Zk, Zm, i64_w, i32_w]
      rfl
     refine pure_ (i := 13) (N := some 44) (v := ?_) (a' := ?_) #[T, T, T, T, T, T, T, T, T, T, T, T, T, T, F, F, F] rfl rfl (any_of HT_.out (by kernel_rfl)) (fun _ _ _ h => h) (Or.inl ⟨by rfl, ?_⟩) ?_ ?_
     rotate_left
     ·intro w'
      go_simp
      with_reducible rfl
     rotate_left
     ·simp only [Act.put, Zj, Zk, Zm, i64_w, i32_w]
      rfl
     refine pure_ (i := 14) (N := some 45) (v := ?_) (a' := ?_) #[T, T, T, T, T, T, T, T, T, T, T, T, T, T, T, F, F] rfl rfl (any_of HT_.out (by kernel_rfl)) (fun _ _ _ h => h) (Or.inl ⟨by rfl, ?_⟩) ?_ ?_
     rotate_left
     ·intro w'
      go_simp
      with_reducible rfl
     rotate_left
     ·simp only [Act.put, Zj, Zk, Zm, i64_w, i32_w]
      rfl
     refine pure_ (i := 15) (N := some 6) (v := ?_) (a' := ?_) #[T, T, T, T, T, T, T, T, T, T, T, T, T, T, T, T, F] rfl rfl (any_of HT_.out (by kernel_rfl)) (fun _ _ _ h => h) (Or.inl ⟨by rfl, ?_⟩) ?_ ?_
     rotate_left
     ·intro w'
      go_simp
      with_reducible rfl
     rotate_left
     ·simp only [Act.put, Zj, Zk, Zm, i64_w, i32_w]
      rfl
     refine pure_ (i := 16) (N := some 7) (v := ?_) (a' := ?_) #[T, T, T, T, T, T, T, T, T, T, T, T, T, T, T, T, T] rfl rfl (any_of HT_.out (by kernel_rfl)) (fun _ _ _ h => h) (Or.inl ⟨by rfl, ?_⟩) ?_ ?_
     rotate_left
     ·intro w'
      go_simp
      with_reducible rfl
     rotate_left
     ·simp only [Act.put, Zj, Zk, Zm, i64_w, i32_w]
      rfl
     refine done_ (QbY HT_.out (by kernel_rfl)) ?_
     try go_wp2
     go_ret2
     exact ⟨Zq, Zc1 GE611.out⟩
    rw [if_neg c14] at H
    exact absurd H (by simp)
   rw [if_neg c13] at H
   have c13b0 : decide (x8_1 < (l0.length : Int)) = F := decide_eq_false c13
   clear c13
   simp only [Option.some.injEq, Prod.mk.injEq] at H
   obtain ⟨rfl, rfl⟩ := H
   try go_wp2
   replace BK611 := Aside0.mk (Qac BK611.out)
   replace HB := Aside0.mk (Qai HB.out)
   refine start_ (n := 17) (S := fun w' => True) (ds := []) #[F, F, F, F, F, F, F, F, F, F, F, F, F, F, F, F, F] (by kernel_rfl) rfl rfl trivial (fun hHeld => ?_); refine QbM Qar.tab7 Qar.bits7 (fun HT_ HW_ => ?_)
   generalize wr.drew = w18 at BK611 HB hHeld ⊢
   refine pure_ (i := 0) (N := some 31) (v := ?_) (a' := ?_) #[T, F, F, F, F, F, F, F, F, F, F, F, F, F, F, F, F] rfl rfl (any_of HT_.out (by kernel_rfl)) (fun _ _ _ h => h) (Or.inl ⟨by rfl, ?_⟩) ?_ ?_
   rotate_left
   ·intro w'
    go_simp
    with_reducible rfl
   rotate_left
   ·simp only [Act.put, Zj, Zk, Zm, i64_w, i32_w]
    rfl
   refine pure_ (i := 1) (N := some 32) (v := ?_) (a' := ?_) #[T, T, F, F, F, F, F, F, F, F, F, F, F, F, F, F, F] rfl rfl (any_of HT_.out (by kernel_rfl)) (fun _ _ _ h => h) (Or.inl ⟨by rfl, ?_⟩) ?_ ?_
   rotate_left
   ·intro w'
    go_simp
    with_reducible rfl
   rotate_left
   ·simp only [Act.put, Zj, Zk, Zm, i64_w, i32_w]
    rfl
   refine pure_ (i := 2) (N := some 33) (v := ?_) (a' := ?_) #[T, T, T, F, F, F, F, F, F, F, F, F, F, F, F, F, F] rfl rfl (any_of HT_.out (by kernel_rfl)) (fun _ _ _ h => h) (Or.inl ⟨by rfl, ?_⟩) ?_ ?_
   rotate_left
   ·intro w'
    go_simp
    with_reducible rfl
   rotate_left
   ·simp only [Act.put, Zj, Zk, Zm, i64_w, i32_w]
    rfl
   refine pure_ (i := 3) (N := some 34) (v := ?_) (a' := ?_) #[T, T, T, T, F, F, F, F, F, F, F, F, F, F, F, F, F] rfl rfl (any_of HT_.out (by kernel_rfl)) (fun _ _ _ h => h) (Or.inl ⟨by rfl, ?_⟩) ?_ ?_
   rotate_left
   ·intro w'
    go_simp
    with_reducible rfl
   rotate_left
   ·simp only [Act.put, Zj, Zk, Zm, i64_w, i32_w]
    rfl
   refine pure_ (i := 4) (N := some 35) (v := ?_) (a' := ?_) #[T, T, T, T, T, F, F, F, F, F, F, F, F, F, F, F, F] rfl rfl (any_of HT_.out (by kernel_rfl)) (fun _ _ _ h => h) (Or.inl ⟨by rfl, ?_⟩) ?_ ?_
   rotate_left
   ·intro w'
    go_simp
    with_reducible rfl
   rotate_left
   ·simp only [Act.put, Zj, Zk, Zm, i64_w, i32_w]
    rfl
   refine pure_ (i := 5) (N := some 36) (v := ?_) (a' := ?_) #[T, T, T, T, T, T, F, F, F, F, F, F, F, F, F, F, F] rfl rfl (any_of HT_.out (by kernel_rfl)) (fun _ _ _ h => h) (Or.inl ⟨by rfl, ?_⟩) ?_ ?_
   rotate_left
   ·intro w'
    go_simp
    with_reducible rfl
   rotate_left
   ·simp only [Act.put, Zj, Zk, Zm, i64_w, i32_w]
    rfl
   refine pure_ (i := 6) (N := some 37) (v := undef) (a' := ?_) #[T, T, T, T, T, T, T, F, F, F, F, F, F, F, F, F, F] rfl rfl (any_of HT_.out (by kernel_rfl)) (fun _ _ _ h => h) (Or.inr ⟨by rfl, rfl⟩) ?_ ?_
   rotate_left
   ·simp only [Act.put, Zj, Zk, Zm, i64_w, i32_w]
    rfl
   refine pure_ (i := 7) (N := some 38) (v := undef) (a' := ?_) #[T, T, T, T, T, T, T, T, F, F, F, F, F, F, F, F, F] rfl rfl (any_of HT_.out (by kernel_rfl)) (fun _ _ _ h => h) (Or.inr ⟨by rfl, rfl⟩) ?_ ?_
   rotate_left
   ·simp only [Act.put, Zj, Zk, Zm, i64_w, i32_w]
    rfl
   refine pure_ (i := 8) (N := some 39) (v := undef) (a' := ?_) #[T, T, T, T, T, T, T, T, T, F, F, F, F, F, F, F, F] rfl rfl (any_of HT_.out (by kernel_rfl)) (fun _ _ _ h => h) (Or.inr ⟨by rfl, rfl⟩) ?_ ?_
   rotate_left
   ·simp only [Act.put, Zj, Zk, Zm, i64_w, i32_w]
    rfl
   refine pure_ (i := 9) (N := some 40) (v := undef) (a' := ?_) #[T, T, T, T, T, T, T, T, T, T, F, F, F, F, F, F, F] rfl rfl (any_of HT_.out (by kernel_rfl)) (fun _ _ _ h => h) (Or.inr ⟨by rfl, rfl⟩) ?_ ?_
   rotate_left
   ·simp only [Act.put, Zj, Zk, Zm, i64_w, i32_w]
    rfl
   refine pure_ (i := 10) (N := some 41) (v := undef) (a' := ?_) #[T, T, T, T, T, T, T, T, T, T, T, F, F, F, F, F, F] rfl rfl (any_of HT_.out (by kernel_rfl)) (fun _ _ _ h => h) (Or.inr ⟨by rfl, rfl⟩) ?_ ?_
   rotate_left
   ·simp only [Act.put, Zj, Zk, Zm, i64_w, i32_w]
    rfl
   refine pure_ (i := 11) (N := some 42) (v := undef) (a' := ?_) #[T, T, T, T, T, T, T, T, T, T, T, T, F, F, F, F, F] rfl rfl (any_of HT_.out (by kernel_rfl)) (fun _ _ _ h => h) (Or.inr ⟨by rfl, rfl⟩) ?_ ?_
   rotate_left
   ·simp only [Act.put, Zj, Zk, Zm, i64_w, i32_w]
    rfl
   refine pure_ (i := 12) (N := some 43) (v := undef) (a' := ?_) #[T, T, T, T, T, T, T, T, T, T, T, T, T, F, F, F, F] rfl rfl (any_of HT_.out (by kernel_rfl)) (fun _ _ _ h => h) (Or.inr ⟨by rfl, rfl⟩) ?_ ?_
   rotate_left
   ·simp only [Act.put, Zj, Zk, Zm, i64_w, i32_w]
    rfl
   refine pure_ (i := 13) (N := some 44) (v := undef) (a' := ?_) #[T, T, T, T, T, T, T, T, T, T, T, T, T, T, F, F, F] rfl rfl (any_of HT_.out (by kernel_rfl)) (fun _ _ _ h => h) (Or.inr ⟨by rfl, rfl⟩) ?_ ?_
   rotate_left
   ·simp only [Act.put, Zj, Zk, Zm, i64_w, i32_w]
    rfl
   refine pure_ (i := 14) (N := some 45) (v := ?_) (a' := ?_) #[T, T, T, T, T, T, T, T, T, T, T, T, T, T, T, F, F] rfl rfl (any_of HT_.out (by kernel_rfl)) (fun _ _ _ h => h) (Or.inl ⟨by rfl, ?_⟩) ?_ ?_
   rotate_left
   ·intro w'
    go_simp
    with_reducible rfl
   rotate_left
   ·simp only [Act.put, Zj, Zk, Zm, i64_w, i32_w]
    rfl
   refine pure_ (i := 15) (N := some 6) (v := ?_) (a' := ?_) #[T, T, T, T, T, T, T, T, T, T, T, T, T, T, T, T, F] rfl rfl (any_of HT_.out (by kernel_rfl)) (fun _ _ _ h => h) (Or.inl ⟨by rfl, ?_⟩) ?_ ?_
   rotate_left
   ·intro w'
    go_simp
    with_reducible rfl
   rotate_left
   ·simp only [Act.put, Zj, Zk, Zm, i64_w, i32_w]
    rfl
   refine pure_ (i := 16) (N := some 7) (v := ?_) (a' := ?_) #[T, T, T, T, T, T, T, T, T, T, T, T, T, T, T, T, T] rfl rfl (any_of HT_.out (by kernel_rfl)) (fun _ _ _ h => h) (Or.inl ⟨by rfl, ?_⟩) ?_ ?_
   rotate_left
   ·intro w'
    go_simp
    with_reducible rfl
   rotate_left
   ·simp only [Act.put, Zj, Zk, Zm, i64_w, i32_w]
    rfl
   refine done_ (QbY HT_.out (by kernel_rfl)) ?_
   try go_wp2
   go_ret2
   exact ⟨Zq, Zc1 GE611.out⟩
def QaE.f (l0 : List (S46)) (a1 : Int) (a2 : Int) (l3 : List (S46)) : Option ((List (S46))) := if 0 ≤ (wrap64 ((wrap64 ((l0.length : Int) + (l3.length : Int))) - a2)) then (if (wrap64 ((wrap64 ((l0.length : Int) + (l3.length : Int))) - a2) : Int).toNat ≤ 5026338869833 then ((some (([] : List (S46)) : List (S46))).bind fun y616 => (if 0 ≤ a1 then (if a1 ≤ (l0.length : Int) then ((some (l0.take (a1 : Int).toNat : List (S46))).bind fun y619 => (if y616.length + y619.length < 2513169434916 then ((some (y616 ++ y619 : List (S46))).bind fun y623 => (if y623.length + l3.length < 2513169434916 then ((some (y623 ++ l3 : List (S46))).bind fun y626 => (if 0 ≤ (wrap64 (a1 + a2)) then (if (wrap64 (a1 + a2)) ≤ (l0.length : Int) then ((some (l0.drop ((wrap64 (a1 + a2)) : Int).toNat : List (S46))).bind fun y629 => (if y626.length + y629.length < 2513169434916 then (some (y626 ++ y629)) else (none))) else (none)) else (none))) else (none))) else (none))) else (none)) else (none))) else (none)) else (none)
theorem QaE.calls (A0 : Option Addr) (c0 : Nat) (l0 : List (S46)) (a1 : Int) (a2 : Int) (A3 : Option Addr) (c3 : Nat) (l3 : List (S46)) (r : List (S46)) (w : World) (hr0 : Kd.C k46 w A0 l0.length l0) (hc0 : l0.length ≤ c0) (hr3 : Kd.C k46 w A3 l3.length l3) (hc3 : l3.length ≤ c3) (h : QaE.f l0 a1 a2 l3 = some r) :
  Calls Try.prog 75 #[.slice A0 l0.length c0, .int .i64 a1, .int .i64 a2, .slice A3 l3.length c3] w fun e w' => ∃ v0_ : Value, e = .returned (v0_) ∧ Kd.R k46 46 w' w.heap.size (fun _ => True) v0_ r ∧ Below w.heap.size w w' := by
 have HR0 := Aside0.mk hr0
 have HC0 := Aside0.mk hc0
 clear hr0 hc0
 have HR3 := Aside0.mk hr3
 have HC3 := Aside0.mk hc3
 clear hr3 hc3
 have HB := Aside0.mk (Below.refl w.heap.size w)
 have H : (if 0 ≤ (wrap64 ((wrap64 ((l0.length : Int) + (l3.length : Int))) - a2)) then (if (wrap64 ((wrap64 ((l0.length : Int) + (l3.length : Int))) - a2) : Int).toNat ≤ 5026338869833 then ((some (([] : List (S46)) : List (S46))).bind fun y616 => (if 0 ≤ a1 then (if a1 ≤ (l0.length : Int) then ((some (l0.take (a1 : Int).toNat : List (S46))).bind fun y619 => (if y616.length + y619.length < 2513169434916 then ((some (y616 ++ y619 : List (S46))).bind fun y623 => (if y623.length + l3.length < 2513169434916 then ((some (y623 ++ l3 : List (S46))).bind fun y626 => (if 0 ≤ (wrap64 (a1 + a2)) then (if (wrap64 (a1 + a2)) ≤ (l0.length : Int) then ((some (l0.drop ((wrap64 (a1 + a2)) : Int).toNat : List (S46))).bind fun y629 => (if y626.length + y629.length < 2513169434916 then (some (y626 ++ y629)) else (none))) else (none)) else (none))) else (none))) else (none))) else (none)) else (none))) else (none)) else (none)) = some r := h
 clear h
 obtain ⟨ji5, hji5⟩ : ∃ j_ : Int, (wrap64 ((wrap64 ((l0.length : Int) + (l3.length : Int))) - a2)) = j_ := ⟨_, rfl⟩
 replace H : (if 0 ≤ (ji5) then (if (ji5 : Int).toNat ≤ 5026338869833 then ((some (([] : List (S46)) : List (S46))).bind fun y616 => (if 0 ≤ a1 then (if a1 ≤ (l0.length : Int) then ((some (l0.take (a1 : Int).toNat : List (S46))).bind fun y619 => (if y616.length + y619.length < 2513169434916 then ((some (y616 ++ y619 : List (S46))).bind fun y623 => (if y623.length + l3.length < 2513169434916 then ((some (y623 ++ l3 : List (S46))).bind fun y626 => (if 0 ≤ (wrap64 (a1 + a2)) then (if (wrap64 (a1 + a2)) ≤ (l0.length : Int) then ((some (l0.drop ((wrap64 (a1 + a2)) : Int).toNat : List (S46))).bind fun y629 => (if y626.length + y629.length < 2513169434916 then (some (y626 ++ y629)) else (none))) else (none)) else (none))) else (none))) else (none))) else (none)) else (none))) else (none)) else (none)) = some r := by first | (rw [hji5] at H; exact H) | (simp only [hji5] at H ⊢; exact H)
 have hji5w : (IntKind.i64.wrap ((wrap64 ((l0.length : Int) + (l3.length : Int))) - a2)) = ji5 := (i64_w _).trans hji5
 by_cases c6 : 0 ≤ (ji5)
 ·rw [if_pos c6] at H
  have c6b0 := eq_true c6
  have c6b1 : decide (0 ≤ (ji5)) = T := decide_eq_true c6
  clear c6
  by_cases c7 : (ji5 : Int).toNat ≤ 5026338869833
  ·rw [if_pos c7] at H
   have c7b0 := eq_true c7
   have c7b1 : decide ((ji5 : Int).toNat ≤ 5026338869833) = T := decide_eq_true c7
   clear c7
   obtain ⟨y616, hy616⟩ : ∃ y_ : List (S46), y_ = (([] : List (S46))) := ⟨_, rfl⟩
   replace H : (if 0 ≤ a1 then (if a1 ≤ (l0.length : Int) then ((some (l0.take (a1 : Int).toNat : List (S46))).bind fun y619 => (if y616.length + y619.length < 2513169434916 then ((some (y616 ++ y619 : List (S46))).bind fun y623 => (if y623.length + l3.length < 2513169434916 then ((some (y623 ++ l3 : List (S46))).bind fun y626 => (if 0 ≤ (wrap64 (a1 + a2)) then (if (wrap64 (a1 + a2)) ≤ (l0.length : Int) then ((some (l0.drop ((wrap64 (a1 + a2)) : Int).toNat : List (S46))).bind fun y629 => (if y626.length + y629.length < 2513169434916 then (some (y626 ++ y629)) else (none))) else (none)) else (none))) else (none))) else (none))) else (none)) else (none)) = some r := by first | (rw [hy616]; with_reducible exact H) | (have H2_ := (Option.bind_some _ _).symm.trans H; rw [hy616]; with_reducible exact H2_) | (have H2_ := (Option.bind_some _ _).symm.trans H; with_reducible exact H2_) | with_reducible exact H | (rw [hy616]; exact H) | exact H
   have Ny616 := Aside0.mk hy616
   clear hy616
   by_cases c8 : 0 ≤ a1
   ·rw [if_pos c8] at H
    have c8b0 := eq_true c8
    have c8b1 : decide (0 ≤ a1) = T := decide_eq_true c8
    clear c8
    by_cases c9 : a1 ≤ (l0.length : Int)
    ·rw [if_pos c9] at H
     have c9b0 := eq_true c9
     have c9b1 : decide (a1 ≤ (l0.length : Int)) = T := decide_eq_true c9
     clear c9
     obtain ⟨y619, hy619⟩ : ∃ y_ : List (S46), y_ = (l0.take (a1 : Int).toNat) := ⟨_, rfl⟩
     replace H : (if y616.length + y619.length < 2513169434916 then ((some (y616 ++ y619 : List (S46))).bind fun y623 => (if y623.length + l3.length < 2513169434916 then ((some (y623 ++ l3 : List (S46))).bind fun y626 => (if 0 ≤ (wrap64 (a1 + a2)) then (if (wrap64 (a1 + a2)) ≤ (l0.length : Int) then ((some (l0.drop ((wrap64 (a1 + a2)) : Int).toNat : List (S46))).bind fun y629 => (if y626.length + y629.length < 2513169434916 then (some (y626 ++ y629)) else (none))) else (none)) else (none))) else (none))) else (none)) = some r := by first | (rw [hy619]; with_reducible exact H) | (have H2_ := (Option.bind_some _ _).symm.trans H; rw [hy619]; with_reducible exact H2_) | (have H2_ := (Option.bind_some _ _).symm.trans H; with_reducible exact H2_) | with_reducible exact H | (rw [hy619]; exact H) | exact H
     have Ny619 := Aside0.mk hy619
     clear hy619
     by_cases c10 : y616.length + y619.length < 2513169434916
     ·rw [if_pos c10] at H
      have LMc10 := Aside0.mk c10
      clear c10
      obtain ⟨y623, hy623⟩ : ∃ y_ : List (S46), y_ = (y616 ++ y619) := ⟨_, rfl⟩
      replace H : (if y623.length + l3.length < 2513169434916 then ((some (y623 ++ l3 : List (S46))).bind fun y626 => (if 0 ≤ (wrap64 (a1 + a2)) then (if (wrap64 (a1 + a2)) ≤ (l0.length : Int) then ((some (l0.drop ((wrap64 (a1 + a2)) : Int).toNat : List (S46))).bind fun y629 => (if y626.length + y629.length < 2513169434916 then (some (y626 ++ y629)) else (none))) else (none)) else (none))) else (none)) = some r := by first | (rw [hy623]; with_reducible exact H) | (have H2_ := (Option.bind_some _ _).symm.trans H; rw [hy623]; with_reducible exact H2_) | (have H2_ := (Option.bind_some _ _).symm.trans H; with_reducible exact H2_) | with_reducible exact H | (rw [hy623]; exact H) | exact H
      have Ny623 := Aside0.mk hy623
      clear hy623
      by_cases c11 : y623.length + l3.length < 2513169434916
      ·rw [if_pos c11] at H
       have LMc11 := Aside0.mk c11
       clear c11
       obtain ⟨y626, hy626⟩ : ∃ y_ : List (S46), y_ = (y623 ++ l3) := ⟨_, rfl⟩
       replace H : (if 0 ≤ (wrap64 (a1 + a2)) then (if (wrap64 (a1 + a2)) ≤ (l0.length : Int) then ((some (l0.drop ((wrap64 (a1 + a2)) : Int).toNat : List (S46))).bind fun y629 => (if y626.length + y629.length < 2513169434916 then (some (y626 ++ y629)) else (none))) else (none)) else (none)) = some r := by first | (rw [hy626]; with_reducible exact H) | (have H2_ := (Option.bind_some _ _).symm.trans H; rw [hy626]; with_reducible exact H2_) | (have H2_ := (Option.bind_some _ _).symm.trans H; with_reducible exact H2_) | with_reducible exact H | (rw [hy626]; exact H) | exact H
       have Ny626 := Aside0.mk hy626
       clear hy626
       obtain ⟨ji12, hji12⟩ : ∃ j_ : Int, (wrap64 (a1 + a2)) = j_ := ⟨_, rfl⟩
       replace H : (if 0 ≤ (ji12) then (if (ji12) ≤ (l0.length : Int) then ((some (l0.drop ((ji12) : Int).toNat : List (S46))).bind fun y629 => (if y626.length + y629.length < 2513169434916 then (some (y626 ++ y629)) else (none))) else (none)) else (none)) = some r := by first | (rw [hji12] at H; exact H) | (simp only [hji12] at H ⊢; exact H)
       have hji12w : (IntKind.i64.wrap (a1 + a2)) = ji12 := (i64_w _).trans hji12
       by_cases c13 : 0 ≤ (ji12)
       ·rw [if_pos c13] at H
        have c13b0 := eq_true c13
        have c13b1 : decide (0 ≤ (ji12)) = T := decide_eq_true c13
        clear c13
        by_cases c14 : (ji12) ≤ (l0.length : Int)
        ·rw [if_pos c14] at H
         have c14b0 := eq_true c14
         have c14b1 : decide ((ji12) ≤ (l0.length : Int)) = T := decide_eq_true c14
         clear c14
         obtain ⟨y629, hy629⟩ : ∃ y_ : List (S46), y_ = (l0.drop ((ji12) : Int).toNat) := ⟨_, rfl⟩
         replace H : (if y626.length + y629.length < 2513169434916 then (some (y626 ++ y629)) else (none)) = some r := by first | (rw [hy629]; with_reducible exact H) | (have H2_ := (Option.bind_some _ _).symm.trans H; rw [hy629]; with_reducible exact H2_) | (have H2_ := (Option.bind_some _ _).symm.trans H; with_reducible exact H2_) | with_reducible exact H | (rw [hy629]; exact H) | exact H
         have Ny629 := Aside0.mk hy629
         clear hy629
         by_cases c15 : y626.length + y629.length < 2513169434916
         ·rw [if_pos c15] at H
          have LMc15 := Aside0.mk c15
          clear c15
          obtain ⟨y633, hy633⟩ : ∃ y_ : List (S46), y_ = (y626 ++ y629) := ⟨_, rfl⟩
          replace H : (some y633) = some r := by first | (rw [hy633]; with_reducible exact H) | (have H2_ := (Option.bind_some _ _).symm.trans H; rw [hy633]; with_reducible exact H2_) | (have H2_ := (Option.bind_some _ _).symm.trans H; with_reducible exact H2_) | with_reducible exact H | (rw [hy633]; exact H) | exact H
          have Ny633 := Aside0.mk hy633
          clear hy633
          obtain rfl := Option.some.inj H
          go_enter Try.func75, Try.ntmps75
          go_wp2_with (first | ((with_reducible refine QaD (N := 17) rfl ?_); refine QfU k46 _ 46 rfl (N := 17) rfl 30 _ _ rfl ji5 rfl rfl Try.underlying30 (.agg #[(.string ⟨#[]⟩), (.string ⟨#[]⟩), (.string ⟨#[]⟩), (.int .i64 0)]) 56 info46 rfl (by omega) (ok := fun _ => True) trivial (Ze) (Nat.le_trans (Nat.mul_le_mul_right _ (Ze : ji5.toNat ≤ 5026338869833)) (by omega)) (Below.refl _ _) (Nat.le_refl _) ?_; intro v617 w16 ho17 hb hg_ hnew_; clear hg_ hnew_; (first | rw [← Ny616.out] at ho17 | (simp only [Int.reduceToNat] at ho17; rw [← Ny616.out] at ho17)); have HO618 := Aside0.mk (Kd.R_lower ho17 (Qan (Zb))); replace HB := Aside0.mk (Qao (Zb) hb); clear hb ho17; have q18 : (a1 : Int) ≤ ((l0.length : Int) : Int) := Ze; obtain ⟨i018, hi018, _, hsz18, _⟩ := info_parts info46; have hroom18 : l0.length ≤ c0 := HC0.out; have hC18 : Kd.C k46 _ A0 l0.length l0 := HR0.out; have hcut18 := cut_to (P := Try.prog) 30 46 .i64 Try.underlying30 hi018 A0 l0.length c0 a1 (Ze) q18 hroom18; have hr18 := Kd.C_take (m := (a1 : Int).toNat) hC18 (by omega); have hy18 : y619.length = (a1 : Int).toNat := (by rw [Ny619.out, List.length_take]; omega); rw [← Ny619.out] at hr18; rw [← hy18] at hcut18; have HR622 := Aside0.mk hr18; have HC622 := Aside0.mk (show y619.length ≤ c0 from by omega); clear hr18 hC18 hroom18 hi018 hsz18; have KY18 := Aside0.mk hy18; clear hy18; replace q18 := eq_true q18) | ((with_reducible refine QbN (b := .append) (xs := #[.tmp 18, .tmp 21]) rfl ?_); at_builtin; refine Kd.R_append_rows k46 (w0 := w) w.heap.size rfl (.tmp 18) (.tmp 21) 30 46 (.agg #[(.string ⟨#[]⟩), (.string ⟨#[]⟩), (.string ⟨#[]⟩), (.int .i64 0)]) 56 rfl Try.underlying30 info46 rfl (by decide) (by omega) v617 y616 y619 _ _ _ (fun _ => True) (fun _ => False) rfl rfl ?aO ?aR (fun _ _ h => h) (fun _ h => h.elim) ?aF ?aB ?aS ?aL ?_; (case aR => exact Zv (Kd.C_below HR622.out HB.out)); (case aB => exact (Zb)); (case aF => exact (fun _ _ => trivial)); (case aO => exact (Zr HO618.out)); (case aS => exact (Qan (Zb))); (case aL => have := LMc10.out; omega); intro v624 w19 ho hb hg hat; rw [← Ny623.out] at ho; have HO625 := Aside0.mk (ho); replace HB := Aside0.mk (hb); clear HO618; clear ho hb hg hat) | ((with_reducible refine QbN (b := .append) (xs := #[.tmp 23, .tmp 24]) rfl ?_); at_builtin; refine Kd.R_append_rows k46 (w0 := w) w.heap.size rfl (.tmp 23) (.tmp 24) 30 46 (.agg #[(.string ⟨#[]⟩), (.string ⟨#[]⟩), (.string ⟨#[]⟩), (.int .i64 0)]) 56 rfl Try.underlying30 info46 rfl (by decide) (by omega) v624 y623 l3 _ _ _ (fun _ => True) (fun _ => False) rfl rfl ?aO ?aR (fun _ _ h => h) (fun _ h => h.elim) ?aF ?aB ?aS ?aL ?_; (case aR => exact Zv (Kd.C_below HR3.out HB.out)); (case aB => exact (Zb)); (case aF => exact (fun _ _ => trivial)); (case aO => exact (Zr HO625.out)); (case aS => exact (Qan (Zb))); (case aL => have := LMc11.out; omega); intro v627 w20 ho hb hg hat; rw [← Ny626.out] at ho; have HO628 := Aside0.mk (ho); replace HB := Aside0.mk (hb); clear HO625; clear ho hb hg hat; have q21 : ((ji12) : Int) ≤ ((l0.length : Int) : Int) := Ze; obtain ⟨i021, hi021, _, hsz21, _⟩ := info_parts info46; have hroom21 : l0.length ≤ c0 := HC0.out; have hC21 : Kd.C k46 _ A0 l0.length l0 := HR0.out; have q021 : (0 : Int) ≤ ((ji12) : Int) := Ze; have hcut21 := Qfp (P := Try.prog) 30 46 .i64 Try.underlying30 hi021 4 hsz21 A0 l0.length c0 (ji12) q021 q21; have hr21 := Kd.C_drop (m := ((ji12) : Int).toNat) (c := c0) hC21 (by omega) hroom21; obtain ⟨A21, hA21⟩ : ∃ A1, A1 = (if c0 = ((ji12) : Int).toNat then A0 else (A0 : Option Addr).map (·.add (((ji12) : Int).toNat * 4))) := ⟨_, rfl⟩; obtain ⟨c21, hc21⟩ : ∃ c1, c1 = c0 - ((ji12) : Int).toNat := ⟨_, rfl⟩; have hy21 : y629.length = l0.length - ((ji12) : Int).toNat := (by rw [Ny629.out, List.length_drop] <;> omega); rw [show (l0).drop ((ji12) : Int).toNat = y629 from Ny629.out.symm] at hr21; replace hr21 : Kd.C k46 _ A21 y629.length y629 := (by rw [hA21]; exact hr21); rw [← hy21, ← hA21, ← hc21] at hcut21; have HR632 := Aside0.mk hr21; have HC632 := Aside0.mk (show y629.length ≤ c21 from by rw [hy21, hc21]; exact Nat.sub_le_sub_right hroom21 _); clear hr21 hC21 hroom21 hi021 hsz21 hc21; have KY21 := Aside0.mk hy21; have KA21 := Aside0.mk hA21; clear hy21 hA21; replace q21 := eq_true q21) | ((with_reducible refine QbN (b := .append) (xs := #[.tmp 26, .tmp 31]) rfl ?_); at_builtin; refine Kd.R_append_rows k46 (w0 := w) w.heap.size rfl (.tmp 26) (.tmp 31) 30 46 (.agg #[(.string ⟨#[]⟩), (.string ⟨#[]⟩), (.string ⟨#[]⟩), (.int .i64 0)]) 56 rfl Try.underlying30 info46 rfl (by decide) (by omega) v627 y626 y629 _ _ _ (fun _ => True) (fun _ => False) rfl rfl ?aO ?aR (fun _ _ h => h) (fun _ h => h.elim) ?aF ?aB ?aS ?aL ?_; (case aR => exact Zv (Kd.C_below HR632.out HB.out)); (case aB => exact (Zb)); (case aF => exact (fun _ _ => trivial)); (case aO => exact (Zr HO628.out)); (case aS => exact (Qan (Zb))); (case aL => have := LMc15.out; omega); intro v634 w22 ho hb hg hat; rw [← Ny633.out] at ho; have HO635 := Aside0.mk (ho); replace HB := Aside0.mk (hb); clear HO628; clear ho hb hg hat))
          go_ret
          exact ⟨_, by first | rfl | (simp [Qal, Qam] <;> rfl) | (simp only [← hji5, ← hji12]; first | rfl | (simp [Qal, Qam] <;> rfl)) | (simp [*, Qal, Qam] <;> rfl), Zr HO635.out, Zb⟩
         rw [if_neg c15] at H
         exact absurd H (by simp)
        rw [if_neg c14] at H
        exact absurd H (by simp)
       rw [if_neg c13] at H
       exact absurd H (by simp)
      rw [if_neg c11] at H
      exact absurd H (by simp)
     rw [if_neg c10] at H
     exact absurd H (by simp)
    rw [if_neg c9] at H
    exact absurd H (by simp)
   rw [if_neg c8] at H
   exact absurd H (by simp)
  rw [if_neg c7] at H
  exact absurd H (by simp)
 rw [if_neg c6] at H
 exact absurd H (by simp)
def QaT.j0 : Nat → List (S46) → Int → Int → Bool → ByteArray → ByteArray → ByteArray → Int → Option ((List (S46)) × Int)
 | 0, _, _, _, _, _, _, _, _ => none
 | k + 1, x0, x3, x11, x40, x640000, x640001, x640002, x640003 => if x40 = T then (some (([] : List (S46)), 23)) else (if 0 ≤ x11 then (if x11 < (x0.length : Int) then (if (wrap64 (((rd_T46 x0 x11).f2) - x3)) = 0 then ((QaE.f x0 x11 1 ([] : List (S46))).bind fun t644 => (some (t644, 0))) else ((QaE.f x0 x11 1 (([(⟨(⟨x640000, x640001⟩ : S44), x640002, wrap64 (((rd_T46 x0 x11).f2) - x3)⟩ : S46)] : List (S46)))).bind fun t650 => (some (t650, 0)))) else (none)) else (none))
def QaT.f (k : Nat) (l0 : List (S46)) (a1_0 : ByteArray) (a1_1 : ByteArray) (a2 : ByteArray) (a3 : Int) : Option ((List (S46)) × Int) := (Qav.f k l0).bind fun t637 => (if t637 = 0 then ((Qbk.f a3).bind fun t638 => (if t638 = T then ((Qar.f k l0 a1_0 a1_1 a2 0).bind fun bt640 => (if bt640.2 = T then (if 0 ≤ bt640.1 then (if bt640.1 < (l0.length : Int) then (QaT.j0 k l0 a3 bt640.1 (decide (((rd_T46 l0 bt640.1).f2) < a3)) a1_0 a1_1 a2 0) else (none)) else (none)) else (QaT.j0 k l0 a3 bt640.1 T a1_0 a1_1 a2 0))) else (some (([] : List (S46)), 18)))) else (some (([] : List (S46)), t637)))
theorem QaT.mono_l : ∀ k, (∀ y0 y1 y2 y3 y4 y5 y6 y7, LeO (QaT.j0 k y0 y1 y2 y3 y4 y5 y6 y7) (QaT.j0 (k + 1) y0 y1 y2 y3 y4 y5 y6 y7))
 | 0 => fun _ _ _ _ _ _ _ _ r h => by simp [QaT.j0] at h
 | k + 1 => by
  have ih0 := QaT.mono_l k
  intro y0 y1 y2 y3 y4 y5 y6 y7
  unfold QaT.j0
  exact ZM3 ih0 Qav.mono Qar.mono
theorem QaT.mono : ∀ a0 a1 a2 a3 a4 k, LeO (QaT.f k a0 a1 a2 a3 a4) (QaT.f (k + 1) a0 a1 a2 a3 a4) := by
 intro a0 a1 a2 a3 a4 k
 have ih0 := QaT.mono_l k
 unfold QaT.f
 exact ZM3 ih0 Qav.mono Qar.mono
theorem QaT.calls (k : Nat) (A0 : Option Addr) (c0 : Nat) (l0 : List (S46)) (a1_0 : ByteArray) (a1_1 : ByteArray) (a2 : ByteArray) (a3 : Int) (r1 : List (S46)) (r2 : Int) (w : World) (hr0 : Kd.C k46 w A0 l0.length l0) (hc0 : l0.length ≤ c0) (h : QaT.f k l0 a1_0 a1_1 a2 a3 = some (r1, r2)) :
  Calls Try.prog 47 #[.slice A0 l0.length c0, .agg #[.string a1_0, .string a1_1], .string a2, .int .i64 a3] w fun e w' => ∃ v0_ : Value, e = .returned (.tuple #[v0_, .int .i64 r2]) ∧ Kd.R k46 46 w' w.heap.size (fun _ => True) v0_ r1 ∧ Below w.heap.size w w' := by
 have hu44 := Try.underlying44
 have hu46 := Try.underlying46
 have HR0 := Aside0.mk hr0
 have HC0 := Aside0.mk hc0
 clear hr0 hc0
 have HB := Aside0.mk (Below.refl w.heap.size w)
 have H : ((Qav.f k l0).bind fun t637 => (if t637 = 0 then ((Qbk.f a3).bind fun t638 => (if t638 = T then ((Qar.f k l0 a1_0 a1_1 a2 0).bind fun bt640 => (if bt640.2 = T then (if 0 ≤ bt640.1 then (if bt640.1 < (l0.length : Int) then (QaT.j0 k l0 a3 bt640.1 (decide (((rd_T46 l0 bt640.1).f2) < a3)) a1_0 a1_1 a2 0) else (none)) else (none)) else (QaT.j0 k l0 a3 bt640.1 T a1_0 a1_1 a2 0))) else (some (([] : List (S46)), 18)))) else (some (([] : List (S46)), t637)))) = some (r1, r2) := h
 clear h
 replace H := Option.bind_eq_some_iff.mp H
 obtain ⟨t637, A50, H⟩ := H
 replace H : (if t637 = 0 then ((Qbk.f a3).bind fun t638 => (if t638 = T then ((Qar.f k l0 a1_0 a1_1 a2 0).bind fun bt640 => (if bt640.2 = T then (if 0 ≤ bt640.1 then (if bt640.1 < (l0.length : Int) then (QaT.j0 k l0 a3 bt640.1 (decide (((rd_T46 l0 bt640.1).f2) < a3)) a1_0 a1_1 a2 0) else (none)) else (none)) else (QaT.j0 k l0 a3 bt640.1 T a1_0 a1_1 a2 0))) else (some (([] : List (S46)), 18)))) else (some (([] : List (S46)), t637))) = some (r1, r2) := H
 have A5 := Aside0.mk A50
 clear A50
 go_enter Try.func47, Try.ntmps47
 go_upto_if 16 with (first | ((with_reducible refine QaD (N := 5) rfl ?_); refine Zbx (N := 5) (cs := #[.string a1_0, .string a1_1]) (t := 44) ?_; intro gb636 hg w6 hbox hb; have BK636 := Aside0.mk (hbox); have GW636 := Aside0.mk (Zt w hg (Zb)); have GE636 := GW636; replace HB := Aside0.mk (Qao (Zb) hb); clear hb hbox hg) | ((with_reducible refine Qax (f := 71) rfl ?_); refine goesL_ (some 14) rfl rfl Try.func71 (by kernel_rfl) rfl #[.slice A0 l0.length c0] rfl (Zl) ?_; (with_reducible refine (Qav.calls k _ _ l0 t637 _ ?side1 ?side2 A5.out).mono ?_); (case side1 => exact Zv (Kd.C_below HR0.out HB.out)); (case side2 => exact HC0.out); rintro e w7 ⟨rfl, hb⟩; refine ⟨_, rfl, ?_⟩; replace BK636 := Aside0.mk (Zi BK636.out hb); replace HB := Aside0.mk (Qao (Zc1 GE636.out) hb); (try clear hb); (try clear hb2); (try clear hk); (try clear hi)))
 (try simp only [Act.put, Zj, Zk, Zm])
 by_cases c8 : t637 = 0
 ·rw [if_pos c8] at H
  have c8b0 : (t637 == 0) = T := beq_iff_eq.mpr c8
  have c8b1 : (t637 != 0) = F := bne_eq_false_iff_eq.mpr c8
  clear c8
  (try simp only [c8b0, c8b1])
  replace H := Option.bind_eq_some_iff.mp H
  obtain ⟨t638, A90, H⟩ := H
  replace H : (if t638 = T then ((Qar.f k l0 a1_0 a1_1 a2 0).bind fun bt640 => (if bt640.2 = T then (if 0 ≤ bt640.1 then (if bt640.1 < (l0.length : Int) then (QaT.j0 k l0 a3 bt640.1 (decide (((rd_T46 l0 bt640.1).f2) < a3)) a1_0 a1_1 a2 0) else (none)) else (none)) else (QaT.j0 k l0 a3 bt640.1 T a1_0 a1_1 a2 0))) else (some (([] : List (S46)), 18))) = some (r1, r2) := H
  have A9 := Aside0.mk A90
  clear A90
  go_upto_if 20 with (first | ((with_reducible refine Qax (f := 72) rfl ?_); refine goesL_ (some 19) rfl rfl Try.func72 (by kernel_rfl) rfl #[.int .i64 a3] rfl (Zl) ?_; (with_reducible refine (Qbk.calls a3 t638 _ A9.out).mono ?_); rintro e w' ⟨rfl, ⟨nd, rfl⟩⟩; refine ⟨_, rfl, ?_⟩))
  (try simp only [Act.put, Zj, Zk, Zm])
  by_cases c10 : t638 = T
  ·subst c10
   have H1 : ((Qar.f k l0 a1_0 a1_1 a2 0).bind fun bt640 => (if bt640.2 = T then (if 0 ≤ bt640.1 then (if bt640.1 < (l0.length : Int) then (QaT.j0 k l0 a3 bt640.1 (decide (((rd_T46 l0 bt640.1).f2) < a3)) a1_0 a1_1 a2 0) else (none)) else (none)) else (QaT.j0 k l0 a3 bt640.1 T a1_0 a1_1 a2 0))) = some (r1, r2) := by rw [if_pos rfl] at H; exact H
   clear H
   have H := H1
   clear H1
   replace H := Option.bind_eq_some_iff.mp H
   obtain ⟨⟨t640, t641⟩, A110, H⟩ := H
   replace H : (if t641 = T then (if 0 ≤ t640 then (if t640 < (l0.length : Int) then (QaT.j0 k l0 a3 t640 (decide (((rd_T46 l0 t640).f2) < a3)) a1_0 a1_1 a2 0) else (none)) else (none)) else (QaT.j0 k l0 a3 t640 T a1_0 a1_1 a2 0)) = some (r1, r2) := H
   have A11 := Aside0.mk A110
   clear A110
   have HC12 := Aside0.mk H
   clear H
   obtain ⟨hcz13_0, hfz13_0⟩ := Zy (v := (.string a1_0)) BK636.out 0
   obtain ⟨hcz13_1, hfz13_1⟩ := Zy (v := (.string a1_1)) BK636.out 1
   go_upto_region 8 with (first | ((with_reducible refine QaD (N := 10) rfl ?_); refine Zbx (N := 10) (cs := #[.string (⟨#[]⟩ : ByteArray), .string (⟨#[]⟩ : ByteArray), .string (⟨#[]⟩ : ByteArray), .int .i64 0]) (t := 46) ?_; intro gb639 hg w14 hbox hb; have BK639 := Aside0.mk (hbox); have GW639 := Aside0.mk (Zt w hg (Zc1 GE636.out)); have GE639 := GW639; have NB636_639 := Aside0.mk (Zn hg BK636.out); have NB639_636 := Aside0.mk NB636_639.out.symm; replace BK636 := Aside0.mk (Zi BK636.out hb); replace HB := Aside0.mk (Qao (Zc1 GE636.out) hb); clear hb hbox hg; have hnb15 := NB639_636.out; have hnc15 := NB636_639.out; obtain ⟨hcz16_0, hfz16_0⟩ := Zy (v := (.string (⟨#[]⟩ : ByteArray))) BK639.out 0; obtain ⟨hcz16_1, hfz16_1⟩ := Zy (v := (.string (⟨#[]⟩ : ByteArray))) BK639.out 1; obtain ⟨hcz16_2, hfz16_2⟩ := Zy (v := (.string (⟨#[]⟩ : ByteArray))) BK639.out 2; obtain ⟨hcz16_3, hfz16_3⟩ := Zy (v := (.int .i64 0)) BK639.out 3) | ((with_reducible refine Qax (f := 73) rfl ?_); refine goesL_ (some 27) rfl rfl Try.func73 (by kernel_rfl) rfl #[.slice A0 l0.length c0, .agg #[.string a1_0, .string a1_1, .string a2, .int .i64 0], .func (.func 74) #[] #[]] rfl (Zl) ?_; (with_reducible refine (Qar.calls k _ _ l0 a1_0 a1_1 a2 0  t640 t641 _ ?side1 ?side2 A11.out).mono ?_); (case side1 => exact Kd.C_below HR0.out (Zc2 GE636.out GE639.out)); (case side2 => exact HC0.out); rintro e w17 ⟨rfl, hb⟩; refine ⟨_, rfl, ?_⟩; replace BK636 := Aside0.mk (Qaj (g := gb636) (o := .cells #[.string a1_0, .string a1_1] 44 (0, 0)) (Zg4 BK636.out NB636_639.out NB636_639.out NB636_639.out NB636_639.out) hb); replace BK639 := Aside0.mk (Zpi #[.string a1_0, .string a1_1, .string a2, .int .i64 0] BK639.out hb); replace HB := Aside0.mk (Qao (Zc2 GE636.out GE639.out) hb); (try clear hb); (try clear hb2); (try clear hk); (try clear hi)))
   (try simp only [Act.put, Zj, Zk, Zm])
   go_cut [40] (fun v40 wc => ∃ (kq : Nat) (x40_11 : Bool), v40 = .bool x40_11 ∧ Aside0 (QaT.j0 kq l0 a3 t640 x40_11 a1_0 a1_1 a2 0 = some (r1, r2)) ∧ Aside0 (kq ≤ k) ∧ Aside0 (wc.heap[gb636]? = some (.cells #[.string a1_0, .string a1_1] 44 (0, 0))) ∧ Aside0 (wc.heap[gb639]? = some (.cells #[.string a1_0, .string a1_1, .string a2, .int .i64 0] 46 (0, 0))) ∧ Aside0 (Below w.heap.size w wc))
   case first =>
    have H := HC12.out
    clear HC12
    by_cases c18 : t641 = T
    ·subst c18
     have H1 : (if 0 ≤ t640 then (if t640 < (l0.length : Int) then (QaT.j0 k l0 a3 t640 (decide (((rd_T46 l0 t640).f2) < a3)) a1_0 a1_1 a2 0) else (none)) else (none)) = some (r1, r2) := by rw [if_pos rfl] at H; exact H
     clear H
     have H := H1
     clear H1
     by_cases c19 : 0 ≤ t640
     ·rw [if_pos c19] at H
      have c19b0 : decide (0 ≤ t640) = T := decide_eq_true c19
      clear c19
      by_cases c20 : t640 < (l0.length : Int)
      ·rw [if_pos c20] at H
       have c20b0 : decide (t640 < (l0.length : Int)) = T := decide_eq_true c20
       clear c20
       have H' := Aside0.mk H
       clear H
       have p642 : 0 ≤ (t640 : Int) := Ze
       have q642 : t640 < (l0.length : Int) := Ze
       obtain ⟨ad642, e642, hx642_0, hx642_1, hx642_2, hx642_3⟩ := at_T46 HR0.out t640 p642 q642
       cases e642
       replace hx642_0 := Zx HB.out hx642_0
       replace hx642_1 := Zx HB.out hx642_1
       replace hx642_2 := Zx HB.out hx642_2
       replace hx642_3 := Zx HB.out hx642_3
       replace p642 := eq_true p642
       replace q642 := eq_true q642
       go_wp2
       go_meet
       case rel => exact ⟨_, (decide (((rd_T46 l0 t640).f2) < a3)), (Zs), H', ⟨by first | omega | exact Nat.le_refl _⟩, ⟨Zu BK636.out⟩, ⟨Zu BK639.out⟩, ⟨Zc2 GE636.out GE639.out⟩⟩
      rw [if_neg c20] at H
      exact absurd H (by simp)
     rw [if_neg c19] at H
     exact absurd H (by simp)
    replace c18 := Bool.eq_false_iff.mpr c18
    subst c18
    have H1 : (QaT.j0 k l0 a3 t640 T a1_0 a1_1 a2 0) = some (r1, r2) := by rw [if_neg (show ¬ (F = T) by decide)] at H; exact H
    clear H
    have H := H1
    clear H1
    have H' := Aside0.mk H
    clear H
    go_wp2
    go_meet
    case rel => exact ⟨_, (T), (Zs), H', ⟨by first | omega | exact Nat.le_refl _⟩, ⟨Zu BK636.out⟩, ⟨Zu BK639.out⟩, ⟨Zc2 GE636.out GE639.out⟩⟩
   case rest =>
    clear HC12
    try clear c1
    try clear c2
    try clear p2
    try clear c4
    try clear p6
    try clear q6
    try clear hx6
    try clear c7
    try clear c8
    try clear c8b0
    try clear c8b1
    try clear c10
    try clear c15
    try clear c18
    try clear c19
    try clear c19b0
    try clear c20
    try clear c20b0
    try clear hcz13_0
    try clear hcz13_1
    try clear hcz16_0
    try clear hcz16_1
    try clear hcz16_2
    try clear hcz16_3
    try clear hfz13_0
    try clear hfz13_1
    try clear hfz16_0
    try clear hfz16_1
    try clear hfz16_2
    try clear hfz16_3
    try clear hx642_0
    try clear hx642_1
    try clear hx642_2
    try clear hx642_3
    try clear p642
    try clear q642
    obtain ⟨kq, x40_11, rfl, HA, HJ11, BK636, BK639, HB⟩ := hcut
    cases kq with
    | zero => exact absurd HA.out (by simp [QaT.j0])
    | succ kj11 =>
     have H := HA.out
     clear HA
     simp only [QaT.j0] at H
     by_cases c21 : x40_11 = T
     ·subst c21
      have H1 : (some (([] : List (S46)), 23)) = some (r1, r2) := by rw [if_pos rfl] at H; exact H
      clear H
      have H := H1
      clear H1
      simp only [Option.some.injEq, Prod.mk.injEq] at H
      obtain ⟨rfl, rfl⟩ := H
      go_wp2
      go_ret2
      exact ⟨_, Zq, by first | exact Kd.R_nil _ _ _ _ _ | exact Kd.N_nil _ _ _ _ _ | exact Kd.V_nil _ _ _ _ _ | exact Kd.Q_nil _ _ _ _ _ | exact Kd.S_nil _ _ _ _ _, Zc2 GE636.out GE639.out⟩
     replace c21 := Bool.eq_false_iff.mpr c21
     subst c21
     have H1 : (if 0 ≤ t640 then (if t640 < (l0.length : Int) then (if (wrap64 (((rd_T46 l0 t640).f2) - a3)) = 0 then ((QaE.f l0 t640 1 ([] : List (S46))).bind fun t644 => (some (t644, 0))) else ((QaE.f l0 t640 1 (([(⟨(⟨a1_0, a1_1⟩ : S44), a2, wrap64 (((rd_T46 l0 t640).f2) - a3)⟩ : S46)] : List (S46)))).bind fun t650 => (some (t650, 0)))) else (none)) else (none)) = some (r1, r2) := by rw [if_neg (show ¬ (F = T) by decide)] at H; exact H
     clear H
     have H := H1
     clear H1
     by_cases c22 : 0 ≤ t640
     ·rw [if_pos c22] at H
      have c22b0 : decide (0 ≤ t640) = T := decide_eq_true c22
      clear c22
      (try simp only [c22b0])
      by_cases c23 : t640 < (l0.length : Int)
      ·rw [if_pos c23] at H
       have c23b0 : decide (t640 < (l0.length : Int)) = T := decide_eq_true c23
       clear c23
       have p643 : 0 ≤ (t640 : Int) := Ze
       have q643 : t640 < (l0.length : Int) := Ze
       obtain ⟨ad643, e643, hx643_0, hx643_1, hx643_2, hx643_3⟩ := at_T46 HR0.out t640 p643 q643
       cases e643
       replace hx643_0 := Zx HB.out hx643_0
       replace hx643_1 := Zx HB.out hx643_1
       replace hx643_2 := Zx HB.out hx643_2
       replace hx643_3 := Zx HB.out hx643_3
       replace p643 := eq_true p643
       replace q643 := eq_true q643
       have hnb24 := NB639_636.out
       have hnc24 := NB636_639.out
       obtain ⟨hcz25_0, hfz25_0⟩ := Zy (v := (.string a1_0)) BK639.out 0
       obtain ⟨hcz25_1, hfz25_1⟩ := Zy (v := (.string a1_1)) BK639.out 1
       obtain ⟨hcz25_2, hfz25_2⟩ := Zy (v := (.string a2)) BK639.out 2
       obtain ⟨hcz25_3, hfz25_3⟩ := Zy (v := (.int .i64 0)) BK639.out 3
       go_upto_if 51 with (fail)
       by_cases c26 : (wrap64 (((rd_T46 l0 t640).f2) - a3)) = 0
       ·rw [if_pos c26] at H
        have c26b0 : ((wrap64 (((rd_T46 l0 t640).f2) - a3)) == 0) = T := beq_iff_eq.mpr c26
        have c26b1 : ((wrap64 (((rd_T46 l0 t640).f2) - a3)) != 0) = F := bne_eq_false_iff_eq.mpr c26
        clear c26
        (try simp only [c26b0, c26b1])
        replace H := Option.bind_eq_some_iff.mp H
        obtain ⟨t644, A270, H⟩ := H
        replace H : (some (t644, 0)) = some (r1, r2) := H
        have A27 := Aside0.mk A270
        clear A270
        simp only [Option.some.injEq, Prod.mk.injEq] at H
        obtain ⟨rfl, rfl⟩ := H
        go_wp2_with (first | ((with_reducible refine Qax (f := 75) rfl ?_); refine goesL_ (some 54) rfl rfl Try.func75 (by kernel_rfl) rfl #[.slice (some ad643) l0.length c0, .int .i64 t640, .int .i64 1, .slice none 0 0] rfl (Zl) ?_; (refine (QaE.calls _ _ l0 t640 1 _ _ ([] : List (S46)) t644 _ ?side1 ?side2 ?side3 ?side4 A27.out).mono ?_); (case side1 => exact Kd.C_below HR0.out (Zc2 GE636.out GE639.out)); (case side2 => exact HC0.out); (case side3 => exact Kd.C_nil _ _); (case side4 => exact Nat.le_refl _); rintro e w28 ⟨v645, rfl, ho0, hb⟩; refine ⟨_, rfl, ?_⟩; have HO646 := Aside0.mk (Kd.R_lower (Kd.R_newB ho0 (g := gb639) (o := .cells #[.string a1_0, .string a1_1, .string a2, .int .i64 (wrap64 (((rd_T46 l0 t640).f2) - a3))] 46 (0, 0)) (Zp2 BK639.out)) (Qan (Zc2 GE636.out GE639.out))); replace BK636 := Aside0.mk (Qaj (g := gb636) (o := .cells #[.string a1_0, .string a1_1] 44 (0, 0)) (Zg1 BK636.out NB636_639.out) hb); replace BK639 := Aside0.mk (Zpi #[.string a1_0, .string a1_1, .string a2, .int .i64 (wrap64 (((rd_T46 l0 t640).f2) - a3))] BK639.out hb); replace HB := Aside0.mk (Qao (Zc2 GE636.out GE639.out) hb); (try clear hb); (try clear hb2); (try clear hk); (try clear hi); (try clear ho0)))
        go_ret2
        exact ⟨_, Zq, by (with_reducible repeat (first | apply Kd.R_alloc | apply Kd.R_drewN | apply Kd.R_drew)); exact Kd.R_mono HO646.out (fun _ hk => trivial), Zc2 GE636.out GE639.out⟩
       rw [if_neg c26] at H
       have c26b0 : ((wrap64 (((rd_T46 l0 t640).f2) - a3)) == 0) = F := beq_eq_false_iff_ne.mpr c26
       have c26b1 : ((wrap64 (((rd_T46 l0 t640).f2) - a3)) != 0) = T := bne_iff_ne.mpr c26
       (try simp only [c26b0, c26b1])
       obtain ⟨y647, hy647⟩ : ∃ y_ : List (S46), y_ = (([(⟨(⟨a1_0, a1_1⟩ : S44), a2, wrap64 (((rd_T46 l0 t640).f2) - a3)⟩ : S46)] : List (S46))) := ⟨_, rfl⟩
       replace H : ((QaE.f l0 t640 1 y647).bind fun t650 => (some (t650, 0))) = some (r1, r2) := by first | (rw [hy647]; with_reducible exact H) | (have H2_ := (Option.bind_some _ _).symm.trans H; rw [hy647]; with_reducible exact H2_) | (have H2_ := (Option.bind_some _ _).symm.trans H; with_reducible exact H2_) | with_reducible exact H | (rw [hy647]; exact H) | exact H
       have Ny647 := Aside0.mk hy647
       clear hy647
       replace H := Option.bind_eq_some_iff.mp H
       obtain ⟨t650, A290, H⟩ := H
       replace H : (some (t650, 0)) = some (r1, r2) := H
       have A29 := Aside0.mk A290
       clear A290
       simp only [Option.some.injEq, Prod.mk.injEq] at H
       obtain ⟨rfl, rfl⟩ := H
       have hnb30 := NB639_636.out
       have hnc30 := NB636_639.out
       obtain ⟨hcz31_0, hfz31_0⟩ := Zy (v := (.string a1_0)) BK639.out 0
       obtain ⟨hcz31_1, hfz31_1⟩ := Zy (v := (.string a1_1)) BK639.out 1
       obtain ⟨hcz31_2, hfz31_2⟩ := Zy (v := (.string a2)) BK639.out 2
       obtain ⟨hcz31_3, hfz31_3⟩ := Zy (v := (.int .i64 0)) BK639.out 3
       go_wp2_with (first | ((with_reducible refine QaD (N := 58) rfl ?_); refine Kd.R_lit k46 _ 46 ?hg (N := 58) ?hd (xs := ([(⟨(⟨a1_0, a1_1⟩ : S44), a2, wrap64 (((rd_T46 l0 t640).f2) - a3)⟩ : S46)] : List (S46))) (inner := [.string a1_0, .string a1_1, .string a2, .int .i64 (wrap64 (((rd_T46 l0 t640).f2) - a3))]) (ok := fun _ => True) (okp := fun _ => True) ?hr ?hp (fun _ hk => hk) trivial (Below.refl _ _) (Nat.le_refl _) (by simp) ?_; (case hd => rfl); (case hg => rfl); (case hr => first | (go_simp; done) | (go_simp; rfl)); (case hp => exact (Reps.c4 (show Kd.M k46 _ _ _ (⟨(⟨a1_0, a1_1⟩ : S44), a2, wrap64 (((rd_T46 l0 t640).f2) - a3)⟩ : S46) [.string a1_0, .string a1_1, .string a2, .int .i64 (wrap64 (((rd_T46 l0 t640).f2) - a3))] from (QbR _ _ _ (⟨(⟨a1_0, a1_1⟩ : S44), a2, wrap64 (((rd_T46 l0 t640).f2) - a3)⟩ : S46) )) (Reps.none _ _))); intro v648 w32 ho33 hb hg_ hnew_; clear hg_ hnew_; (first | rw [← Ny647.out] at ho33 | (simp only [Int.reduceToNat] at ho33; rw [← Ny647.out] at ho33)); have HO649 := Aside0.mk (Kd.R_lower (Kd.R_newB ho33 (g := gb639) (o := .cells #[.string a1_0, .string a1_1, .string a2, .int .i64 (wrap64 (((rd_T46 l0 t640).f2) - a3))] 46 (0, 0)) (Zp2 BK639.out)) (Qan (Zc2 GE636.out GE639.out))); replace BK636 := Aside0.mk (Qaj (g := gb636) (o := .cells #[.string a1_0, .string a1_1] 44 (0, 0)) (Zg1 BK636.out NB636_639.out) hb); replace BK639 := Aside0.mk (Zpi #[.string a1_0, .string a1_1, .string a2, .int .i64 (wrap64 (((rd_T46 l0 t640).f2) - a3))] BK639.out hb); replace HB := Aside0.mk (Qao (Zc2 GE636.out GE639.out) hb); clear hb ho33; obtain ⟨Ao34, co34, eo34⟩ := Kd.R_slice HO649.out; subst eo34) | ((with_reducible refine Qax (f := 75) rfl ?_); refine goesL_ (some 59) rfl rfl Try.func75 (by kernel_rfl) rfl #[.slice (some ad643) l0.length c0, .int .i64 t640, .int .i64 1, .slice Ao34 y647.length co34] rfl (Zl) ?_; (with_reducible refine (QaE.calls _ _ l0 t640 1 _ _ y647 t650 _ ?side1 ?side2 ?side3 ?side4 A29.out).mono ?_); (case side1 => exact Zv (Kd.C_below HR0.out HB.out)); (case side2 => exact HC0.out); (case side3 => exact Zv (Kd.R_reads' HO649.out).2.2); (case side4 => exact (Kd.R_reads' HO649.out).2.1); rintro e w35 ⟨v651, rfl, ho0, hb⟩; refine ⟨_, rfl, ?_⟩; have HO652 := Aside0.mk (Kd.R_lower (Kd.R_newB (Kd.R_new' ho0 (Kd.R_lt (Zr HO649.out))) (g := gb639) (o := .cells #[.string a1_0, .string a1_1, .string a2, .int .i64 (wrap64 (((rd_T46 l0 t640).f2) - a3))] 46 (0, 0)) (Zu BK639.out)) (Qan (Zc2 GE636.out GE639.out))); replace HO649 := Aside0.mk (Kd.R_elder' (Zr HO649.out) (Kd.R_base ho0) hb); replace BK636 := Aside0.mk (Zi BK636.out hb); replace BK639 := Aside0.mk (Zi BK639.out hb); replace HB := Aside0.mk (Qao (Zc2 GE636.out GE639.out) hb); (try clear hb); (try clear hb2); (try clear hk); (try clear hi); (try clear ho0)))
       go_ret2
       exact ⟨_, Zq, by (with_reducible repeat (first | apply Kd.R_alloc | apply Kd.R_drewN | apply Kd.R_drew)); exact Kd.R_mono HO652.out (fun _ hk => trivial), Zc2 GE636.out GE639.out⟩
      rw [if_neg c23] at H
      exact absurd H (by simp)
     rw [if_neg c22] at H
     exact absurd H (by simp)
  replace c10 := Bool.eq_false_iff.mpr c10
  subst c10
  have H1 : (some (([] : List (S46)), 18)) = some (r1, r2) := by rw [if_neg (show ¬ (F = T) by decide)] at H; exact H
  clear H
  have H := H1
  clear H1
  simp only [Option.some.injEq, Prod.mk.injEq] at H
  obtain ⟨rfl, rfl⟩ := H
  go_wp2
  go_ret2
  exact ⟨_, Zq, by first | exact Kd.R_nil _ _ _ _ _ | exact Kd.N_nil _ _ _ _ _ | exact Kd.V_nil _ _ _ _ _ | exact Kd.Q_nil _ _ _ _ _ | exact Kd.S_nil _ _ _ _ _, Zc1 GE636.out⟩
 rw [if_neg c8] at H
 have c8b0 : (t637 == 0) = F := beq_eq_false_iff_ne.mpr c8
 have c8b1 : (t637 != 0) = T := bne_iff_ne.mpr c8
 (try simp only [c8b0, c8b1])
 simp only [Option.some.injEq, Prod.mk.injEq] at H
 obtain ⟨rfl, rfl⟩ := H
 go_wp2
 go_ret2
 exact ⟨_, Zq, by first | exact Kd.R_nil _ _ _ _ _ | exact Kd.N_nil _ _ _ _ _ | exact Kd.V_nil _ _ _ _ _ | exact Kd.Q_nil _ _ _ _ _ | exact Kd.S_nil _ _ _ _ _, Zc1 GE636.out⟩
theorem QcP.calls (k : Nat) (ba br bn : Nat) (s : ByteArray) (a1 a2 a3 a4 a5 n qty m e : Int) (A : Option Addr) (c : Nat) (l : List S98) (w : World)
  (ha : Aside0 (w.heap[ba]? = some (.cells #[.string s, .int .i64 a1, .int .i64 a2, .int .i64 a3, .int .i64 a4, .int .i64 a5] 84 (0, 0)))) (hr : Aside0 (w.heap[br]? = some (.cells #[.slice A l.length c] 32 (0, 0)))) (hn : Aside0 (w.heap[bn]? = some (.cells #[.int .i64 n] 3 (0, 0))))
  (hC : Aside0 (Kd.C k98 w A l.length l)) (hc : Aside0 (l.length ≤ c)) (hw : Aside0 (Qa0.f k s a1 a2 a3 a4 a5 qty l = some (m, e))) :
  Calls Try.prog 81 #[.int .i64 qty, .pointer (some ⟨ba, 0, none⟩), .pointer (some ⟨br, 0, none⟩), .pointer (some ⟨bn, 0, none⟩)] w fun en w' => en = .returned (.bool (decide (e ≠ 0) || decide (n ≤ m))) ∧ Below w.heap.size w w' := by
 have hu23 := Try.underlying84
 have la : ba < w.heap.size := blk_lt ha.out
 have lr : br < w.heap.size := blk_lt hr.out
 have ln : bn < w.heap.size := blk_lt hn.out
 have c0' : w.cell? ⟨ba, 0, none⟩ = some (.string s) := (Qag ha.out 0).trans rfl
 have c1' : w.cell? ⟨ba, 1, none⟩ = some (.int .i64 a1) := (Qag ha.out 1).trans rfl
 have c2' : w.cell? ⟨ba, 2, none⟩ = some (.int .i64 a2) := (Qag ha.out 2).trans rfl
 have c3' : w.cell? ⟨ba, 3, none⟩ = some (.int .i64 a3) := (Qag ha.out 3).trans rfl
 have c4' : w.cell? ⟨ba, 4, none⟩ = some (.int .i64 a4) := (Qag ha.out 4).trans rfl
 have c5' : w.cell? ⟨ba, 5, none⟩ = some (.int .i64 a5) := (Qag ha.out 5).trans rfl
 have cr' : w.cell? ⟨br, 0, none⟩ = some (.slice A l.length c) := (Qag hr.out 0).trans rfl
 go_enter Try.func81, Try.ntmps81
 go_wp2_with fail
 refine (Qa0.calls k s a1 a2 a3 a4 a5 qty A c l m e _ (Kd.C_below hC.out ?_) hc.out hw.out).mono ?_
 ·repeat (first | exact Below.refl _ _ | apply Qah | apply Qae | apply Qa8)
 rintro en w1 ⟨rfl, hb⟩
 have HB := Aside0.mk (QbG (by repeat (first | exact Below.refl _ _ | apply Qah | apply Qae | apply Qa8)) (Nat.le_refl _) hb)
 have hnn := (hb.block bn (by first | omega | (simp; omega))).trans (by first | exact hn.out | (simp; exact hn.out))
 have cn' : w1.cell? ⟨bn, 0, none⟩ = some (.int .i64 n) := (Qag hnn 0).trans rfl
 have ln1 : bn < w1.heap.size := blk_lt hnn
 clear hb hnn
 by_cases he : e = 0
 ·subst he
  by_cases hm : n ≤ m
  ·go_wp2
   go_ret
   exact ⟨by simp [hm], by repeat (first | exact HB.out | apply Qah | apply Qae | apply Qa8)⟩
  have hm' : m < n := by omega
  go_wp2
  go_ret
  exact ⟨by simp [hm], by repeat (first | exact HB.out | apply Qah | apply Qae | apply Qa8)⟩
 go_wp2
 go_ret
 exact ⟨by simp [he], by repeat (first | exact HB.out | apply Qah | apply Qae | apply Qa8)⟩
def Qa1.l0 : Nat → ByteArray → Int → Int → Int → Int → Int → Int → List S98 → Int → Int → Option Int
 | 0, _, _, _, _, _, _, _, _, _, _ => none
 | k + 1, s, a1, a2, a3, a4, a5, n, l, lo, hi => if lo < hi then (Qa0.f k s a1 a2 a3 a4 a5 (wrap64 (lo + (wrap64 (Int.tdiv (wrap64 (hi - lo)) 2)))) l).bind fun t => if t.2 ≠ 0 ∨ n ≤ t.1 then Qa1.l0 k s a1 a2 a3 a4 a5 n l lo (wrap64 (lo + (wrap64 (Int.tdiv (wrap64 (hi - lo)) 2)))) else Qa1.l0 k s a1 a2 a3 a4 a5 n l (wrap64 ((wrap64 (lo + (wrap64 (Int.tdiv (wrap64 (hi - lo)) 2)))) + 1)) hi else some lo
theorem Qa1.mono_l : ∀ k s a1 a2 a3 a4 a5 n l lo hi, LeO (Qa1.l0 k s a1 a2 a3 a4 a5 n l lo hi) (Qa1.l0 (k + 1) s a1 a2 a3 a4 a5 n l lo hi)
 | 0 => fun _ _ _ _ _ _ _ _ _ _ r h => by simp [Qa1.l0] at h
 | k + 1 => by
  intro s a1 a2 a3 a4 a5 n l lo hi
  have ih := Qa1.mono_l k
  rw [Qa1.l0, Qa1.l0]
  refine LeO.ite (LeO.bind (Qa0.mono _ _ _ _ _ _ _ _ _) fun _ => LeO.ite (ih _ _ _ _ _ _ _ _ _ _) (ih _ _ _ _ _ _ _ _ _ _)) (LeO.refl _)
def Qa1.f (k : Nat) (s : ByteArray) (a1 a2 a3 a4 a5 n : Int) (l : List S98) : Option (Int × Int) :=
 (QaB.f k s a1 a2 a3 a4 a5).bind fun t => if t = 0 then
  (QaO.f k l).bind fun u => if u = 0 then
   if a2 ≥ (l.length : Int) then some (0, 25) else
    (Qbv.f n).bind fun b => if b = T then
     if a4 = 1000 then some (0, 4) else
      (Qa1.l0 k s a1 a2 a3 a4 a5 n l 0 1152921504606846976).bind fun low => (Qa0.f k s a1 a2 a3 a4 a5 low l).bind fun t => if t.2 ≠ 0 ∨ t.1 < n then some (0, 3) else some (low, 0)
    else some (0, 2)
  else some (0, u)
 else some (0, t)
theorem Qa1.mono : ∀ s a1 a2 a3 a4 a5 n l k, LeO (Qa1.f k s a1 a2 a3 a4 a5 n l) (Qa1.f (k + 1) s a1 a2 a3 a4 a5 n l) := by
 intro s a1 a2 a3 a4 a5 n l k
 unfold Qa1.f
 refine LeO.bind (QaB.mono _ _ _ _ _ _ _) fun _ => LeO.ite (LeO.bind (QaO.mono _ _) fun _ => LeO.ite (LeO.ite (LeO.refl _) (LeO.bind (LeO.refl _) fun _ => LeO.ite (LeO.ite (LeO.refl _) (LeO.bind (Qa1.mono_l _ _ _ _ _ _ _ _ _ _ _) fun _ => LeO.bind (Qa0.mono _ _ _ _ _ _ _ _ _) fun _ => LeO.refl _)) (LeO.refl _))) (LeO.refl _)) (LeO.refl _)
theorem Qa1.calls (k : Nat) (s : ByteArray) (a1 a2 a3 a4 a5 n : Int) (A2 : Option Addr) (c2 : Nat) (l2 : List S98) (r1 r2 : Int) (w : World) (hr2 : Kd.C k98 w A2 l2.length l2) (hc2 : l2.length ≤ c2) (h : Qa1.f k s a1 a2 a3 a4 a5 n l2 = some (r1, r2)) :
  Calls Try.prog 49 #[.agg #[.string s, .int .i64 a1, .int .i64 a2, .int .i64 a3, .int .i64 a4, .int .i64 a5], .int .i64 n, .slice A2 l2.length c2] w fun e w' => e = .returned (.tuple #[.int .i64 r1, .int .i64 r2]) ∧ Below w.heap.size w w' := by
 have hu23 := Try.underlying84
 have HR := Aside0.mk hr2
 have HC := Aside0.mk hc2
 clear hr2 hc2
 obtain ⟨t, ht, h⟩ := Option.bind_eq_some_iff.1 h
 have HT := Aside0.mk ht
 clear ht
 go_enter Try.func49, Try.ntmps49
 go_wp2_with fail
 refine (QaB.calls k s a1 a2 a3 a4 a5 t _ HT.out).mono ?_
 rintro e w1 ⟨rfl, hb⟩
 have HA := Aside0.mk (show w1.heap[w.heap.size]? = some (.cells #[.string s, .int .i64 a1, .int .i64 a2, .int .i64 a3, .int .i64 a4, .int .i64 a5] 84 (0, 0)) from (hb.block _ (by first | (simp; done) | (simp; omega) | omega)).trans (Qaa (Qaa (heap_alloc_new w _) _) _))
 have HN := Aside0.mk (show w1.heap[w.heap.size + 1]? = some (.cells #[.int .i64 n] 3 (0, 0)) from (hb.block _ (by first | (simp; done) | (simp; omega) | omega)).trans (Qaa (by simpa using heap_alloc_new (w.alloc (.cells #[.string s, .int .i64 a1, .int .i64 a2, .int .i64 a3, .int .i64 a4, .int .i64 a5] 84 (0, 0))) (.cells #[.int .i64 n] 3 (0, 0))) _))
 have HS := Aside0.mk (show w1.heap[w.heap.size + 2]? = some (.cells #[.slice A2 l2.length c2] 32 (0, 0)) from (hb.block _ (by first | (simp; done) | (simp; omega) | omega)).trans (by simpa using heap_alloc_new ((w.alloc (.cells #[.string s, .int .i64 a1, .int .i64 a2, .int .i64 a3, .int .i64 a4, .int .i64 a5] 84 (0, 0))).alloc (.cells #[.int .i64 n] 3 (0, 0))) (.cells #[.slice A2 l2.length c2] 32 (0, 0))))
 have HB := Aside0.mk ((Qah (Qah (Qah (Below.refl w.heap.size w) _) _) _).trans (hb.mono (by first | (simp; done) | (simp; omega) | omega)))
 clear hb
 by_cases ht0 : t = 0
 ·subst ht0
  simp only [if_true] at h
  obtain ⟨u, hu, h⟩ := Option.bind_eq_some_iff.1 h
  have HU := Aside0.mk hu
  clear hu
  have ls1 : w.heap.size + 2 < w1.heap.size := blk_lt HS.out
  have cs1 : w1.cell? ⟨w.heap.size + 2, 0, none⟩ = some (.slice A2 l2.length c2) := (Qag HS.out 0).trans rfl
  go_wp2_with fail
  refine (QaO.calls k A2 c2 l2 u _ (Kd.C_below HR.out ?_) HC.out HU.out).mono ?_
  ·repeat (first | exact HB.out | apply Qah | apply Qae | apply Qa8)
  rintro e w2 ⟨rfl, hb⟩
  have hA := (hb.block w.heap.size (by first | omega | (simp; omega))).trans (by first | exact HA.out | (simp; exact HA.out))
  have hN := (hb.block (w.heap.size + 1) (by first | omega | (simp; omega))).trans (by first | exact HN.out | (simp; exact HN.out))
  have hS := (hb.block (w.heap.size + 2) (by first | omega | (simp; omega))).trans (by first | exact HS.out | (simp; exact HS.out))
  have hB := HB.out.trans (hb.mono (by omega))
  clear HA HN HS HB hb ls1 cs1
  have HA := Aside0.mk hA
  have HN := Aside0.mk hN
  have HS := Aside0.mk hS
  have HB := Aside0.mk hB
  clear hA hN hS hB
  by_cases hu0 : u = 0
  ·subst hu0
   simp only [if_true] at h
   have ls : w.heap.size + 2 < w2.heap.size := blk_lt HS.out
   have cs' : w2.cell? ⟨w.heap.size + 2, 0, none⟩ = some (.slice A2 l2.length c2) := (Qag HS.out 0).trans rfl
   have ln : w.heap.size + 1 < w2.heap.size := by omega
   have cn' : w2.cell? ⟨w.heap.size + 1, 0, none⟩ = some (.int .i64 n) := (Qag HN.out 0).trans rfl
   have la : w.heap.size < w2.heap.size := by omega
   have c2' : w2.cell? ⟨w.heap.size, 2, none⟩ = some (.int .i64 a2) := (Qag HA.out 2).trans rfl
   have c4' : w2.cell? ⟨w.heap.size, 4, none⟩ = some (.int .i64 a4) := (Qag HA.out 4).trans rfl
   by_cases hcu : a2 ≥ (l2.length : Int)
   ·rw [if_pos hcu] at h
    obtain ⟨rfl, rfl⟩ : (0 : Int) = r1 ∧ (25 : Int) = r2 := by simpa using h
    have hcu' : (l2.length : Int) ≤ a2 := hcu
    go_wp2
    go_ret2
    exact ⟨rfl, by repeat (first | exact HB.out | apply Qah | apply Qae | apply Qa8)⟩
   rw [if_neg hcu] at h
   have hcu' : a2 < (l2.length : Int) := by omega
   obtain ⟨b, hb, h⟩ := Option.bind_eq_some_iff.1 h
   have HM := Aside0.mk hb
   clear hb
   cases b with
   | false =>
    obtain ⟨rfl, rfl⟩ : (0 : Int) = r1 ∧ (2 : Int) = r2 := by simpa using h
    go_wp2_with (first | (go_at_call 80; (with_reducible refine (Qbv.calls n _ _ HM.out).mono ?_); rintro e w' ⟨rfl, ⟨nd, rfl⟩⟩))
    go_ret2
    exact ⟨rfl, by repeat (first | exact HB.out | apply Qah | apply Qae | apply Qa8)⟩
   | true =>
    simp only [if_true] at h
    by_cases h4 : a4 = 1000
    ·rw [if_pos h4] at h
     obtain ⟨rfl, rfl⟩ : (0 : Int) = r1 ∧ (4 : Int) = r2 := by simpa using h
     have h4b : (a4 == 1000) = T := beq_iff_eq.2 h4
     go_wp2_with (first | (go_at_call 80; (with_reducible refine (Qbv.calls n _ _ HM.out).mono ?_); rintro e w' ⟨rfl, ⟨nd, rfl⟩⟩))
     go_ret2
     exact ⟨rfl, by repeat (first | exact HB.out | apply Qah | apply Qae | apply Qa8)⟩
    rw [if_neg h4] at h
    have h4b : (a4 == 1000) = F := beq_eq_false_iff_ne.2 h4
    obtain ⟨low, hlow, h⟩ := Option.bind_eq_some_iff.1 h
    have H' := Aside0.mk hlow
    clear hlow
    obtain ⟨⟨m1, m2⟩, hm, h⟩ := Option.bind_eq_some_iff.1 h
    have HE := Aside0.mk hm
    have HZ := Aside0.mk h
    clear hm h
    go_wp2_with (first | (go_at_call 80; (with_reducible refine (Qbv.calls n _ _ HM.out).mono ?_); rintro e w' ⟨rfl, ⟨nd, rfl⟩⟩))
    go_loopg [11, 12] k (fun kq v11 v12 w' => ∃ (lo hi : Int), v11 = .int .i64 lo ∧ v12 = .int .i64 hi ∧ Aside0 (Qa1.l0 kq s a1 a2 a3 a4 a5 n l2 lo hi = some low) ∧ Aside0 (kq ≤ k) ∧ Aside0 (w'.heap[w.heap.size]? = some (.cells #[.string s, .int .i64 a1, .int .i64 a2, .int .i64 a3, .int .i64 a4, .int .i64 a5] 84 (0, 0))) ∧ Aside0 (w'.heap[w.heap.size + 1]? = some (.cells #[.int .i64 n] 3 (0, 0))) ∧ Aside0 (w'.heap[w.heap.size + 2]? = some (.cells #[.slice A2 l2.length c2] 32 (0, 0))) ∧ Aside0 (Below w.heap.size w w'))
    case atStart => exact ⟨0, 1152921504606846976, rfl, rfl, H', ⟨Nat.le_refl _⟩, ⟨by (with_reducible repeat (first | refine Qab ?_ _ | refine Qac ?_ | refine Qaa ?_ _)); exact HA.out⟩, ⟨by (with_reducible repeat (first | refine Qab ?_ _ | refine Qac ?_ | refine Qaa ?_ _)); exact HN.out⟩, ⟨by (with_reducible repeat (first | refine Qab ?_ _ | refine Qac ?_ | refine Qaa ?_ _)); exact HS.out⟩, ⟨by repeat (first | exact HB.out | apply Qah | apply Qae | apply Qa8)⟩⟩
    case round =>
     clear H' HA HN HS HB ls cs' ln cn' la c2' c4'
     obtain ⟨lo, hi, rfl, rfl, HL, HK1, HA, HN, HS, HB⟩ := hrel
     have ls : w.heap.size + 2 < wr.heap.size := blk_lt HS.out
     cases gk with
     | zero => exact absurd HL.out (by simp [Qa1.l0])
     | succ k1 =>
      have H := HL.out
      clear HL
      simp only [Qa1.l0] at H
      by_cases c3 : lo < hi
      ·rw [if_pos c3] at H
       have c3b0 : decide (lo < hi) = T := decide_eq_true c3
       obtain ⟨md, hmd⟩ : ∃ j : Int, wrap64 (lo + (wrap64 (Int.tdiv (wrap64 (hi - lo)) 2))) = j := ⟨_, rfl⟩
       rw [hmd] at H
       obtain ⟨⟨t1, t2⟩, hT, H⟩ := Option.bind_eq_some_iff.1 H
       have HW := Aside0.mk hT
       have hmdw : IntKind.i64.wrap (lo + (wrap64 (Int.tdiv (wrap64 (hi - lo)) 2))) = md := (i64_w _).trans hmd
       clear hT
       by_cases ct : t2 ≠ 0 ∨ n ≤ t1
       ·rw [if_pos ct] at H
        have H' := Aside0.mk H
        clear H
        have hbv : (decide (t2 ≠ 0) || decide (n ≤ t1)) = T := by simpa using ct
        go_wp2_with (first | (go_at_call 81; refine (QcP.calls k1 w.heap.size (w.heap.size + 2) (w.heap.size + 1) s a1 a2 a3 a4 a5 n md t1 t2 A2 c2 l2 _ ⟨by (with_reducible repeat (first | refine Qab ?_ _ | refine Qac ?_ | refine Qaa ?_ _)); exact HA.out⟩ ⟨by (with_reducible repeat (first | refine Qab ?_ _ | refine Qac ?_ | refine Qaa ?_ _)); exact HS.out⟩ ⟨by (with_reducible repeat (first | refine Qab ?_ _ | refine Qac ?_ | refine Qaa ?_ _)); exact HN.out⟩ ⟨Kd.C_below HR.out (by repeat (first | exact HB.out | apply Qah | apply Qae | apply Qa8))⟩ HC HW).mono ?_; rintro en wx ⟨hen, hb⟩; rw [hbv] at hen; subst hen; have hA := (hb.block w.heap.size (by first | (simp; done) | (simp; omega) | omega)).trans (by first | exact HA.out | (simp; exact HA.out)); have hN := (hb.block (w.heap.size + 1) (by first | (simp; done) | (simp; omega) | omega)).trans (by first | exact HN.out | (simp; exact HN.out)); have hS := (hb.block (w.heap.size + 2) (by first | (simp; done) | (simp; omega) | omega)).trans (by first | exact HS.out | (simp; exact HS.out)); have hB := QbG (by repeat (first | exact HB.out | apply Qah | apply Qae | apply Qa8)) (by first | (simp; done) | (simp; omega) | omega) hb; clear HA HN HS HB hb; have HA := Aside0.mk hA; have HN := Aside0.mk hN; have HS := Aside0.mk hS; have HB := Aside0.mk hB; clear hA hN hS hB))
        go_roundg k1
        case measure => have := HK1.out; omega
        case rel => exact ⟨lo, md, (Zs), (Zs), H', ⟨by have := HK1.out; omega⟩, ⟨by (with_reducible repeat (first | refine Qab ?_ _ | refine Qac ?_ | refine Qaa ?_ _)); exact HA.out⟩, ⟨by (with_reducible repeat (first | refine Qab ?_ _ | refine Qac ?_ | refine Qaa ?_ _)); exact HN.out⟩, ⟨by (with_reducible repeat (first | refine Qab ?_ _ | refine Qac ?_ | refine Qaa ?_ _)); exact HS.out⟩, ⟨by repeat (first | exact HB.out | apply Qah | apply Qae | apply Qa8)⟩⟩
       rw [if_neg ct] at H
       have H' := Aside0.mk H
       clear H
       have hbv : (decide (t2 ≠ 0) || decide (n ≤ t1)) = F := by
        have := not_or.1 ct
        simp only [Bool.or_eq_false_iff, decide_eq_false_iff_not]
        exact this
       go_wp2_with (first | (go_at_call 81; refine (QcP.calls k1 w.heap.size (w.heap.size + 2) (w.heap.size + 1) s a1 a2 a3 a4 a5 n md t1 t2 A2 c2 l2 _ ⟨by (with_reducible repeat (first | refine Qab ?_ _ | refine Qac ?_ | refine Qaa ?_ _)); exact HA.out⟩ ⟨by (with_reducible repeat (first | refine Qab ?_ _ | refine Qac ?_ | refine Qaa ?_ _)); exact HS.out⟩ ⟨by (with_reducible repeat (first | refine Qab ?_ _ | refine Qac ?_ | refine Qaa ?_ _)); exact HN.out⟩ ⟨Kd.C_below HR.out (by repeat (first | exact HB.out | apply Qah | apply Qae | apply Qa8))⟩ HC HW).mono ?_; rintro en wx ⟨hen, hb⟩; rw [hbv] at hen; subst hen; have hA := (hb.block w.heap.size (by first | (simp; done) | (simp; omega) | omega)).trans (by first | exact HA.out | (simp; exact HA.out)); have hN := (hb.block (w.heap.size + 1) (by first | (simp; done) | (simp; omega) | omega)).trans (by first | exact HN.out | (simp; exact HN.out)); have hS := (hb.block (w.heap.size + 2) (by first | (simp; done) | (simp; omega) | omega)).trans (by first | exact HS.out | (simp; exact HS.out)); have hB := QbG (by repeat (first | exact HB.out | apply Qah | apply Qae | apply Qa8)) (by first | (simp; done) | (simp; omega) | omega) hb; clear HA HN HS HB hb; have HA := Aside0.mk hA; have HN := Aside0.mk hN; have HS := Aside0.mk hS; have HB := Aside0.mk hB; clear hA hN hS hB))
       go_roundg k1
       case measure => have := HK1.out; omega
       case rel => exact ⟨wrap64 (md + 1), hi, (Zs), (Zs), H', ⟨by have := HK1.out; omega⟩, ⟨by (with_reducible repeat (first | refine Qab ?_ _ | refine Qac ?_ | refine Qaa ?_ _)); exact HA.out⟩, ⟨by (with_reducible repeat (first | refine Qab ?_ _ | refine Qac ?_ | refine Qaa ?_ _)); exact HN.out⟩, ⟨by (with_reducible repeat (first | refine Qab ?_ _ | refine Qac ?_ | refine Qaa ?_ _)); exact HS.out⟩, ⟨by repeat (first | exact HB.out | apply Qah | apply Qae | apply Qa8)⟩⟩
      rw [if_neg c3] at H
      have c3b0 : decide (lo < hi) = F := decide_eq_false c3
      obtain rfl := Option.some.inj H
      have la : w.heap.size < wr.heap.size := by omega
      have e0' : wr.cell? ⟨w.heap.size, 0, none⟩ = some (.string s) := (Qag HA.out 0).trans rfl
      have e1' : wr.cell? ⟨w.heap.size, 1, none⟩ = some (.int .i64 a1) := (Qag HA.out 1).trans rfl
      have e2' : wr.cell? ⟨w.heap.size, 2, none⟩ = some (.int .i64 a2) := (Qag HA.out 2).trans rfl
      have e3' : wr.cell? ⟨w.heap.size, 3, none⟩ = some (.int .i64 a3) := (Qag HA.out 3).trans rfl
      have e4' : wr.cell? ⟨w.heap.size, 4, none⟩ = some (.int .i64 a4) := (Qag HA.out 4).trans rfl
      have e5' : wr.cell? ⟨w.heap.size, 5, none⟩ = some (.int .i64 a5) := (Qag HA.out 5).trans rfl
      have es' : wr.cell? ⟨w.heap.size + 2, 0, none⟩ = some (.slice A2 l2.length c2) := (Qag HS.out 0).trans rfl
      have hz := HZ.out
      clear HZ
      by_cases z0 : m2 = 0
      ·subst z0
       by_cases z1 : m1 < n
       ·rw [if_pos (Or.inr z1)] at hz
        obtain ⟨rfl, rfl⟩ : (0 : Int) = r1 ∧ (3 : Int) = r2 := by simpa using hz
        go_wp2_with (first | (go_at_call 82; refine (Qa0.calls k s a1 a2 a3 a4 a5 lo A2 c2 l2 _ _ _ (Kd.C_below HR.out (by repeat (first | exact HB.out | apply Qah | apply Qae | apply Qa8))) HC.out HE.out).mono ?_; rintro en wx ⟨rfl, hb⟩; have hN := (hb.block (w.heap.size + 1) (by first | (simp; done) | (simp; omega) | omega)).trans (by first | exact HN.out | (simp; exact HN.out)); have hB := QbG (by repeat (first | exact HB.out | apply Qah | apply Qae | apply Qa8)) (by first | (simp; done) | (simp; omega) | omega) hb; clear HB hb; have HB := Aside0.mk hB; have lx : w.heap.size + 1 < wx.heap.size := blk_lt hN; have cx' : wx.cell? ⟨w.heap.size + 1, 0, none⟩ = some (.int .i64 n) := (Qag hN 0).trans rfl; clear hB hN))
        go_ret2
        exact ⟨rfl, by repeat (first | exact HB.out | apply Qah | apply Qae | apply Qa8)⟩
       have z2 : n ≤ m1 := by omega
       rw [if_neg (by omega)] at hz
       obtain ⟨rfl, rfl⟩ : lo = r1 ∧ (0 : Int) = r2 := by simpa using hz
       go_wp2_with (first | (go_at_call 82; refine (Qa0.calls k s a1 a2 a3 a4 a5 lo A2 c2 l2 _ _ _ (Kd.C_below HR.out (by repeat (first | exact HB.out | apply Qah | apply Qae | apply Qa8))) HC.out HE.out).mono ?_; rintro en wx ⟨rfl, hb⟩; have hN := (hb.block (w.heap.size + 1) (by first | (simp; done) | (simp; omega) | omega)).trans (by first | exact HN.out | (simp; exact HN.out)); have hB := QbG (by repeat (first | exact HB.out | apply Qah | apply Qae | apply Qa8)) (by first | (simp; done) | (simp; omega) | omega) hb; clear HB hb; have HB := Aside0.mk hB; have lx : w.heap.size + 1 < wx.heap.size := blk_lt hN; have cx' : wx.cell? ⟨w.heap.size + 1, 0, none⟩ = some (.int .i64 n) := (Qag hN 0).trans rfl; clear hB hN))
       go_ret2
       exact ⟨rfl, by repeat (first | exact HB.out | apply Qah | apply Qae | apply Qa8)⟩
      rw [if_pos (Or.inl z0)] at hz
      obtain ⟨rfl, rfl⟩ : (0 : Int) = r1 ∧ (3 : Int) = r2 := by simpa using hz
      go_wp2_with (first | (go_at_call 82; refine (Qa0.calls k s a1 a2 a3 a4 a5 lo A2 c2 l2 _ _ _ (Kd.C_below HR.out (by repeat (first | exact HB.out | apply Qah | apply Qae | apply Qa8))) HC.out HE.out).mono ?_; rintro en wx ⟨rfl, hb⟩; have hN := (hb.block (w.heap.size + 1) (by first | (simp; done) | (simp; omega) | omega)).trans (by first | exact HN.out | (simp; exact HN.out)); have hB := QbG (by repeat (first | exact HB.out | apply Qah | apply Qae | apply Qa8)) (by first | (simp; done) | (simp; omega) | omega) hb; clear HB hb; have HB := Aside0.mk hB; have lx : w.heap.size + 1 < wx.heap.size := blk_lt hN; have cx' : wx.cell? ⟨w.heap.size + 1, 0, none⟩ = some (.int .i64 n) := (Qag hN 0).trans rfl; clear hB hN))
      go_ret2
      exact ⟨rfl, by repeat (first | exact HB.out | apply Qah | apply Qae | apply Qa8)⟩
  rw [if_neg hu0] at h
  obtain ⟨rfl, rfl⟩ : (0 : Int) = r1 ∧ u = r2 := by simpa using h
  go_wp2
  go_ret2
  exact ⟨rfl, by repeat (first | exact HB.out | apply Qah | apply Qae | apply Qa8)⟩
 rw [if_neg ht0] at h
 obtain ⟨rfl, rfl⟩ : (0 : Int) = r1 ∧ t = r2 := by simpa using h
 go_wp2
 go_ret2
 exact ⟨rfl, by repeat (first | exact HB.out | apply Qah | apply Qae | apply Qa8)⟩
end Go.Proofs.Ytfcaaefdmabkhaa.Pr
