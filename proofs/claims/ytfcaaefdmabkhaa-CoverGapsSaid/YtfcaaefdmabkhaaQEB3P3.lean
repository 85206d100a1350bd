/- Functions' values and contracts, as the print wrote them. -/
import Derived.Test.YtfcaaefdmabkhaaQEB3P0
import Derived.Test.YtfcaaefdmabkhaaQEB3P1
import Derived.Test.YtfcaaefdmabkhaaQEB3P2
namespace Go.Proofs.Ytfcaaefdmabkhaa.Pr
open Bool renaming true → T
open Bool renaming false → F
open Go.RowKit Go.Proofs.YtfcaaefdmabkhaaW.PrintWords Go.Proofs.YtfcaaefdmabkhaaW.PrintLast Go.Proofs.YtfcaaefdmabkhaaW.PrintMore
attribute [local go_sem] QaN QaP QaT QaU QaH QaI QaO QaQ   -- for this text's walks alone
set_option linter.unusedVariables false
set_option linter.unusedSimpArgs false
set_option maxRecDepth 100000
set_option maxHeartbeats 8000000
mutual
def Qaw.l0 : Nat → List (S46) → List (S46) → Int → Int → Option (Int)
 | 0, _, _, _, _ => none
 | k + 1, x0, x8, x9, x10 => if x10 < x9 then (if 0 ≤ x10 then (if x10 < (x8.length : Int) then ((QaL.f k (([(rd_T46 x8 x10).f0.f0, (rd_T46 x8 x10).f0.f1, (rd_T46 x8 x10).f1] : List ByteArray))).bind fun t193 => (if t193 = T then (if x10 > 0 then (if 0 ≤ (wrap64 (x10 - 1)) then (if (wrap64 (x10 - 1)) < (x0.length : Int) then ((Qbi.f ((rd_T46 x0 (wrap64 (x10 - 1))).f0.f0) ((rd_T46 x0 (wrap64 (x10 - 1))).f0.f1) ((rd_T46 x0 (wrap64 (x10 - 1))).f1) ((rd_T46 x0 (wrap64 (x10 - 1))).f2) ((rd_T46 x8 x10).f0.f0) ((rd_T46 x8 x10).f0.f1) ((rd_T46 x8 x10).f1) ((rd_T46 x8 x10).f2)).bind fun t195 => (Qaw.j1 k x0 x8 x9 x10 (decide (t195 ≥ 0)) ((rd_T46 x8 x10).f0.f0) ((rd_T46 x8 x10).f0.f1) ((rd_T46 x8 x10).f1) ((rd_T46 x8 x10).f2))) else (none)) else (none)) else (Qaw.j1 k x0 x8 x9 x10 F ((rd_T46 x8 x10).f0.f0) ((rd_T46 x8 x10).f0.f1) ((rd_T46 x8 x10).f1) ((rd_T46 x8 x10).f2))) else (some 10))) else (none)) else (none)) else (some 0)
def Qaw.j1 : Nat → List (S46) → List (S46) → Int → Int → Bool → ByteArray → ByteArray → ByteArray → Int → Option (Int)
 | 0, _, _, _, _, _, _, _, _, _ => none
 | k + 1, x0, x8, x9, x10, x27, x190000, x190001, x190002, x190003 => if x27 = T then (some 12) else ((Qby.f x190003).bind fun t196 => (if t196 = T then (Qaw.l0 k x0 x8 x9 (wrap64 (x10 + 1))) else (some 18)))
end
def Qaw.f (k : Nat) (l0 : List (S46)) : Option (Int) := if (l0.length : Int) > 1024 then (some 8) else (Qaw.l0 k l0 l0 (l0.length : Int) 0)
theorem Qaw.mono_l : ∀ k, (∀ y0 y1 y2 y3, LeO (Qaw.l0 k y0 y1 y2 y3) (Qaw.l0 (k + 1) y0 y1 y2 y3)) ∧ (∀ y0 y1 y2 y3 y4 y5 y6 y7 y8, LeO (Qaw.j1 k y0 y1 y2 y3 y4 y5 y6 y7 y8) (Qaw.j1 (k + 1) y0 y1 y2 y3 y4 y5 y6 y7 y8))
 | 0 => ⟨fun _ _ _ _ r h => by simp [Qaw.l0] at h, fun _ _ _ _ _ _ _ _ _ r h => by simp [Qaw.j1] at h⟩
 | k + 1 => by
  obtain ⟨ih0, ih1⟩ := Qaw.mono_l k
  refine ⟨?_, ?_⟩
  ·intro y0 y1 y2 y3
   unfold Qaw.l0
   exact ZM3 ih0 ih1 QaL.mono
  intro y0 y1 y2 y3 y4 y5 y6 y7 y8
  unfold Qaw.j1
  exact ZM3 ih0 ih1 QaL.mono
theorem Qaw.mono : ∀ a0 k, LeO (Qaw.f k a0) (Qaw.f (k + 1) a0) := by
 intro a0 k
 obtain ⟨ih0, ih1⟩ := Qaw.mono_l k
 unfold Qaw.f
 exact ZM3 ih0 ih1 QaL.mono
def Qaw.T8 : Bool × List (List Nat × List Nat) := (T, [([], []), ([0], [0]), ([1], [1]), ([2], [2]), ([2], [2]), ([4, 2], [2, 4]), ([3, 5, 2], [2, 3, 5]), ([6, 2], [2, 6]), ([2], [2]), ([7, 8, 2, 2], [2, 7, 8]), ([9, 2], [2, 9]), ([2, 10], [2, 10]), ([11, 9], [11])])
def Qaw.B8 : List Nat := [0, 1, 3, 7, 7, 23, 63, 127, 7, 511, 1023, 2047, 4095]
theorem Qaw.tab8 : rtab .any (opsOf Try.f71 8) = Qaw.T8 := by kernel_rfl
theorem Qaw.bits8 : QbJ Qaw.T8.2 Qaw.B8 = T := by kernel_rfl
theorem Qaw.calls (k : Nat) (A0 : Option Addr) (c0 : Nat) (l0 : List (S46)) (r : Int) (w : World) (hr0 : Kd.C k46 w A0 l0.length l0) (hc0 : l0.length ≤ c0) (h : Qaw.f k l0 = some r) :
  Calls Try.prog 71 #[.slice A0 l0.length c0] w fun e w' => e = .returned (.int .i64 r) ∧ Below w.heap.size w w' := by
 have hu46 := Try.underlying46
 have HR0 := Aside0.mk hr0
 have HC0 := Aside0.mk hc0
 clear hr0 hc0
 have HB := Aside0.mk (Below.refl w.heap.size w)
 have H : (if (l0.length : Int) > 1024 then (some 8) else (Qaw.l0 k l0 l0 (l0.length : Int) 0)) = some r := h
 clear h
 by_cases c2 : (l0.length : Int) > 1024
 ·rw [if_pos c2] at H
  have c2b0 : decide (1024 < (l0.length : Int)) = T := decide_eq_true c2
  have c2b1 : decide (1024 < l0.length) = T := decide_eq_true (by omega)
  clear c2
  obtain rfl := Option.some.inj H
  go_enter Try.func71, Try.ntmps71
  go_wp2
  go_ret
  exact ⟨Zq, Zb⟩
 rw [if_neg c2] at H
 have c2b0 : decide (1024 < (l0.length : Int)) = F := decide_eq_false c2
 have c2b1 : decide (1024 < l0.length) = F := decide_eq_false (by omega)
 clear c2
 have H' := Aside0.mk H
 clear H
 go_enter Try.func71, Try.ntmps71
 go_wp2
 go_loopg [10] k (fun kq v10 w' => ∃ (x10_1 : Int), v10 = .int .i64 x10_1 ∧ Aside0 (Qaw.l0 kq l0 l0 (l0.length : Int) x10_1 = some r) ∧ Aside0 (kq ≤ k) ∧ Aside0 (Below w.heap.size w w'))
 case atStart => exact ⟨(0), (Zs), H', ⟨Nat.le_refl _⟩, ⟨Zb⟩⟩
 case round =>
  clear H'
  try clear c2
  try clear c2b0
  try clear c2b1
  try clear p2
  obtain ⟨x10_1, rfl, HA, HK1, HB⟩ := hrel
  cases gk with
  | zero => exact absurd HA.out (by simp [Qaw.l0])
  | succ k1 =>
   have H := HA.out
   clear HA
   simp only [Qaw.l0] at H
   by_cases c3 : x10_1 < (l0.length : Int)
   ·rw [if_pos c3] at H
    have c3b0 : decide (x10_1 < (l0.length : Int)) = T := decide_eq_true c3
    clear c3
    (try simp only [c3b0])
    by_cases c4 : 0 ≤ x10_1
    ·rw [if_pos c4] at H
     have c4b0 : decide (0 ≤ x10_1) = T := decide_eq_true c4
     clear c4
     by_cases c5 : x10_1 < (l0.length : Int)
     ·rw [if_pos c5] at H
      have c5b0 : decide (x10_1 < (l0.length : Int)) = T := decide_eq_true c5
      clear c5
      obtain ⟨y190, hy190⟩ : ∃ y_ : List ByteArray, y_ = (([(rd_T46 l0 x10_1).f0.f0, (rd_T46 l0 x10_1).f0.f1, (rd_T46 l0 x10_1).f1] : List ByteArray)) := ⟨_, rfl⟩
      replace H : ((QaL.f k1 y190).bind fun t193 => (if t193 = T then (if x10_1 > 0 then (if 0 ≤ (wrap64 (x10_1 - 1)) then (if (wrap64 (x10_1 - 1)) < (l0.length : Int) then ((Qbi.f ((rd_T46 l0 (wrap64 (x10_1 - 1))).f0.f0) ((rd_T46 l0 (wrap64 (x10_1 - 1))).f0.f1) ((rd_T46 l0 (wrap64 (x10_1 - 1))).f1) ((rd_T46 l0 (wrap64 (x10_1 - 1))).f2) ((rd_T46 l0 x10_1).f0.f0) ((rd_T46 l0 x10_1).f0.f1) ((rd_T46 l0 x10_1).f1) ((rd_T46 l0 x10_1).f2)).bind fun t195 => (Qaw.j1 k1 l0 l0 (l0.length : Int) x10_1 (decide (t195 ≥ 0)) ((rd_T46 l0 x10_1).f0.f0) ((rd_T46 l0 x10_1).f0.f1) ((rd_T46 l0 x10_1).f1) ((rd_T46 l0 x10_1).f2))) else (none)) else (none)) else (Qaw.j1 k1 l0 l0 (l0.length : Int) x10_1 F ((rd_T46 l0 x10_1).f0.f0) ((rd_T46 l0 x10_1).f0.f1) ((rd_T46 l0 x10_1).f1) ((rd_T46 l0 x10_1).f2))) else (some 10))) = some r := by first | (rw [hy190]; with_reducible exact H) | (have H2_ := (Option.bind_some _ _).symm.trans H; rw [hy190]; with_reducible exact H2_) | (have H2_ := (Option.bind_some _ _).symm.trans H; with_reducible exact H2_) | with_reducible exact H | (rw [hy190]; exact H) | exact H
      have Ny190 := Aside0.mk hy190
      clear hy190
      replace H := Option.bind_eq_some_iff.mp H
      obtain ⟨t193, A60, H⟩ := H
      replace H : (if t193 = T then (if x10_1 > 0 then (if 0 ≤ (wrap64 (x10_1 - 1)) then (if (wrap64 (x10_1 - 1)) < (l0.length : Int) then ((Qbi.f ((rd_T46 l0 (wrap64 (x10_1 - 1))).f0.f0) ((rd_T46 l0 (wrap64 (x10_1 - 1))).f0.f1) ((rd_T46 l0 (wrap64 (x10_1 - 1))).f1) ((rd_T46 l0 (wrap64 (x10_1 - 1))).f2) ((rd_T46 l0 x10_1).f0.f0) ((rd_T46 l0 x10_1).f0.f1) ((rd_T46 l0 x10_1).f1) ((rd_T46 l0 x10_1).f2)).bind fun t195 => (Qaw.j1 k1 l0 l0 (l0.length : Int) x10_1 (decide (t195 ≥ 0)) ((rd_T46 l0 x10_1).f0.f0) ((rd_T46 l0 x10_1).f0.f1) ((rd_T46 l0 x10_1).f1) ((rd_T46 l0 x10_1).f2))) else (none)) else (none)) else (Qaw.j1 k1 l0 l0 (l0.length : Int) x10_1 F ((rd_T46 l0 x10_1).f0.f0) ((rd_T46 l0 x10_1).f0.f1) ((rd_T46 l0 x10_1).f1) ((rd_T46 l0 x10_1).f2))) else (some 10)) = some r := H
      have A6 := Aside0.mk A60
      clear A60
      have p188 : 0 ≤ (x10_1 : Int) := Ze
      have q188 : x10_1 < (l0.length : Int) := Ze
      obtain ⟨ad188, e188, hx188_0, hx188_1, hx188_2, hx188_3⟩ := at_T46 HR0.out x10_1 p188 q188
      cases e188
      replace hx188_0 := Zx HB.out hx188_0
      replace hx188_1 := Zx HB.out hx188_1
      replace hx188_2 := Zx HB.out hx188_2
      replace hx188_3 := Zx HB.out hx188_3
      replace p188 := eq_true p188
      replace q188 := eq_true q188
      go_upto_if 15 with (first | ((with_reducible refine QaE (N := 4) rfl ?_); refine Zbx (N := 4) (cs := #[.string (⟨#[]⟩ : ByteArray), .string (⟨#[]⟩ : ByteArray), .string (⟨#[]⟩ : ByteArray), .int .i64 0]) (t := 46) ?_; intro gb189 hg w7 hbox hb; have BK189 := Aside0.mk (hbox); have GW189 := Aside0.mk (Zt w hg (Zb)); have GE189 := GW189; replace HB := Aside0.mk (Qaq (Zb) hb); clear hb hbox hg; obtain ⟨hcz8_0, hfz8_0⟩ := Zy (v := (.string (⟨#[]⟩ : ByteArray))) BK189.out 0; obtain ⟨hcz8_1, hfz8_1⟩ := Zy (v := (.string (⟨#[]⟩ : ByteArray))) BK189.out 1; obtain ⟨hcz8_2, hfz8_2⟩ := Zy (v := (.string (⟨#[]⟩ : ByteArray))) BK189.out 2; obtain ⟨hcz8_3, hfz8_3⟩ := Zy (v := (.int .i64 0)) BK189.out 3) | ((with_reducible refine QaE (N := 24) rfl ?_); refine Kd.R_lit Kd.string _ 9 ?hg (N := 24) ?hd (xs := ([(rd_T46 l0 x10_1).f0.f0, (rd_T46 l0 x10_1).f0.f1, (rd_T46 l0 x10_1).f1] : List ByteArray)) (inner := [.string ((rd_T46 l0 x10_1).f0.f0), .string ((rd_T46 l0 x10_1).f0.f1), .string ((rd_T46 l0 x10_1).f1)]) (ok := fun _ => True) (okp := fun _ => True) ?hr ?hp (fun _ hk => hk) trivial (Below.refl _ _) (Nat.le_refl _) (by simp) ?_; (case hd => rfl); (case hg => rfl); (case hr => first | (go_simp; done) | (go_simp; rfl)); (case hp => exact (Reps.one (show Kd.M Kd.string _ _ _ ((rd_T46 l0 x10_1).f0.f0) [.string ((rd_T46 l0 x10_1).f0.f0)] from rfl) (Reps.one (show Kd.M Kd.string _ _ _ ((rd_T46 l0 x10_1).f0.f1) [.string ((rd_T46 l0 x10_1).f0.f1)] from rfl) (Reps.one (show Kd.M Kd.string _ _ _ ((rd_T46 l0 x10_1).f1) [.string ((rd_T46 l0 x10_1).f1)] from rfl) (Reps.none _ _))))); intro v191 w9 ho10 hb hg_ hnew_; clear hg_ hnew_; (first | rw [← Ny190.out] at ho10 | (simp only [Int.reduceToNat] at ho10; rw [← Ny190.out] at ho10)); have HO192 := Aside0.mk (Kd.R_lower ho10 (Qap (Zc1 GE189.out))); replace BK189 := Aside0.mk (Zpi #[.string ((rd_T46 l0 x10_1).f0.f0), .string ((rd_T46 l0 x10_1).f0.f1), .string ((rd_T46 l0 x10_1).f1), .int .i64 ((rd_T46 l0 x10_1).f2)] BK189.out hb); replace HB := Aside0.mk (Qaq (Zc1 GE189.out) hb); clear hb ho10; obtain ⟨Ao11, co11, eo11⟩ := Kd.R_slice HO192.out; subst eo11) | ((with_reducible refine QaA (f := 83) rfl ?_); refine goesL_ (some 25) rfl rfl Try.func83 (by kernel_rfl) rfl #[.slice Ao11 y190.length co11] rfl (Zl) ?_; (with_reducible refine (QaL.calls k1 _ _ y190 t193 _ ?side1 ?side2 A6.out).mono ?_); (case side1 => exact Zv (Kd.R_reads' HO192.out).2.2); (case side2 => exact (Kd.R_reads' HO192.out).2.1); rintro e w' ⟨rfl, ⟨nd, rfl⟩⟩; refine ⟨_, rfl, ?_⟩))
      (try simp only [Act.put, Zj, Zk, Zm])
      by_cases c12 : t193 = T
      ·subst c12
       have H1 : (if x10_1 > 0 then (if 0 ≤ (wrap64 (x10_1 - 1)) then (if (wrap64 (x10_1 - 1)) < (l0.length : Int) then ((Qbi.f ((rd_T46 l0 (wrap64 (x10_1 - 1))).f0.f0) ((rd_T46 l0 (wrap64 (x10_1 - 1))).f0.f1) ((rd_T46 l0 (wrap64 (x10_1 - 1))).f1) ((rd_T46 l0 (wrap64 (x10_1 - 1))).f2) ((rd_T46 l0 x10_1).f0.f0) ((rd_T46 l0 x10_1).f0.f1) ((rd_T46 l0 x10_1).f1) ((rd_T46 l0 x10_1).f2)).bind fun t195 => (Qaw.j1 k1 l0 l0 (l0.length : Int) x10_1 (decide (t195 ≥ 0)) ((rd_T46 l0 x10_1).f0.f0) ((rd_T46 l0 x10_1).f0.f1) ((rd_T46 l0 x10_1).f1) ((rd_T46 l0 x10_1).f2))) else (none)) else (none)) else (Qaw.j1 k1 l0 l0 (l0.length : Int) x10_1 F ((rd_T46 l0 x10_1).f0.f0) ((rd_T46 l0 x10_1).f0.f1) ((rd_T46 l0 x10_1).f1) ((rd_T46 l0 x10_1).f2))) = some r := by rw [if_pos rfl] at H; exact H
       clear H
       have H := H1
       clear H1
       have HC13 := Aside0.mk H
       clear H
       go_upto_region 8 with (fail)
       go_cut [27] (fun v27 wc => ∃ (kq : Nat) (x27_12 : Bool), v27 = .bool x27_12 ∧ Aside0 (Qaw.j1 kq l0 l0 (l0.length : Int) x10_1 x27_12 ((rd_T46 l0 x10_1).f0.f0) ((rd_T46 l0 x10_1).f0.f1) ((rd_T46 l0 x10_1).f1) ((rd_T46 l0 x10_1).f2) = some r) ∧ Aside0 (kq ≤ k1) ∧ Aside0 (wc.heap[gb189]? = some (.cells #[.string ((rd_T46 l0 x10_1).f0.f0), .string ((rd_T46 l0 x10_1).f0.f1), .string ((rd_T46 l0 x10_1).f1), .int .i64 ((rd_T46 l0 x10_1).f2)] 46 (0, 0))) ∧ Aside0 (Below w.heap.size w wc))
       case first =>
        have H := HC13.out
        clear HC13
        by_cases c14 : x10_1 > 0
        ·rw [if_pos c14] at H
         have c14b0 : decide (0 < x10_1) = T := decide_eq_true c14
         clear c14
         (first | rw [c14b0] | (simp only [i64_w, i32_w]; rw [c14b0]) | skip)
         obtain ⟨ji15, hji15⟩ : ∃ j_ : Int, (wrap64 (x10_1 - 1)) = j_ := ⟨_, rfl⟩
         replace H : (if 0 ≤ (ji15) then (if (ji15) < (l0.length : Int) then ((Qbi.f ((rd_T46 l0 (ji15)).f0.f0) ((rd_T46 l0 (ji15)).f0.f1) ((rd_T46 l0 (ji15)).f1) ((rd_T46 l0 (ji15)).f2) ((rd_T46 l0 x10_1).f0.f0) ((rd_T46 l0 x10_1).f0.f1) ((rd_T46 l0 x10_1).f1) ((rd_T46 l0 x10_1).f2)).bind fun t195 => (Qaw.j1 k1 l0 l0 (l0.length : Int) x10_1 (decide (t195 ≥ 0)) ((rd_T46 l0 x10_1).f0.f0) ((rd_T46 l0 x10_1).f0.f1) ((rd_T46 l0 x10_1).f1) ((rd_T46 l0 x10_1).f2))) else (none)) else (none)) = some r := by first | (rw [hji15] at H; exact H) | (simp only [hji15] at H ⊢; exact H)
         have hji15w : (IntKind.i64.wrap (x10_1 - 1)) = ji15 := (i64_w _).trans hji15
         by_cases c16 : 0 ≤ (ji15)
         ·rw [if_pos c16] at H
          have c16b0 : decide (0 ≤ (ji15)) = T := decide_eq_true c16
          clear c16
          by_cases c17 : (ji15) < (l0.length : Int)
          ·rw [if_pos c17] at H
           have c17b0 : decide ((ji15) < (l0.length : Int)) = T := decide_eq_true c17
           clear c17
           replace H := Option.bind_eq_some_iff.mp H
           obtain ⟨t195, A180, H⟩ := H
           replace H : (Qaw.j1 k1 l0 l0 (l0.length : Int) x10_1 (decide (t195 ≥ 0)) ((rd_T46 l0 x10_1).f0.f0) ((rd_T46 l0 x10_1).f0.f1) ((rd_T46 l0 x10_1).f1) ((rd_T46 l0 x10_1).f2)) = some r := H
           have A18 := Aside0.mk A180
           clear A180
           have H' := Aside0.mk H
           clear H
           try go_wp2
           (try (rw [Qca w9]; generalize hq_ : World.drewN w9 _ = w9; have n0_ : Aside0 (Kd.R Kd.string 9 w9 w.heap.size (fun _ => True) (.slice Ao11 y190.length co11) y190) := ⟨by rw [← hq_]; exact (Zr HO192.out)⟩; have n1_ : Aside0 (w9.heap[gb189]? = some (.cells #[.string ((rd_T46 l0 x10_1).f0.f0), .string ((rd_T46 l0 x10_1).f0.f1), .string ((rd_T46 l0 x10_1).f1), .int .i64 ((rd_T46 l0 x10_1).f2)] 46 (0, 0))) := ⟨by rw [← hq_]; exact (Zu BK189.out)⟩; have n2_ : Aside0 (Below w.heap.size w w9) := ⟨by rw [← hq_]; exact (Zc1 GE189.out)⟩; clear HO192 BK189 HB hq_; have HO192 := n0_; have BK189 := n1_; have HB := n2_; clear n0_ n1_ n2_))
           replace HO192 := Aside0.mk (Kd.R_drew HO192.out)
           replace BK189 := Aside0.mk (Qac BK189.out)
           replace HB := Aside0.mk (Qag HB.out)
           have p194 : 0 ≤ ((ji15) : Int) := Ze
           have q194 : (ji15) < (l0.length : Int) := Ze
           obtain ⟨ad194, e194, hx194_0, hx194_1, hx194_2, hx194_3⟩ := at_T46 HR0.out (ji15) p194 q194
           have hw194_3 := hx194_3
           have hw194_2 := hx194_2
           have hw194_1 := hx194_1
           have hw194_0 := hx194_0
           obtain rfl : ad188 = ad194 := (by injection e194)
           replace hx194_0 := Zx HB.out hx194_0
           replace hx194_1 := Zx HB.out hx194_1
           replace hx194_2 := Zx HB.out hx194_2
           replace hx194_3 := Zx HB.out hx194_3
           replace p194 := eq_true p194
           replace q194 := eq_true q194
           refine start_ (n := 13) (S := fun w' => w'.cell? ⟨gb189, 0, none⟩ = some (.string ((rd_T46 l0 x10_1).f0.f0)) ∧ w'.cell? ⟨gb189, 1, none⟩ = some (.string ((rd_T46 l0 x10_1).f0.f1)) ∧ w'.cell? ⟨gb189, 2, none⟩ = some (.string ((rd_T46 l0 x10_1).f1)) ∧ w'.cell? ⟨gb189, 3, none⟩ = some (.int .i64 ((rd_T46 l0 x10_1).f2)) ∧ w'.cell? (ad188.add (((ji15)).toNat * 4)) = some (.string ((rd_T46 l0 (ji15)).f0.f0)) ∧ w'.cell? ⟨(ad188.add (((ji15)).toNat * 4)).block, (ad188.add (((ji15)).toNat * 4)).off + 1, none⟩ = some (.string ((rd_T46 l0 (ji15)).f0.f1)) ∧ w'.cell? ⟨(ad188.add (((ji15)).toNat * 4)).block, (ad188.add (((ji15)).toNat * 4)).off + 2, none⟩ = some (.string ((rd_T46 l0 (ji15)).f1)) ∧ w'.cell? ⟨(ad188.add (((ji15)).toNat * 4)).block, (ad188.add (((ji15)).toNat * 4)).off + 3, none⟩ = some (.int .i64 ((rd_T46 l0 (ji15)).f2))) (ds := []) #[F, F, F, F, F, F, F, F, F, F, F, F, F] (by kernel_rfl) rfl rfl ⟨(Qah BK189.out 0).trans rfl, (Qah BK189.out 1).trans rfl, (Qah BK189.out 2).trans rfl, (Qah BK189.out 3).trans rfl, ((HB.out.cell (World.block_lt_of_cell? w _ hw194_0)).trans hw194_0), ((HB.out.cell (World.block_lt_of_cell? w _ hw194_1)).trans hw194_1), ((HB.out.cell (World.block_lt_of_cell? w _ hw194_2)).trans hw194_2), ((HB.out.cell (World.block_lt_of_cell? w _ hw194_3)).trans hw194_3)⟩ (fun hHeld => ?_); refine Qbt Qaw.tab8 Qaw.bits8 (fun HT_ HW_ => ?_)
           generalize w9.drew = w19 at HO192 BK189 HB hx194_0 hx194_1 hx194_2 hx194_3 hHeld ⊢
           refine pure_ (i := 0) (N := some 28) (v := ?_) (a' := ?_) #[T, F, F, F, F, F, F, F, F, F, F, F, F] rfl rfl (any_of HT_.out (by kernel_rfl)) (fun _ _ _ h => h) (Or.inl ⟨by rfl, ?_⟩) ?_ ?_
           rotate_left
           ·intro w'
            go_simp
            with_reducible rfl
           rotate_left
           ·simp only [Act.put, Zj, Zk, Zm, i64_w, i32_w]
            rfl
           refine pure_ (i := 1) (N := some 29) (v := ?_) (a' := ?_) #[T, T, F, F, F, F, F, F, F, F, F, F, F] rfl rfl (any_of HT_.out (by kernel_rfl)) (fun _ _ _ h => h) (Or.inl ⟨by rfl, ?_⟩) ?_ ?_
           rotate_left
           ·intro w'
            go_simp
            with_reducible rfl
           rotate_left
           ·simp only [Act.put, Zj, Zk, Zm, i64_w, i32_w]
            rfl
           refine pure_ (i := 2) (N := some 30) (v := ?_) (a' := ?_) #[T, T, T, F, F, F, F, F, F, F, F, F, F] rfl rfl (any_of HT_.out (by kernel_rfl)) (fun _ _ _ h => h) (Or.inl ⟨by rfl, ?_⟩) ?_ ?_
           rotate_left
           ·intro w'
            go_simp
            with_reducible rfl
           rotate_left
           ·simp only [Act.put, Zj, Zk, Zm, i64_w, i32_w]
            rfl
           refine pure_ (i := 3) (N := some 31) (v := ?_) (a' := ?_) #[T, T, T, T, F, F, F, F, F, F, F, F, F] rfl rfl (any_of HT_.out (by kernel_rfl)) (fun _ _ _ h => h) (Or.inl ⟨by rfl, ?_⟩) ?_ ?_
           rotate_left
           ·intro w'
            go_simp
            with_reducible rfl
           rotate_left
           ·simp only [Act.put, Zj, Zk, Zm, i64_w, i32_w]
            rfl
           refine pure_ (i := 4) (N := some 32) (v := ?_) (a' := ?_) #[T, T, T, T, T, F, F, F, F, F, F, F, F] rfl rfl (any_of HT_.out (by kernel_rfl)) (fun _ _ _ h => h) (Or.inl ⟨by rfl, ?_⟩) ?_ ?_
           rotate_left
           ·intro w'
            go_simp
            with_reducible rfl
           rotate_left
           ·simp only [Act.put, Zj, Zk, Zm, i64_w, i32_w]
            rfl
           refine pure_ (i := 5) (N := some 33) (v := ?_) (a' := ?_) #[T, T, T, T, T, T, F, F, F, F, F, F, F] rfl rfl (any_of HT_.out (by kernel_rfl)) (fun _ _ _ h => h) (Or.inl ⟨by rfl, ?_⟩) ?_ ?_
           rotate_left
           ·intro w'
            go_simp
            with_reducible rfl
           rotate_left
           ·simp only [Act.put, Zj, Zk, Zm, i64_w, i32_w]
            rfl
           refine pure_ (i := 6) (N := some 34) (v := ?_) (a' := ?_) #[T, T, T, T, T, T, T, F, F, F, F, F, F] rfl rfl (any_of HT_.out (by kernel_rfl)) (fun _ _ _ h => h) (Or.inl ⟨by rfl, ?_⟩) ?_ ?_
           rotate_left
           ·intro w'
            go_simp
            with_reducible rfl
           rotate_left
           ·simp only [Act.put, Zj, Zk, Zm, i64_w, i32_w]
            rfl
           refine take_ (i := 7) (N := some 35) (v := ?_) (a' := ?_) #[T, T, T, T, T, T, T, T, F, F, F, F, F] rfl rfl (QaF HT_.out HW_.out (by kernel_rfl)) (fun _ _ _ h => h) (Or.inl ⟨by rfl, ?_⟩) hHeld ?_ ?_
           rotate_left
           ·rintro w' ⟨s0, s1, s2, s3, s4, s5, s6, s7⟩
            go_simp
            with_reducible rfl
           rotate_left
           ·simp only [Act.put, Zj, Zk, Zm, i64_w, i32_w]
            rfl
           refine take_ (i := 8) (N := some 36) (v := ?_) (a' := ?_) #[T, T, T, T, T, T, T, T, T, F, F, F, F] rfl rfl (QaF HT_.out HW_.out (by kernel_rfl)) (fun _ _ _ h => h) (Or.inl ⟨by rfl, ?_⟩) hHeld ?_ ?_
           rotate_left
           ·rintro w' ⟨s0, s1, s2, s3, s4, s5, s6, s7⟩
            go_simp
            with_reducible rfl
           rotate_left
           ·simp only [Act.put, Zj, Zk, Zm, i64_w, i32_w]
            rfl
           refine one_ (i := 9) (N := some 37) #[T, T, T, T, T, T, T, T, T, T, F, F, F] rfl rfl (one_of HT_.out (by kernel_rfl)) (by decide) (fun K hK => ?_)
           refine goes_ Try.func74 (by kernel_rfl) rfl #[.agg #[.string ((rd_T46 l0 (ji15)).f0.f0), .string ((rd_T46 l0 (ji15)).f0.f1), .string ((rd_T46 l0 (ji15)).f1), .int .i64 ((rd_T46 l0 (ji15)).f2)], .agg #[.string ((rd_T46 l0 x10_1).f0.f0), .string ((rd_T46 l0 x10_1).f0.f1), .string ((rd_T46 l0 x10_1).f1), .int .i64 ((rd_T46 l0 x10_1).f2)]] (by rfl) rfl rfl (by (try simp only [List.map_toArray, List.map_cons, List.map_nil]); first | done | (simp only [hji15]; rfl) | rfl | (simp only [List.length_drop, List.length_take]; rfl)) ?_
           with_reducible refine (Qbi.calls ((rd_T46 l0 (ji15)).f0.f0) ((rd_T46 l0 (ji15)).f0.f1) ((rd_T46 l0 (ji15)).f1) ((rd_T46 l0 (ji15)).f2) ((rd_T46 l0 x10_1).f0.f0) ((rd_T46 l0 x10_1).f0.f1) ((rd_T46 l0 x10_1).f1) ((rd_T46 l0 x10_1).f2) t195 _ A18.out).mono ?_
           rintro e w20 ⟨rfl, hb⟩
           refine ⟨_, rfl, ?_⟩
           replace HO192 := Aside0.mk (Kd.R_below (Zr HO192.out) hb)
           replace BK189 := Aside0.mk (Zi BK189.out hb)
           replace HB := Aside0.mk (Qaq (Zc1 GE189.out) hb)
           (try clear hb)
           (try clear hb2)
           (try clear hk)
           (try clear hi)
           refine hK.out _ _ ⟨(Qah BK189.out 0).trans rfl, (Qah BK189.out 1).trans rfl, (Qah BK189.out 2).trans rfl, (Qah BK189.out 3).trans rfl, ((HB.out.cell (World.block_lt_of_cell? w _ hw194_0)).trans hw194_0), ((HB.out.cell (World.block_lt_of_cell? w _ hw194_1)).trans hw194_1), ((HB.out.cell (World.block_lt_of_cell? w _ hw194_2)).trans hw194_2), ((HB.out.cell (World.block_lt_of_cell? w _ hw194_3)).trans hw194_3)⟩ (fun hHeld => ?_)
           clear hK K
           refine norm_ (a' := ?_) ?_ ?_
           rotate_left
           ·show Act.put _ (some 37) _ = _
            simp only [Act.put, Zj, Zk, Zm, i64_w, i32_w]
            rfl
           refine pure_ (i := 10) (N := some 38) (v := ?_) (a' := ?_) #[T, T, T, T, T, T, T, T, T, T, T, F, F] rfl rfl (any_of HT_.out (by kernel_rfl)) (fun _ _ _ h => h) (Or.inl ⟨by rfl, ?_⟩) ?_ ?_
           rotate_left
           ·intro w'
            go_simp
            with_reducible rfl
           rotate_left
           ·simp only [Act.put, Zj, Zk, Zm, i64_w, i32_w]
            rfl
           refine pure_ (i := 11) (N := some 39) (v := ?_) (a' := ?_) #[T, T, T, T, T, T, T, T, T, T, T, T, F] rfl rfl (any_of HT_.out (by kernel_rfl)) (fun _ _ _ h => h) (Or.inl ⟨by rfl, ?_⟩) ?_ ?_
           rotate_left
           ·intro w'
            go_simp
            with_reducible rfl
           rotate_left
           ·simp only [Act.put, Zj, Zk, Zm, i64_w, i32_w]
            rfl
           refine pure_ (i := 12) (N := some 27) (v := ?_) (a' := ?_) #[T, T, T, T, T, T, T, T, T, T, T, T, T] rfl rfl (any_of HT_.out (by kernel_rfl)) (fun _ _ _ h => h) (Or.inl ⟨by rfl, ?_⟩) ?_ ?_
           rotate_left
           ·intro w'
            go_simp
            with_reducible rfl
           rotate_left
           ·simp only [Act.put, Zj, Zk, Zm, i64_w, i32_w]
            rfl
           refine done_ (QbC HT_.out (by kernel_rfl)) ?_
           try go_wp2
           go_meet
           case rel => exact ⟨_, (decide (t195 ≥ 0)), (Zs), H', ⟨by have := HK1.out; first | omega | exact Nat.le_refl _⟩, ⟨Zu BK189.out⟩, ⟨Zc1 GE189.out⟩⟩
          rw [if_neg c17] at H
          exact absurd H (by simp)
         rw [if_neg c16] at H
         exact absurd H (by simp)
        rw [if_neg c14] at H
        have c14b0 : decide (0 < x10_1) = F := decide_eq_false c14
        clear c14
        (first | rw [c14b0] | (simp only [i64_w, i32_w]; rw [c14b0]) | skip)
        have H' := Aside0.mk H
        clear H
        try go_wp2
        (try (rw [Qca w9]; generalize hq_ : World.drewN w9 _ = w9; have n0_ : Aside0 (Kd.R Kd.string 9 w9 w.heap.size (fun _ => True) (.slice Ao11 y190.length co11) y190) := ⟨by rw [← hq_]; exact (Zr HO192.out)⟩; have n1_ : Aside0 (w9.heap[gb189]? = some (.cells #[.string ((rd_T46 l0 x10_1).f0.f0), .string ((rd_T46 l0 x10_1).f0.f1), .string ((rd_T46 l0 x10_1).f1), .int .i64 ((rd_T46 l0 x10_1).f2)] 46 (0, 0))) := ⟨by rw [← hq_]; exact (Zu BK189.out)⟩; have n2_ : Aside0 (Below w.heap.size w w9) := ⟨by rw [← hq_]; exact (Zc1 GE189.out)⟩; clear HO192 BK189 HB hq_; have HO192 := n0_; have BK189 := n1_; have HB := n2_; clear n0_ n1_ n2_))
        replace HO192 := Aside0.mk (Kd.R_drew HO192.out)
        replace BK189 := Aside0.mk (Qac BK189.out)
        replace HB := Aside0.mk (Qag HB.out)
        refine start_ (n := 13) (S := fun w' => True) (ds := []) #[F, F, F, F, F, F, F, F, F, F, F, F, F] (by kernel_rfl) rfl rfl trivial (fun hHeld => ?_); refine Qbt Qaw.tab8 Qaw.bits8 (fun HT_ HW_ => ?_)
        generalize w9.drew = w21 at HO192 BK189 HB hHeld ⊢
        refine pure_ (i := 0) (N := some 28) (v := ?_) (a' := ?_) #[T, F, F, F, F, F, F, F, F, F, F, F, F] rfl rfl (any_of HT_.out (by kernel_rfl)) (fun _ _ _ h => h) (Or.inl ⟨by rfl, ?_⟩) ?_ ?_
        rotate_left
        ·intro w'
         go_simp
         with_reducible rfl
        rotate_left
        ·simp only [Act.put, Zj, Zk, Zm, i64_w, i32_w]
         rfl
        refine pure_ (i := 1) (N := some 29) (v := ?_) (a' := ?_) #[T, T, F, F, F, F, F, F, F, F, F, F, F] rfl rfl (any_of HT_.out (by kernel_rfl)) (fun _ _ _ h => h) (Or.inl ⟨by rfl, ?_⟩) ?_ ?_
        rotate_left
        ·intro w'
         go_simp
         with_reducible rfl
        rotate_left
        ·simp only [Act.put, Zj, Zk, Zm, i64_w, i32_w]
         rfl
        refine pure_ (i := 2) (N := some 30) (v := ?_) (a' := ?_) #[T, T, T, F, F, F, F, F, F, F, F, F, F] rfl rfl (any_of HT_.out (by kernel_rfl)) (fun _ _ _ h => h) (Or.inl ⟨by rfl, ?_⟩) ?_ ?_
        rotate_left
        ·intro w'
         go_simp
         with_reducible rfl
        rotate_left
        ·simp only [Act.put, Zj, Zk, Zm, i64_w, i32_w]
         rfl
        refine pure_ (i := 3) (N := some 31) (v := undef) (a' := ?_) #[T, T, T, T, F, F, F, F, F, F, F, F, F] rfl rfl (any_of HT_.out (by kernel_rfl)) (fun _ _ _ h => h) (Or.inr ⟨by rfl, rfl⟩) ?_ ?_
        rotate_left
        ·simp only [Act.put, Zj, Zk, Zm, i64_w, i32_w]
         rfl
        refine pure_ (i := 4) (N := some 32) (v := undef) (a' := ?_) #[T, T, T, T, T, F, F, F, F, F, F, F, F] rfl rfl (any_of HT_.out (by kernel_rfl)) (fun _ _ _ h => h) (Or.inr ⟨by rfl, rfl⟩) ?_ ?_
        rotate_left
        ·simp only [Act.put, Zj, Zk, Zm, i64_w, i32_w]
         rfl
        refine pure_ (i := 5) (N := some 33) (v := undef) (a' := ?_) #[T, T, T, T, T, T, F, F, F, F, F, F, F] rfl rfl (any_of HT_.out (by kernel_rfl)) (fun _ _ _ h => h) (Or.inr ⟨by rfl, rfl⟩) ?_ ?_
        rotate_left
        ·simp only [Act.put, Zj, Zk, Zm, i64_w, i32_w]
         rfl
        refine pure_ (i := 6) (N := some 34) (v := undef) (a' := ?_) #[T, T, T, T, T, T, T, F, F, F, F, F, F] rfl rfl (any_of HT_.out (by kernel_rfl)) (fun _ _ _ h => h) (Or.inr ⟨by rfl, rfl⟩) ?_ ?_
        rotate_left
        ·simp only [Act.put, Zj, Zk, Zm, i64_w, i32_w]
         rfl
        refine pure_ (i := 7) (N := some 35) (v := undef) (a' := ?_) #[T, T, T, T, T, T, T, T, F, F, F, F, F] rfl rfl (any_of HT_.out (by kernel_rfl)) (fun _ _ _ h => h) (Or.inr ⟨by rfl, rfl⟩) ?_ ?_
        rotate_left
        ·simp only [Act.put, Zj, Zk, Zm, i64_w, i32_w]
         rfl
        refine pure_ (i := 8) (N := some 36) (v := undef) (a' := ?_) #[T, T, T, T, T, T, T, T, T, F, F, F, F] rfl rfl (any_of HT_.out (by kernel_rfl)) (fun _ _ _ h => h) (Or.inr ⟨by rfl, rfl⟩) ?_ ?_
        rotate_left
        ·simp only [Act.put, Zj, Zk, Zm, i64_w, i32_w]
         rfl
        refine pure_ (i := 9) (N := some 37) (v := undef) (a' := ?_) #[T, T, T, T, T, T, T, T, T, T, F, F, F] rfl rfl (any_of HT_.out (by kernel_rfl)) (fun _ _ _ h => h) (Or.inr ⟨by rfl, rfl⟩) ?_ ?_
        rotate_left
        ·simp only [Act.put, Zj, Zk, Zm, i64_w, i32_w]
         rfl
        refine pure_ (i := 10) (N := some 38) (v := undef) (a' := ?_) #[T, T, T, T, T, T, T, T, T, T, T, F, F] rfl rfl (any_of HT_.out (by kernel_rfl)) (fun _ _ _ h => h) (Or.inr ⟨by rfl, rfl⟩) ?_ ?_
        rotate_left
        ·simp only [Act.put, Zj, Zk, Zm, i64_w, i32_w]
         rfl
        refine pure_ (i := 11) (N := some 39) (v := ?_) (a' := ?_) #[T, T, T, T, T, T, T, T, T, T, T, T, F] rfl rfl (any_of HT_.out (by kernel_rfl)) (fun _ _ _ h => h) (Or.inl ⟨by rfl, ?_⟩) ?_ ?_
        rotate_left
        ·intro w'
         go_simp
         with_reducible rfl
        rotate_left
        ·simp only [Act.put, Zj, Zk, Zm, i64_w, i32_w]
         rfl
        refine pure_ (i := 12) (N := some 27) (v := ?_) (a' := ?_) #[T, T, T, T, T, T, T, T, T, T, T, T, T] rfl rfl (any_of HT_.out (by kernel_rfl)) (fun _ _ _ h => h) (Or.inl ⟨by rfl, ?_⟩) ?_ ?_
        rotate_left
        ·intro w'
         go_simp
         with_reducible rfl
        rotate_left
        ·simp only [Act.put, Zj, Zk, Zm, i64_w, i32_w]
         rfl
        refine done_ (QbC HT_.out (by kernel_rfl)) ?_
        try go_wp2
        go_meet
        case rel => exact ⟨_, (F), (Zs), H', ⟨by have := HK1.out; first | omega | exact Nat.le_refl _⟩, ⟨Zu BK189.out⟩, ⟨Zc1 GE189.out⟩⟩
       case rest =>
        clear HC13
        try clear c1
        try clear p1
        try clear q1
        try clear hx1
        try clear c2
        try clear c2b0
        try clear c2b1
        try clear p2
        try clear c3
        try clear c3b0
        try clear c4
        try clear c4b0
        try clear c5
        try clear c5b0
        try clear p6
        try clear c7
        try clear c8
        try clear c12
        try clear c14
        try clear c14b0
        try clear c16
        try clear c16b0
        try clear c17
        try clear c17b0
        try clear p18
        try clear q18
        try clear hx18
        try clear p19
        try clear q19
        try clear hx19
        try clear hcz8_0
        try clear hcz8_1
        try clear hcz8_2
        try clear hcz8_3
        try clear hfz8_0
        try clear hfz8_1
        try clear hfz8_2
        try clear hfz8_3
        try clear hx188_0
        try clear hx188_1
        try clear hx188_2
        try clear hx188_3
        try clear hx194_0
        try clear hx194_1
        try clear hx194_2
        try clear hx194_3
        try clear p188
        try clear p194
        try clear p2
        try clear q188
        try clear q194
        obtain ⟨kq, x27_12, rfl, HA, HJ12, BK189, HB⟩ := hcut
        cases kq with
        | zero => exact absurd HA.out (by simp [Qaw.j1])
        | succ kj12 =>
         have H := HA.out
         clear HA
         simp only [Qaw.j1] at H
         by_cases c22 : x27_12 = T
         ·subst c22
          have H1 : (some 12) = some r := by rw [if_pos rfl] at H; exact H
          clear H
          have H := H1
          clear H1
          obtain rfl := Option.some.inj H
          go_wp2
          go_ret
          exact ⟨Zq, Zc1 GE189.out⟩
         replace c22 := Bool.eq_false_iff.mpr c22
         subst c22
         have H1 : ((Qby.f ((rd_T46 l0 x10_1).f2)).bind fun t196 => (if t196 = T then (Qaw.l0 kj12 l0 l0 (l0.length : Int) (wrap64 (x10_1 + 1))) else (some 18))) = some r := by rw [if_neg (show ¬ (F = T) by decide)] at H; exact H
         clear H
         have H := H1
         clear H1
         replace H := Option.bind_eq_some_iff.mp H
         obtain ⟨t196, A230, H⟩ := H
         replace H : (if t196 = T then (Qaw.l0 kj12 l0 l0 (l0.length : Int) (wrap64 (x10_1 + 1))) else (some 18)) = some r := H
         have A23 := Aside0.mk A230
         clear A230
         obtain ⟨hcz24_0, hfz24_0⟩ := Zy (v := (.string ((rd_T46 l0 x10_1).f0.f0))) BK189.out 0
         obtain ⟨hcz24_1, hfz24_1⟩ := Zy (v := (.string ((rd_T46 l0 x10_1).f0.f1))) BK189.out 1
         obtain ⟨hcz24_2, hfz24_2⟩ := Zy (v := (.string ((rd_T46 l0 x10_1).f1))) BK189.out 2
         obtain ⟨hcz24_3, hfz24_3⟩ := Zy (v := (.int .i64 ((rd_T46 l0 x10_1).f2))) BK189.out 3
         go_upto_if 40 with (first | ((with_reducible refine QaA (f := 72) rfl ?_); refine goesL_ (some 43) rfl rfl Try.func72 (by kernel_rfl) rfl #[.int .i64 ((rd_T46 l0 x10_1).f2)] rfl (Zl) ?_; (with_reducible refine (Qby.calls ((rd_T46 l0 x10_1).f2) t196 _ A23.out).mono ?_); rintro e w' ⟨rfl, ⟨nd, rfl⟩⟩; refine ⟨_, rfl, ?_⟩))
         (try simp only [Act.put, Zj, Zk, Zm])
         by_cases c25 : t196 = T
         ·subst c25
          have H1 : (Qaw.l0 kj12 l0 l0 (l0.length : Int) (wrap64 (x10_1 + 1))) = some r := by rw [if_pos rfl] at H; exact H
          clear H
          have H := H1
          clear H1
          have H' := Aside0.mk H
          clear H
          go_wp2
          go_roundg kj12
          case measure => have := HK1.out; have := HJ12.out; omega
          case rel => exact ⟨(wrap64 (x10_1 + 1)), (Zs), H', ⟨by have := HK1.out; have := HJ12.out; omega⟩, ⟨Zc1 GE189.out⟩⟩
         replace c25 := Bool.eq_false_iff.mpr c25
         subst c25
         have H1 : (some 18) = some r := by rw [if_neg (show ¬ (F = T) by decide)] at H; exact H
         clear H
         have H := H1
         clear H1
         obtain rfl := Option.some.inj H
         go_wp2
         go_ret
         exact ⟨Zq, Zc1 GE189.out⟩
      replace c12 := Bool.eq_false_iff.mpr c12
      subst c12
      have H1 : (some 10) = some r := by rw [if_neg (show ¬ (F = T) by decide)] at H; exact H
      clear H
      have H := H1
      clear H1
      obtain rfl := Option.some.inj H
      go_wp2
      go_ret
      exact ⟨Zq, Zc1 GE189.out⟩
     rw [if_neg c5] at H
     exact absurd H (by simp)
    rw [if_neg c4] at H
    exact absurd H (by simp)
   rw [if_neg c3] at H
   have c3b0 : decide (x10_1 < (l0.length : Int)) = F := decide_eq_false c3
   clear c3
   (try simp only [c3b0])
   obtain rfl := Option.some.inj H
   go_wp2
   go_ret
   exact ⟨Zq, Zb⟩
def QaB.l0 : Nat → List (S84) → List (S98) → List Int → List (S46) → Int → Int → Option (Int × Int)
 | 0, _, _, _, _, _, _ => none
 | k + 1, x2, x3, x10, x29, x30, x31 => if x31 < x30 then (if 0 ≤ x31 then (if x31 < (x29.length : Int) then ((Qa4.f k x2 ((rd_T46 x29 x31).f1)).bind fun bt217 => (if bt217.2.2.2.2.2.2 = T then ((Qa0.f k bt217.1 bt217.2.1 bt217.2.2.1 bt217.2.2.2.1 bt217.2.2.2.2.1 bt217.2.2.2.2.2.1 ((rd_T46 x29 x31).f2) x3).bind fun bt225 => (if bt225.2 = 0 then (if x10.length < 17592186044416 then (QaB.l0 k x2 x3 (x10 ++ [bt225.1]) x29 x30 (wrap64 (x31 + 1))) else (none)) else (some (0, bt225.2)))) else (some (0, 11)))) else (none)) else (none)) else ((QaX.f k x10).bind fun bt213 => (some (bt213.1, bt213.2)))
def QaB.f (k : Nat) (l0 : List (S46)) (a1_0 : ByteArray) (a1_1 : ByteArray) (l2 : List (S84)) (l3 : List (S98)) : Option (Int × Int) := (Qaw.f k l0).bind fun t208 => (if t208 = 0 then ((QaD.f k l2).bind fun t209 => (if t209 = 0 then ((QaM.f k l0 a1_0 a1_1).bind fun t210 => (QaB.l0 k l2 l3 ([] : List Int) t210 (t210.length : Int) 0)) else (some (0, t209)))) else (some (0, t208)))
theorem QaB.mono_l : ∀ k, (∀ y0 y1 y2 y3 y4 y5, LeO (QaB.l0 k y0 y1 y2 y3 y4 y5) (QaB.l0 (k + 1) y0 y1 y2 y3 y4 y5))
 | 0 => fun _ _ _ _ _ _ r h => by simp [QaB.l0] at h
 | k + 1 => by
  have ih0 := QaB.mono_l k
  intro y0 y1 y2 y3 y4 y5
  unfold QaB.l0
  exact ZM7 ih0 QaD.mono Qa4.mono Qa0.mono QaX.mono Qaw.mono QaM.mono
theorem QaB.mono : ∀ a0 a1 a2 a3 a4 k, LeO (QaB.f k a0 a1 a2 a3 a4) (QaB.f (k + 1) a0 a1 a2 a3 a4) := by
 intro a0 a1 a2 a3 a4 k
 have ih0 := QaB.mono_l k
 unfold QaB.f
 exact ZM7 ih0 QaD.mono Qa4.mono Qa0.mono QaX.mono Qaw.mono QaM.mono
theorem QaB.calls (k : Nat) (A0 : Option Addr) (c0 : Nat) (l0 : List (S46)) (a1_0 : ByteArray) (a1_1 : ByteArray) (A2 : Option Addr) (c2 : Nat) (l2 : List (S84)) (A3 : Option Addr) (c3 : Nat) (l3 : List (S98)) (r1 : Int) (r2 : Int) (w : World) (hr0 : Kd.C k46 w A0 l0.length l0) (hc0 : l0.length ≤ c0) (hr2 : Kd.C k84 w A2 l2.length l2) (hc2 : l2.length ≤ c2) (hr3 : Kd.C k98 w A3 l3.length l3) (hc3 : l3.length ≤ c3) (h : QaB.f k l0 a1_0 a1_1 l2 l3 = some (r1, r2)) :
  Calls Try.prog 85 #[.slice A0 l0.length c0, .agg #[.string a1_0, .string a1_1], .slice A2 l2.length c2, .slice A3 l3.length c3] w fun e w' => e = .returned (.tuple #[.int .i64 r1, .int .i64 r2]) ∧ Below w.heap.size w w' := by
 have hu44 := Try.underlying44
 have hu46 := Try.underlying46
 have hu84 := Try.underlying84
 have HR0 := Aside0.mk hr0
 have HC0 := Aside0.mk hc0
 clear hr0 hc0
 have HR2 := Aside0.mk hr2
 have HC2 := Aside0.mk hc2
 clear hr2 hc2
 have HR3 := Aside0.mk hr3
 have HC3 := Aside0.mk hc3
 clear hr3 hc3
 have HB := Aside0.mk (Below.refl w.heap.size w)
 have H : ((Qaw.f k l0).bind fun t208 => (if t208 = 0 then ((QaD.f k l2).bind fun t209 => (if t209 = 0 then ((QaM.f k l0 a1_0 a1_1).bind fun t210 => (QaB.l0 k l2 l3 ([] : List Int) t210 (t210.length : Int) 0)) else (some (0, t209)))) else (some (0, t208)))) = some (r1, r2) := h
 clear h
 replace H := Option.bind_eq_some_iff.mp H
 obtain ⟨t208, A50, H⟩ := H
 replace H : (if t208 = 0 then ((QaD.f k l2).bind fun t209 => (if t209 = 0 then ((QaM.f k l0 a1_0 a1_1).bind fun t210 => (QaB.l0 k l2 l3 ([] : List Int) t210 (t210.length : Int) 0)) else (some (0, t209)))) else (some (0, t208))) = some (r1, r2) := H
 have A5 := Aside0.mk A50
 clear A50
 go_enter Try.func85, Try.ntmps85
 go_upto_if 20 with (first | ((with_reducible refine QaE (N := 5) rfl ?_); refine Zbx (N := 5) (cs := #[.string a1_0, .string a1_1]) (t := 44) ?_; intro gb207 hg w6 hbox hb; have BK207 := Aside0.mk (hbox); have GW207 := Aside0.mk (Zt w hg (Zb)); have GE207 := GW207; replace HB := Aside0.mk (Qaq (Zb) hb); clear hb hbox hg) | ((with_reducible refine QaA (f := 71) rfl ?_); refine goesL_ (some 18) rfl rfl Try.func71 (by kernel_rfl) rfl #[.slice A0 l0.length c0] rfl (Zl) ?_; (with_reducible refine (Qaw.calls k _ _ l0 t208 _ ?side1 ?side2 A5.out).mono ?_); (case side1 => exact Zv (Kd.C_below HR0.out HB.out)); (case side2 => exact HC0.out); rintro e w7 ⟨rfl, hb⟩; refine ⟨_, rfl, ?_⟩; replace BK207 := Aside0.mk (Zi BK207.out hb); replace HB := Aside0.mk (Qaq (Zc1 GE207.out) hb); (try clear hb); (try clear hb2); (try clear hk); (try clear hi)))
 (try simp only [Act.put, Zj, Zk, Zm])
 by_cases c8 : t208 = 0
 ·rw [if_pos c8] at H
  have c8b0 : (t208 == 0) = T := beq_iff_eq.mpr c8
  have c8b1 : (t208 != 0) = F := bne_eq_false_iff_eq.mpr c8
  clear c8
  (try simp only [c8b0, c8b1])
  replace H := Option.bind_eq_some_iff.mp H
  obtain ⟨t209, A90, H⟩ := H
  replace H : (if t209 = 0 then ((QaM.f k l0 a1_0 a1_1).bind fun t210 => (QaB.l0 k l2 l3 ([] : List Int) t210 (t210.length : Int) 0)) else (some (0, t209))) = some (r1, r2) := H
  have A9 := Aside0.mk A90
  clear A90
  go_upto_if 25 with (first | ((with_reducible refine QaA (f := 116) rfl ?_); refine goesL_ (some 23) rfl rfl Try.func116 (by kernel_rfl) rfl #[.slice A2 l2.length c2] rfl (Zl) ?_; (with_reducible refine (QaD.calls k _ _ l2 t209 _ ?side1 ?side2 A9.out).mono ?_); (case side1 => exact Zv (Kd.C_below HR2.out HB.out)); (case side2 => exact HC2.out); rintro e w10 ⟨rfl, hb⟩; refine ⟨_, rfl, ?_⟩; replace BK207 := Aside0.mk (Zi BK207.out hb); replace HB := Aside0.mk (Qaq (Zc1 GE207.out) hb); (try clear hb); (try clear hb2); (try clear hk); (try clear hi)))
  (try simp only [Act.put, Zj, Zk, Zm])
  by_cases c11 : t209 = 0
  ·rw [if_pos c11] at H
   have c11b0 : (t209 == 0) = T := beq_iff_eq.mpr c11
   have c11b1 : (t209 != 0) = F := bne_eq_false_iff_eq.mpr c11
   clear c11
   (try simp only [c11b0, c11b1])
   replace H := Option.bind_eq_some_iff.mp H
   obtain ⟨t210, A120, H⟩ := H
   replace H : (QaB.l0 k l2 l3 ([] : List Int) t210 (t210.length : Int) 0) = some (r1, r2) := H
   have A12 := Aside0.mk A120
   clear A120
   have H' := Aside0.mk H
   clear H
   obtain ⟨hcz13_0, hfz13_0⟩ := Zy (v := (.string a1_0)) BK207.out 0
   obtain ⟨hcz13_1, hfz13_1⟩ := Zy (v := (.string a1_1)) BK207.out 1
   go_wp2_with (first | ((with_reducible refine QaA (f := 86) rfl ?_); refine goesL_ (some 29) rfl rfl Try.func86 (by kernel_rfl) rfl #[.slice A0 l0.length c0, .agg #[.string a1_0, .string a1_1]] rfl (Zl) ?_; (with_reducible refine (QaM.calls k _ _ l0 a1_0 a1_1 t210 _ ?side1 ?side2 A12.out).mono ?_); (case side1 => exact Zv (Kd.C_below HR0.out HB.out)); (case side2 => exact HC0.out); rintro e w14 ⟨v211, rfl, ho0, hb⟩; refine ⟨_, rfl, ?_⟩; have HO212 := Aside0.mk (Kd.R_lower ho0 (Qap (Zc1 GE207.out))); replace BK207 := Aside0.mk (Zi BK207.out hb); replace HB := Aside0.mk (Qaq (Zc1 GE207.out) hb); (try clear hb); (try clear hb2); (try clear hk); (try clear hi); (try clear ho0); obtain ⟨Ao15, co15, eo15⟩ := Kd.R_slice HO212.out; subst eo15))
   go_loopg [10, 31] k (fun kq v10 v31 w' => ∃ (x10_1 : List Int) (x31_1 : Int), v31 = .int .i64 x31_1 ∧ Aside0 (QaB.l0 kq l2 l3 x10_1 t210 (t210.length : Int) x31_1 = some (r1, r2)) ∧ Aside0 (kq ≤ k) ∧ Aside0 (Kd.R (Kd.int .i64) 3 w' w.heap.size (fun _ => True) v10 x10_1) ∧ Aside0 (Kd.R k46 46 w' w.heap.size (fun _ => True) (.slice Ao15 t210.length co15) t210) ∧ Aside0 (w'.heap[gb207]? = some (.cells #[.string a1_0, .string a1_1] 44 (0, 0))) ∧ Aside0 (Below w.heap.size w w'))
   case atStart => exact ⟨(([] : List Int)), (0), (Zs), H', ⟨Nat.le_refl _⟩, ⟨by first | exact Kd.R_nil _ _ _ _ _ | exact Kd.N_nil _ _ _ _ _ | exact Kd.V_nil _ _ _ _ _ | exact Kd.Q_nil _ _ _ _ _ | exact Kd.S_nil _ _ _ _ _⟩, ⟨Zr HO212.out⟩, ⟨Zu BK207.out⟩, ⟨Zc1 GE207.out⟩⟩
   case round =>
    clear H'
    try clear c1
    try clear c2
    try clear p2
    try clear c3
    try clear c7
    try clear c8
    try clear c8b0
    try clear c8b1
    try clear c11
    try clear c11b0
    try clear c11b1
    try clear hcz13_0
    try clear hcz13_1
    try clear hfz13_0
    try clear hfz13_1
    obtain ⟨x10_1, x31_1, rfl, HA, HK1, HO_10, HO_29, BK207, HB⟩ := hrel
    cases gk with
    | zero => exact absurd HA.out (by simp [QaB.l0])
    | succ k1 =>
     have H := HA.out
     clear HA
     simp only [QaB.l0] at H
     by_cases c16 : x31_1 < (t210.length : Int)
     ·rw [if_pos c16] at H
      have c16b0 : decide (x31_1 < (t210.length : Int)) = T := decide_eq_true c16
      clear c16
      (try simp only [c16b0])
      by_cases c17 : 0 ≤ x31_1
      ·rw [if_pos c17] at H
       have c17b0 : decide (0 ≤ x31_1) = T := decide_eq_true c17
       clear c17
       by_cases c18 : x31_1 < (t210.length : Int)
       ·rw [if_pos c18] at H
        have c18b0 : decide (x31_1 < (t210.length : Int)) = T := decide_eq_true c18
        clear c18
        replace H := Option.bind_eq_some_iff.mp H
        obtain ⟨⟨t217, t218, t219, t220, t221, t222, t223⟩, A190, H⟩ := H
        replace H : (if t223 = T then ((Qa0.f k1 t217 t218 t219 t220 t221 t222 ((rd_T46 t210 x31_1).f2) l3).bind fun bt225 => (if bt225.2 = 0 then (if x10_1.length < 17592186044416 then (QaB.l0 k1 l2 l3 (x10_1 ++ [bt225.1]) t210 (t210.length : Int) (wrap64 (x31_1 + 1))) else (none)) else (some (0, bt225.2)))) else (some (0, 11))) = some (r1, r2) := H
        have A19 := Aside0.mk A190
        clear A190
        have p215 : 0 ≤ (x31_1 : Int) := Ze
        have q215 : x31_1 < (t210.length : Int) := Ze
        obtain ⟨ad215, e215, hx215_0, hx215_1, hx215_2, hx215_3⟩ := at_T46 (Kd.R_reads' HO_29.out).2.2 x31_1 p215 q215
        cases e215
        replace p215 := eq_true p215
        replace q215 := eq_true q215
        go_upto_if 43 with (first | ((with_reducible refine QaE (N := 12) rfl ?_); refine Zbx (N := 12) (cs := #[.string (⟨#[]⟩ : ByteArray), .string (⟨#[]⟩ : ByteArray), .string (⟨#[]⟩ : ByteArray), .int .i64 0]) (t := 46) ?_; intro gb216 hg w20 hbox hb; have BK216 := Aside0.mk (hbox); have GW216 := Aside0.mk (Zt w hg (Zc1 GE207.out)); have GE216 := GW216; have NB207_216 := Aside0.mk (Zn hg BK207.out); have NB216_207 := Aside0.mk NB207_216.out.symm; replace HO_10 := Aside0.mk (Kd.R_below (Zr HO_10.out) hb); replace HO_29 := Aside0.mk (Kd.R_below (Kd.R_elderB (Zr HO_29.out) gb216 (Nat.le_of_eq hg.symm)) hb); replace BK207 := Aside0.mk (Zi BK207.out hb); replace HB := Aside0.mk (Qaq (Zc1 GE207.out) hb); clear hb hbox hg; have hnb21 := NB216_207.out; have hnc21 := NB207_216.out; obtain ⟨hcz22_0, hfz22_0⟩ := Zy (v := (.string (⟨#[]⟩ : ByteArray))) BK216.out 0; obtain ⟨hcz22_1, hfz22_1⟩ := Zy (v := (.string (⟨#[]⟩ : ByteArray))) BK216.out 1; obtain ⟨hcz22_2, hfz22_2⟩ := Zy (v := (.string (⟨#[]⟩ : ByteArray))) BK216.out 2; obtain ⟨hcz22_3, hfz22_3⟩ := Zy (v := (.int .i64 0)) BK216.out 3) | ((with_reducible refine QaA (f := 48) rfl ?_); refine goesL_ (some 39) rfl rfl Try.func48 (by kernel_rfl) rfl #[.slice A2 l2.length c2, .string ((rd_T46 t210 x31_1).f1)] rfl (Zl) ?_; (with_reducible refine (Qa4.calls k1 _ _ l2 ((rd_T46 t210 x31_1).f1) t217 t218 t219 t220 t221 t222 t223 _ ?side1 ?side2 A19.out).mono ?_); (case side1 => exact Kd.C_below HR2.out (Zc2 GE207.out GE216.out)); (case side2 => exact HC2.out); rintro e w23 ⟨rfl, hb⟩; refine ⟨_, rfl, ?_⟩; replace HO_10 := Aside0.mk (Kd.R_below (by (with_reducible repeat (first | apply Kd.R_alloc | apply Kd.R_drewN | apply Kd.R_drew)); exact (Kd.R_mono (Zf gb216 3 (Zf gb216 2 (Zf gb216 1 (Zf gb216 0 (Kd.R_types HO_10.out BK216.out (by decide)) (.string ((rd_T46 t210 x31_1).f0.f0))) (.string ((rd_T46 t210 x31_1).f0.f1))) (.string ((rd_T46 t210 x31_1).f1))) (.int .i64 ((rd_T46 t210 x31_1).f2))) (fun _ h_ => h_.1))) hb); replace HO_29 := Aside0.mk (Kd.R_below (by (with_reducible repeat (first | apply Kd.R_alloc | apply Kd.R_drewN | apply Kd.R_drew)); exact (Kd.R_mono (Zf gb216 3 (Zf gb216 2 (Zf gb216 1 (Zf gb216 0 (Kd.R_mono HO_29.out (fun k_ hk => (⟨hk, hk.2⟩ : _ ∧ k_ ≠ gb216))) (.string ((rd_T46 t210 x31_1).f0.f0))) (.string ((rd_T46 t210 x31_1).f0.f1))) (.string ((rd_T46 t210 x31_1).f1))) (.int .i64 ((rd_T46 t210 x31_1).f2))) (fun _ h_ => h_.1))) hb); replace BK207 := Aside0.mk (Qan (g := gb207) (o := .cells #[.string a1_0, .string a1_1] 44 (0, 0)) (Zg4 BK207.out NB207_216.out NB207_216.out NB207_216.out NB207_216.out) hb); replace BK216 := Aside0.mk (Zpi #[.string ((rd_T46 t210 x31_1).f0.f0), .string ((rd_T46 t210 x31_1).f0.f1), .string ((rd_T46 t210 x31_1).f1), .int .i64 ((rd_T46 t210 x31_1).f2)] BK216.out hb); replace HB := Aside0.mk (Qaq (Zc2 GE207.out GE216.out) hb); (try clear hb); (try clear hb2); (try clear hk); (try clear hi)) | ((with_reducible refine QaE (N := 13) rfl ?_); refine Zbx (N := 13) (cs := #[.string (⟨#[]⟩ : ByteArray), .int .i64 0, .int .i64 0, .int .i64 0, .int .i64 0, .int .i64 0]) (t := 84) ?_; intro gb224 hg w24 hbox hb; have BK224 := Aside0.mk (hbox); have GW224 := Aside0.mk (Zt w hg (Zc2 GE207.out GE216.out)); have GE224 := GW224; have NB207_224 := Aside0.mk (Zn hg BK207.out); have NB224_207 := Aside0.mk NB207_224.out.symm; have NB216_224 := Aside0.mk (Zn hg BK216.out); have NB224_216 := Aside0.mk NB216_224.out.symm; replace HO_10 := Aside0.mk (Kd.R_below (Zr HO_10.out) hb); replace HO_29 := Aside0.mk (Kd.R_below (Zr HO_29.out) hb); replace BK207 := Aside0.mk (Zi BK207.out hb); replace BK216 := Aside0.mk (Zi BK216.out hb); replace HB := Aside0.mk (Qaq (Zc2 GE207.out GE216.out) hb); clear hb hbox hg; have hnb25 := NB224_207.out; have hnc25 := NB207_224.out; have hnb26 := NB224_216.out; have hnc26 := NB216_224.out; obtain ⟨hcz27_0, hfz27_0⟩ := Zy (v := (.string (⟨#[]⟩ : ByteArray))) BK224.out 0; obtain ⟨hcz27_1, hfz27_1⟩ := Zy (v := (.int .i64 0)) BK224.out 1; obtain ⟨hcz27_2, hfz27_2⟩ := Zy (v := (.int .i64 0)) BK224.out 2; obtain ⟨hcz27_3, hfz27_3⟩ := Zy (v := (.int .i64 0)) BK224.out 3; obtain ⟨hcz27_4, hfz27_4⟩ := Zy (v := (.int .i64 0)) BK224.out 4; obtain ⟨hcz27_5, hfz27_5⟩ := Zy (v := (.int .i64 0)) BK224.out 5))
        (try simp only [Act.put, Zj, Zk, Zm])
        by_cases c28 : t223 = T
        ·subst c28
         have H1 : ((Qa0.f k1 t217 t218 t219 t220 t221 t222 ((rd_T46 t210 x31_1).f2) l3).bind fun bt225 => (if bt225.2 = 0 then (if x10_1.length < 17592186044416 then (QaB.l0 k1 l2 l3 (x10_1 ++ [bt225.1]) t210 (t210.length : Int) (wrap64 (x31_1 + 1))) else (none)) else (some (0, bt225.2)))) = some (r1, r2) := by rw [if_pos rfl] at H; exact H
         clear H
         have H := H1
         clear H1
         replace H := Option.bind_eq_some_iff.mp H
         obtain ⟨⟨t225, t226⟩, A290, H⟩ := H
         replace H : (if t226 = 0 then (if x10_1.length < 17592186044416 then (QaB.l0 k1 l2 l3 (x10_1 ++ [t225]) t210 (t210.length : Int) (wrap64 (x31_1 + 1))) else (none)) else (some (0, t226))) = some (r1, r2) := H
         have A29 := Aside0.mk A290
         clear A290
         have hnb30 := NB224_207.out
         have hnc30 := NB207_224.out
         have hnb31 := NB224_216.out
         have hnc31 := NB216_224.out
         obtain ⟨hcz32_0, hfz32_0⟩ := Zy (v := (.string (⟨#[]⟩ : ByteArray))) BK224.out 0
         obtain ⟨hcz32_1, hfz32_1⟩ := Zy (v := (.int .i64 0)) BK224.out 1
         obtain ⟨hcz32_2, hfz32_2⟩ := Zy (v := (.int .i64 0)) BK224.out 2
         obtain ⟨hcz32_3, hfz32_3⟩ := Zy (v := (.int .i64 0)) BK224.out 3
         obtain ⟨hcz32_4, hfz32_4⟩ := Zy (v := (.int .i64 0)) BK224.out 4
         obtain ⟨hcz32_5, hfz32_5⟩ := Zy (v := (.int .i64 0)) BK224.out 5
         have hnb33 := NB216_207.out
         have hnc33 := NB207_216.out
         obtain ⟨hcz34_0, hfz34_0⟩ := Zy (v := (.string ((rd_T46 t210 x31_1).f0.f0))) BK216.out 0
         obtain ⟨hcz34_1, hfz34_1⟩ := Zy (v := (.string ((rd_T46 t210 x31_1).f0.f1))) BK216.out 1
         obtain ⟨hcz34_2, hfz34_2⟩ := Zy (v := (.string ((rd_T46 t210 x31_1).f1))) BK216.out 2
         obtain ⟨hcz34_3, hfz34_3⟩ := Zy (v := (.int .i64 ((rd_T46 t210 x31_1).f2))) BK216.out 3
         go_upto_if 53 with (first | ((with_reducible refine QaA (f := 82) rfl ?_); refine goesL_ (some 49) rfl rfl Try.func82 (by kernel_rfl) rfl #[.agg #[.string t217, .int .i64 t218, .int .i64 t219, .int .i64 t220, .int .i64 t221, .int .i64 t222], .int .i64 ((rd_T46 t210 x31_1).f2), .slice A3 l3.length c3] rfl (Zl) ?_; (with_reducible refine (Qa0.calls k1 t217 t218 t219 t220 t221 t222 ((rd_T46 t210 x31_1).f2) _ _ l3 t225 t226 _ ?side1 ?side2 A29.out).mono ?_); (case side1 => exact Kd.C_below HR3.out (Zc3 GE207.out GE216.out GE224.out)); (case side2 => exact HC3.out); rintro e w35 ⟨rfl, hb⟩; refine ⟨_, rfl, ?_⟩; replace HO_10 := Aside0.mk (Kd.R_below (by (with_reducible repeat (first | apply Kd.R_alloc | apply Kd.R_drewN | apply Kd.R_drew)); exact (Kd.R_mono (Zf gb224 5 (Zf gb224 4 (Zf gb224 3 (Zf gb224 2 (Zf gb224 1 (Zf gb224 0 (Kd.R_types HO_10.out BK224.out (by decide)) (.string t217)) (.int .i64 t218)) (.int .i64 t219)) (.int .i64 t220)) (.int .i64 t221)) (.int .i64 t222)) (fun _ h_ => h_.1))) hb); replace HO_29 := Aside0.mk (Kd.R_below (by (with_reducible repeat (first | apply Kd.R_alloc | apply Kd.R_drewN | apply Kd.R_drew)); exact (Kd.R_mono (Zf gb224 5 (Zf gb224 4 (Zf gb224 3 (Zf gb224 2 (Zf gb224 1 (Zf gb224 0 (Kd.R_types HO_29.out BK224.out (by decide)) (.string t217)) (.int .i64 t218)) (.int .i64 t219)) (.int .i64 t220)) (.int .i64 t221)) (.int .i64 t222)) (fun _ h_ => h_.1))) hb); replace BK207 := Aside0.mk (Qan (g := gb207) (o := .cells #[.string a1_0, .string a1_1] 44 (0, 0)) (Zg6 BK207.out NB207_224.out NB207_224.out NB207_224.out NB207_224.out NB207_224.out NB207_224.out) hb); replace BK216 := Aside0.mk (Qan (g := gb216) (o := .cells #[.string ((rd_T46 t210 x31_1).f0.f0), .string ((rd_T46 t210 x31_1).f0.f1), .string ((rd_T46 t210 x31_1).f1), .int .i64 ((rd_T46 t210 x31_1).f2)] 46 (0, 0)) (Zg6 BK216.out NB216_224.out NB216_224.out NB216_224.out NB216_224.out NB216_224.out NB216_224.out) hb); replace BK224 := Aside0.mk (Zpi #[.string t217, .int .i64 t218, .int .i64 t219, .int .i64 t220, .int .i64 t221, .int .i64 t222] BK224.out hb); replace HB := Aside0.mk (Qaq (Zc3 GE207.out GE216.out GE224.out) hb); (try clear hb); (try clear hb2); (try clear hk); (try clear hi)))
         (try simp only [Act.put, Zj, Zk, Zm])
         by_cases c36 : t226 = 0
         ·rw [if_pos c36] at H
          have c36b0 : (t226 == 0) = T := beq_iff_eq.mpr c36
          have c36b1 : (t226 != 0) = F := bne_eq_false_iff_eq.mpr c36
          clear c36
          (try simp only [c36b0, c36b1])
          by_cases c37 : x10_1.length < 17592186044416
          ·rw [if_pos c37] at H
           have LMc37 := Aside0.mk c37
           clear c37
           obtain ⟨y227, hy227⟩ : ∃ y_ : List Int, y_ = (x10_1 ++ [t225]) := ⟨_, rfl⟩
           replace H : (QaB.l0 k1 l2 l3 y227 t210 (t210.length : Int) (wrap64 (x31_1 + 1))) = some (r1, r2) := by first | (rw [hy227]; with_reducible exact H) | (have H2_ := (Option.bind_some _ _).symm.trans H; rw [hy227]; with_reducible exact H2_) | (have H2_ := (Option.bind_some _ _).symm.trans H; with_reducible exact H2_) | with_reducible exact H | (rw [hy227]; exact H) | exact H
           have Ny227 := Aside0.mk hy227
           clear hy227
           have H' := Aside0.mk H
           clear H
           go_wp2_with (first | ((with_reducible refine QbN (b := .append) (xs := #[.tmp 55, .tmp 57]) rfl ?_); at_builtin; refine Kd.R_append (Kd.int .i64) (w0 := w) w.heap.size rfl (.tmp 55) (.tmp 57) 63 3 (.int .i64 0) 8 rfl Try.underlying63 info3 rfl (by decide) (by omega) u10 x10_1 t225 [.int .i64 t225] (fun _ => True) (fun _ => False) rfl rfl ?aP (fun _ hk => hk.elim) ?aF ?aO ?aB ?aS ?aL ?_; (case aP => exact rfl); (case aB => exact (Zc3 GE207.out GE216.out GE224.out)); (case aF => exact (fun _ _ => trivial)); (case aO => exact (Zr HO_10.out)); (case aS => exact (Qap (Zc3 GE207.out GE216.out GE224.out))); (case aL => have := LMc37.out; omega); intro v228 w38 ho hb hg hat; rw [← Ny227.out] at ho; have HO229 := Aside0.mk (ho); replace HO_29 := Aside0.mk (Kd.R_over' (Zr HO_29.out) (Kd.R_typed (Zr HO_10.out)) (by decide) hg); replace BK207 := Aside0.mk (QaW (g := gb207) (o := .cells #[.string a1_0, .string a1_1] 44 (0, 0)) (Zu BK207.out) hg (Kd.R_ne HO_10.out BK207.out (by decide))); replace BK216 := Aside0.mk (QaW (g := gb216) (o := .cells #[.string ((rd_T46 t210 x31_1).f0.f0), .string ((rd_T46 t210 x31_1).f0.f1), .string ((rd_T46 t210 x31_1).f1), .int .i64 ((rd_T46 t210 x31_1).f2)] 46 (0, 0)) (Zu BK216.out) hg (Kd.R_ne HO_10.out BK216.out (by decide))); replace BK224 := Aside0.mk (QaW (g := gb224) (o := .cells #[.string t217, .int .i64 t218, .int .i64 t219, .int .i64 t220, .int .i64 t221, .int .i64 t222] 84 (0, 0)) (Zu BK224.out) hg (Kd.R_ne HO_10.out BK224.out (by decide))); replace HB := Aside0.mk (hb); clear HO_10; clear ho hb hg hat))
           go_roundg k1
           case measure => have := HK1.out; omega
           case rel => exact ⟨(y227), (wrap64 (x31_1 + 1)), (Zs), H', ⟨by have := HK1.out; omega⟩, ⟨Zr HO229.out⟩, ⟨by (with_reducible repeat (first | apply Kd.R_alloc | apply Kd.R_drewN | apply Kd.R_drew)); exact Kd.R_mono HO_29.out (fun _ hk => trivial)⟩, ⟨Zu BK207.out⟩, ⟨Zc3 GE207.out GE216.out GE224.out⟩⟩
          rw [if_neg c37] at H
          exact absurd H (by simp)
         rw [if_neg c36] at H
         have c36b0 : (t226 == 0) = F := beq_eq_false_iff_ne.mpr c36
         have c36b1 : (t226 != 0) = T := bne_iff_ne.mpr c36
         (try simp only [c36b0, c36b1])
         simp only [Option.some.injEq, Prod.mk.injEq] at H
         obtain ⟨rfl, rfl⟩ := H
         go_wp2
         go_ret2
         exact ⟨Zq, Zc3 GE207.out GE216.out GE224.out⟩
        replace c28 := Bool.eq_false_iff.mpr c28
        subst c28
        have H1 : (some (0, 11)) = some (r1, r2) := by rw [if_neg (show ¬ (F = T) by decide)] at H; exact H
        clear H
        have H := H1
        clear H1
        simp only [Option.some.injEq, Prod.mk.injEq] at H
        obtain ⟨rfl, rfl⟩ := H
        go_wp2
        go_ret2
        exact ⟨Zq, Zc3 GE207.out GE216.out GE224.out⟩
       rw [if_neg c18] at H
       exact absurd H (by simp)
      rw [if_neg c17] at H
      exact absurd H (by simp)
     rw [if_neg c16] at H
     have c16b0 : decide (x31_1 < (t210.length : Int)) = F := decide_eq_false c16
     clear c16
     (try simp only [c16b0])
     replace H := Option.bind_eq_some_iff.mp H
     obtain ⟨⟨t213, t214⟩, A390, H⟩ := H
     replace H : (some (t213, t214)) = some (r1, r2) := H
     have A39 := Aside0.mk A390
     clear A390
     simp only [Option.some.injEq, Prod.mk.injEq] at H
     obtain ⟨rfl, rfl⟩ := H
     obtain ⟨Ao40, co40, eo40⟩ := Kd.R_slice HO_10.out
     subst eo40
     go_wp2_with (first | ((with_reducible refine QaA (f := 59) rfl ?_); refine goesL_ (some 61) rfl rfl Try.func59 (by kernel_rfl) rfl #[.slice Ao40 x10_1.length co40] rfl (Zl) ?_; (with_reducible refine (QaX.calls k1 _ _ x10_1 t213 t214 _ ?side1 ?side2 A39.out).mono ?_); (case side1 => exact Zv (Kd.R_reads' HO_10.out).2.2); (case side2 => exact (Kd.R_reads' HO_10.out).2.1); rintro e w' ⟨rfl, ⟨nd, rfl⟩⟩; refine ⟨_, rfl, ?_⟩))
     go_ret2
     exact ⟨Zq, Zc1 GE207.out⟩
  rw [if_neg c11] at H
  have c11b0 : (t209 == 0) = F := beq_eq_false_iff_ne.mpr c11
  have c11b1 : (t209 != 0) = T := bne_iff_ne.mpr c11
  (try simp only [c11b0, c11b1])
  simp only [Option.some.injEq, Prod.mk.injEq] at H
  obtain ⟨rfl, rfl⟩ := H
  go_wp2
  go_ret2
  exact ⟨Zq, Zc1 GE207.out⟩
 rw [if_neg c8] at H
 have c8b0 : (t208 == 0) = F := beq_eq_false_iff_ne.mpr c8
 have c8b1 : (t208 != 0) = T := bne_iff_ne.mpr c8
 (try simp only [c8b0, c8b1])
 simp only [Option.some.injEq, Prod.mk.injEq] at H
 obtain ⟨rfl, rfl⟩ := H
 go_wp2
 go_ret2
 exact ⟨Zq, Zc1 GE207.out⟩
def QaR.l0 : Nat → Int → List (S50) → List (S50) → Int → Int → Option ((List (S50)))
 | 0, _, _, _, _, _ => none
 | k + 1, x1, x5, x8, x9, x10 => if x10 < x9 then (if 0 ≤ x10 then (if x10 < (x8.length : Int) then (if ((rd_T50 x8 x10).f3) ≥ x1 then (if ((rd_T50 x8 x10).f3) > 0 then (if x5.length < 2513169434916 then (QaR.l0 k x1 (x5 ++ [(⟨(⟨(rd_T50 x8 x10).f0.f0, (rd_T50 x8 x10).f0.f1⟩ : S44), (rd_T50 x8 x10).f1, (rd_T50 x8 x10).f2, (rd_T50 x8 x10).f3⟩ : S50)]) x8 x9 (wrap64 (x10 + 1))) else (none)) else (QaR.l0 k x1 x5 x8 x9 (wrap64 (x10 + 1)))) else (QaR.l0 k x1 x5 x8 x9 (wrap64 (x10 + 1)))) else (none)) else (none)) else (some x5)
def QaR.f (k : Nat) (l0 : List (S50)) (a1 : Int) : Option ((List (S50))) := QaR.l0 k a1 ([] : List (S50)) l0 (l0.length : Int) 0
theorem QaR.mono_l : ∀ k, (∀ y0 y1 y2 y3 y4, LeO (QaR.l0 k y0 y1 y2 y3 y4) (QaR.l0 (k + 1) y0 y1 y2 y3 y4))
 | 0 => fun _ _ _ _ _ r h => by simp [QaR.l0] at h
 | k + 1 => by
  have ih0 := QaR.mono_l k
  intro y0 y1 y2 y3 y4
  unfold QaR.l0
  exact ZM1 ih0
theorem QaR.mono : ∀ a0 a1 k, LeO (QaR.f k a0 a1) (QaR.f (k + 1) a0 a1) := by
 intro a0 a1 k
 have ih0 := QaR.mono_l k
 unfold QaR.f
 exact ZM1 ih0
theorem QaR.calls (k : Nat) (A0 : Option Addr) (c0 : Nat) (l0 : List (S50)) (a1 : Int) (r : List (S50)) (w : World) (hr0 : Kd.C k50 w A0 l0.length l0) (hc0 : l0.length ≤ c0) (h : QaR.f k l0 a1 = some r) :
  Calls Try.prog 21 #[.slice A0 l0.length c0, .int .i64 a1] w fun e w' => ∃ v0_ : Value, e = .returned (v0_) ∧ Kd.R k50 50 w' w.heap.size (fun _ => True) v0_ r ∧ Below w.heap.size w w' := by
 have hu50 := Try.underlying50
 have HR0 := Aside0.mk hr0
 have HC0 := Aside0.mk hc0
 clear hr0 hc0
 have HB := Aside0.mk (Below.refl w.heap.size w)
 have H : (QaR.l0 k a1 ([] : List (S50)) l0 (l0.length : Int) 0) = some r := h
 clear h
 have H' := Aside0.mk H
 clear H
 go_enter Try.func21, Try.ntmps21
 go_wp2
 go_loopg [5, 10] k (fun kq v5 v10 w' => ∃ (x5_1 : List (S50)) (x10_1 : Int), v10 = .int .i64 x10_1 ∧ Aside0 (QaR.l0 kq a1 x5_1 l0 (l0.length : Int) x10_1 = some r) ∧ Aside0 (kq ≤ k) ∧ Aside0 (Kd.R k50 50 w' w.heap.size (fun _ => True) v5 x5_1) ∧ Aside0 (Below w.heap.size w w'))
 case atStart => exact ⟨(([] : List (S50))), (0), (Zs), H', ⟨Nat.le_refl _⟩, ⟨by first | exact Kd.R_nil _ _ _ _ _ | exact Kd.N_nil _ _ _ _ _ | exact Kd.V_nil _ _ _ _ _ | exact Kd.Q_nil _ _ _ _ _ | exact Kd.S_nil _ _ _ _ _⟩, ⟨Zb⟩⟩
 case round =>
  clear H'
  try clear c2
  try clear p2
  obtain ⟨x5_1, x10_1, rfl, HA, HK1, HO_5, HB⟩ := hrel
  cases gk with
  | zero => exact absurd HA.out (by simp [QaR.l0])
  | succ k1 =>
   have H := HA.out
   clear HA
   simp only [QaR.l0] at H
   by_cases c3 : x10_1 < (l0.length : Int)
   ·rw [if_pos c3] at H
    have c3b0 : decide (x10_1 < (l0.length : Int)) = T := decide_eq_true c3
    clear c3
    (try simp only [c3b0])
    by_cases c4 : 0 ≤ x10_1
    ·rw [if_pos c4] at H
     have c4b0 : decide (0 ≤ x10_1) = T := decide_eq_true c4
     clear c4
     by_cases c5 : x10_1 < (l0.length : Int)
     ·rw [if_pos c5] at H
      have c5b0 : decide (x10_1 < (l0.length : Int)) = T := decide_eq_true c5
      clear c5
      have p292 : 0 ≤ (x10_1 : Int) := Ze
      have q292 : x10_1 < (l0.length : Int) := Ze
      obtain ⟨ad292, e292, hx292_0, hx292_1, hx292_2, hx292_3, hx292_4⟩ := at_T50 HR0.out x10_1 p292 q292
      cases e292
      replace hx292_0 := Zx HB.out hx292_0
      replace hx292_1 := Zx HB.out hx292_1
      replace hx292_2 := Zx HB.out hx292_2
      replace hx292_3 := Zx HB.out hx292_3
      replace hx292_4 := Zx HB.out hx292_4
      replace p292 := eq_true p292
      replace q292 := eq_true q292
      go_upto_region 5 with (first | ((with_reducible refine QaE (N := 7) rfl ?_); refine Zbx (N := 7) (cs := #[.string (⟨#[]⟩ : ByteArray), .string (⟨#[]⟩ : ByteArray), .int .i64 0, .int .i64 0, .int .i64 0]) (t := 50) ?_; intro gb293 hg w6 hbox hb; have BK293 := Aside0.mk (hbox); have GW293 := Aside0.mk (Zt w hg (Zb)); have GE293 := GW293; replace HO_5 := Aside0.mk (Kd.R_below (Kd.R_elderB (Zr HO_5.out) gb293 (Nat.le_of_eq hg.symm)) hb); replace HB := Aside0.mk (Qaq (Zb) hb); clear hb hbox hg; obtain ⟨hcz7_0, hfz7_0⟩ := Zy (v := (.string (⟨#[]⟩ : ByteArray))) BK293.out 0; obtain ⟨hcz7_1, hfz7_1⟩ := Zy (v := (.string (⟨#[]⟩ : ByteArray))) BK293.out 1; obtain ⟨hcz7_2, hfz7_2⟩ := Zy (v := (.int .i64 0)) BK293.out 2; obtain ⟨hcz7_3, hfz7_3⟩ := Zy (v := (.int .i64 0)) BK293.out 3; obtain ⟨hcz7_4, hfz7_4⟩ := Zy (v := (.int .i64 0)) BK293.out 4))
      (try simp only [Act.put, Zj, Zk, Zm])
      by_cases c8 : ((rd_T50 l0 x10_1).f3) ≥ a1
      ·rw [if_pos c8] at H
       have c8b0 : decide (a1 ≤ ((rd_T50 l0 x10_1).f3)) = T := decide_eq_true c8
       clear c8
       (try simp only [c8b0])
       obtain ⟨hcz9_0, hfz9_0⟩ := Zy (v := (.string (⟨#[]⟩ : ByteArray))) BK293.out 0
       obtain ⟨hcz9_1, hfz9_1⟩ := Zy (v := (.string (⟨#[]⟩ : ByteArray))) BK293.out 1
       obtain ⟨hcz9_2, hfz9_2⟩ := Zy (v := (.int .i64 0)) BK293.out 2
       obtain ⟨hcz9_3, hfz9_3⟩ := Zy (v := (.int .i64 0)) BK293.out 3
       obtain ⟨hcz9_4, hfz9_4⟩ := Zy (v := (.int .i64 0)) BK293.out 4
       go_upto_if 22 with (fail)
       by_cases c10 : ((rd_T50 l0 x10_1).f3) > 0
       ·rw [if_pos c10] at H
        have c10b0 : decide (0 < ((rd_T50 l0 x10_1).f3)) = T := decide_eq_true c10
        clear c10
        (try simp only [c10b0])
        by_cases c11 : x5_1.length < 2513169434916
        ·rw [if_pos c11] at H
         have LMc11 := Aside0.mk c11
         clear c11
         obtain ⟨y294, hy294⟩ : ∃ y_ : List (S50), y_ = (x5_1 ++ [(⟨(⟨(rd_T50 l0 x10_1).f0.f0, (rd_T50 l0 x10_1).f0.f1⟩ : S44), (rd_T50 l0 x10_1).f1, (rd_T50 l0 x10_1).f2, (rd_T50 l0 x10_1).f3⟩ : S50)]) := ⟨_, rfl⟩
         replace H : (QaR.l0 k1 a1 y294 l0 (l0.length : Int) (wrap64 (x10_1 + 1))) = some r := by first | (rw [hy294]; with_reducible exact H) | (have H2_ := (Option.bind_some _ _).symm.trans H; rw [hy294]; with_reducible exact H2_) | (have H2_ := (Option.bind_some _ _).symm.trans H; with_reducible exact H2_) | with_reducible exact H | (rw [hy294]; exact H) | exact H
         have Ny294 := Aside0.mk hy294
         clear hy294
         have H' := Aside0.mk H
         clear H
         obtain ⟨hcz12_0, hfz12_0⟩ := Zy (v := (.string (⟨#[]⟩ : ByteArray))) BK293.out 0
         obtain ⟨hcz12_1, hfz12_1⟩ := Zy (v := (.string (⟨#[]⟩ : ByteArray))) BK293.out 1
         obtain ⟨hcz12_2, hfz12_2⟩ := Zy (v := (.int .i64 0)) BK293.out 2
         obtain ⟨hcz12_3, hfz12_3⟩ := Zy (v := (.int .i64 0)) BK293.out 3
         obtain ⟨hcz12_4, hfz12_4⟩ := Zy (v := (.int .i64 0)) BK293.out 4
         go_wp2_with (first | ((with_reducible refine QbN (b := .append) (xs := #[.tmp 23, .tmp 25]) rfl ?_); at_builtin; refine Kd.R_append k50 (w0 := w) w.heap.size rfl (.tmp 23) (.tmp 25) 35 50 (.agg #[(.string ⟨#[]⟩), (.string ⟨#[]⟩), (.int .i64 0), (.int .i64 0), (.int .i64 0)]) 56 rfl Try.underlying35 info50 rfl (by decide) (by omega) u5 x5_1 (⟨(⟨(rd_T50 l0 x10_1).f0.f0, (rd_T50 l0 x10_1).f0.f1⟩ : S44), (rd_T50 l0 x10_1).f1, (rd_T50 l0 x10_1).f2, (rd_T50 l0 x10_1).f3⟩ : S50) [.string ((rd_T50 l0 x10_1).f0.f0), .string ((rd_T50 l0 x10_1).f0.f1), .int .i64 ((rd_T50 l0 x10_1).f1), .int .i64 ((rd_T50 l0 x10_1).f2), .int .i64 ((rd_T50 l0 x10_1).f3)] (fun k_ => k_ ≠ gb293) (fun _ => False) rfl (by first | (go_simp; done) | (go_simp; rfl)) ?aP (fun _ hk => hk.elim) ?aF ?aO ?aB ?aS ?aL ?_; (case aP => exact Qbz _ _ _ (⟨(⟨(rd_T50 l0 x10_1).f0.f0, (rd_T50 l0 x10_1).f0.f1⟩ : S44), (rd_T50 l0 x10_1).f1, (rd_T50 l0 x10_1).f2, (rd_T50 l0 x10_1).f3⟩ : S50)); (case aB => exact (Zc1 GE293.out)); (case aF => exact (fun k_ hk => Kd.freshB (g := gb293) (o := .cells #[.string ((rd_T50 l0 x10_1).f0.f0), .string ((rd_T50 l0 x10_1).f0.f1), .int .i64 ((rd_T50 l0 x10_1).f1), .int .i64 ((rd_T50 l0 x10_1).f2), .int .i64 ((rd_T50 l0 x10_1).f3)] 50 (0, 0)) (Zp2 BK293.out) k_ hk)); (case aO => exact (by (with_reducible repeat (first | apply Kd.R_alloc | apply Kd.R_drewN | apply Kd.R_drew)); exact Kd.R_mono (Zf gb293 4 (Zf gb293 3 (Zf gb293 2 (Zf gb293 1 (Zf gb293 0 (Kd.R_mono HO_5.out (fun k_ hk => (⟨hk, hk.2⟩ : _ ∧ k_ ≠ gb293))) (.string ((rd_T50 l0 x10_1).f0.f0))) (.string ((rd_T50 l0 x10_1).f0.f1))) (.int .i64 ((rd_T50 l0 x10_1).f1))) (.int .i64 ((rd_T50 l0 x10_1).f2))) (.int .i64 ((rd_T50 l0 x10_1).f3))) (fun _ hk => hk.1.2))); (case aS => exact (Qap (Zc1 GE293.out))); (case aL => have := LMc11.out; omega); intro v295 w13 ho hb hg hat; rw [← Ny294.out] at ho; have HO296 := Aside0.mk (ho); replace BK293 := Aside0.mk (QaW (g := gb293) (o := .cells #[.string ((rd_T50 l0 x10_1).f0.f0), .string ((rd_T50 l0 x10_1).f0.f1), .int .i64 ((rd_T50 l0 x10_1).f1), .int .i64 ((rd_T50 l0 x10_1).f2), .int .i64 ((rd_T50 l0 x10_1).f3)] 50 (0, 0)) (Zp2 BK293.out) hg (Kd.R_away HO_5.out (fun _ hk => hk.2))); replace HB := Aside0.mk (hb); clear HO_5; clear ho hb hg hat))
         go_roundg k1
         case measure => have := HK1.out; omega
         case rel => exact ⟨(y294), (wrap64 (x10_1 + 1)), (Zs), H', ⟨by have := HK1.out; omega⟩, ⟨by (with_reducible repeat (first | apply Kd.R_alloc | apply Kd.R_drewN | apply Kd.R_drew)); exact Kd.R_mono HO296.out (fun _ hk => trivial)⟩, ⟨Zc1 GE293.out⟩⟩
        rw [if_neg c11] at H
        exact absurd H (by simp)
       rw [if_neg c10] at H
       have c10b0 : decide (0 < ((rd_T50 l0 x10_1).f3)) = F := decide_eq_false c10
       clear c10
       (try simp only [c10b0])
       have H' := Aside0.mk H
       clear H
       go_wp2
       go_roundg k1
       case measure => have := HK1.out; omega
       case rel => exact ⟨(x5_1), (wrap64 (x10_1 + 1)), (Zs), H', ⟨by have := HK1.out; omega⟩, ⟨by (with_reducible repeat (first | apply Kd.R_alloc | apply Kd.R_drewN | apply Kd.R_drew)); exact Kd.R_mono (Zf gb293 4 (Zf gb293 3 (Zf gb293 2 (Zf gb293 1 (Zf gb293 0 (Kd.R_mono HO_5.out (fun k_ hk => (⟨hk, hk.2⟩ : _ ∧ k_ ≠ gb293))) (.string ((rd_T50 l0 x10_1).f0.f0))) (.string ((rd_T50 l0 x10_1).f0.f1))) (.int .i64 ((rd_T50 l0 x10_1).f1))) (.int .i64 ((rd_T50 l0 x10_1).f2))) (.int .i64 ((rd_T50 l0 x10_1).f3))) (fun _ hk => trivial)⟩, ⟨Zc1 GE293.out⟩⟩
      rw [if_neg c8] at H
      have c8b0 : decide (a1 ≤ ((rd_T50 l0 x10_1).f3)) = F := decide_eq_false c8
      clear c8
      (try simp only [c8b0])
      have H' := Aside0.mk H
      clear H
      obtain ⟨hcz14_0, hfz14_0⟩ := Zy (v := (.string (⟨#[]⟩ : ByteArray))) BK293.out 0
      obtain ⟨hcz14_1, hfz14_1⟩ := Zy (v := (.string (⟨#[]⟩ : ByteArray))) BK293.out 1
      obtain ⟨hcz14_2, hfz14_2⟩ := Zy (v := (.int .i64 0)) BK293.out 2
      obtain ⟨hcz14_3, hfz14_3⟩ := Zy (v := (.int .i64 0)) BK293.out 3
      obtain ⟨hcz14_4, hfz14_4⟩ := Zy (v := (.int .i64 0)) BK293.out 4
      go_wp2
      go_roundg k1
      case measure => have := HK1.out; omega
      case rel => exact ⟨(x5_1), (wrap64 (x10_1 + 1)), (Zs), H', ⟨by have := HK1.out; omega⟩, ⟨by (with_reducible repeat (first | apply Kd.R_alloc | apply Kd.R_drewN | apply Kd.R_drew)); exact Kd.R_mono (Zf gb293 4 (Zf gb293 3 (Zf gb293 2 (Zf gb293 1 (Zf gb293 0 (Kd.R_mono HO_5.out (fun k_ hk => (⟨hk, hk.2⟩ : _ ∧ k_ ≠ gb293))) (.string ((rd_T50 l0 x10_1).f0.f0))) (.string ((rd_T50 l0 x10_1).f0.f1))) (.int .i64 ((rd_T50 l0 x10_1).f1))) (.int .i64 ((rd_T50 l0 x10_1).f2))) (.int .i64 ((rd_T50 l0 x10_1).f3))) (fun _ hk => trivial)⟩, ⟨Zc1 GE293.out⟩⟩
     rw [if_neg c5] at H
     exact absurd H (by simp)
    rw [if_neg c4] at H
    exact absurd H (by simp)
   rw [if_neg c3] at H
   have c3b0 : decide (x10_1 < (l0.length : Int)) = F := decide_eq_false c3
   clear c3
   (try simp only [c3b0])
   obtain rfl := Option.some.inj H
   go_wp2
   go_ret
   exact ⟨_, Zq, Zr HO_5.out, Zb⟩
end Go.Proofs.Ytfcaaefdmabkhaa.Pr
