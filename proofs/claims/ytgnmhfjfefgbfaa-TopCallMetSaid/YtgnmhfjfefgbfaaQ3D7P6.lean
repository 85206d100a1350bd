/- Functions' values and contracts, as the print wrote them. -/
import Derived.Test.YtgnmhfjfefgbfaaQ3D7P0
import Derived.Test.YtgnmhfjfefgbfaaQ3D7P4
import Derived.Test.YtgnmhfjfefgbfaaQ3D7P2
import Derived.Test.YtgnmhfjfefgbfaaQ3D7P5
namespace Go.Proofs.Ytgnmhfjfefgbfaa.Pr
open Bool renaming true → T
open Bool renaming false → F
open Go.RowKit Go.Proofs.YtgnmhfjfefgbfaaW.PrintWords Go.Proofs.YtgnmhfjfefgbfaaW.PrintLast Go.Proofs.YtgnmhfjfefgbfaaW.PrintMore
attribute [local go_sem] QaN QaP QaW QaX QaH QaI QaO QaQ   -- for this text's walks alone
set_option linter.unusedVariables false
set_option linter.unusedSimpArgs false
set_option maxRecDepth 100000
mutual
def QaD.l0 : Nat → List (S346) → List (S346) → Int → Int → Option (Int)
 | 0, _, _, _, _ => none
 | k + 1, x0, x8, x9, x10 => if x10 < x9 then (if 0 ≤ x10 then (if x10 < (x8.length : Int) then ((Qa4.f k (([(Qaj x8 x10).f0.f0, (Qaj x8 x10).f0.f1, (Qaj x8 x10).f1] : List ByteArray))).bind fun t1011 => (if t1011 = T then (if x10 > 0 then (if 0 ≤ (wrap64 (x10 - 1)) then (if (wrap64 (x10 - 1)) < (x0.length : Int) then ((QbD.f ((Qaj x0 (wrap64 (x10 - 1))).f0.f0) ((Qaj x0 (wrap64 (x10 - 1))).f0.f1) ((Qaj x0 (wrap64 (x10 - 1))).f1) ((Qaj x0 (wrap64 (x10 - 1))).f2) ((Qaj x8 x10).f0.f0) ((Qaj x8 x10).f0.f1) ((Qaj x8 x10).f1) ((Qaj x8 x10).f2)).bind fun t1013 => (QaD.j1 k x0 x8 x9 x10 (decide (t1013 ≥ 0)) ((Qaj x8 x10).f0.f0) ((Qaj x8 x10).f0.f1) ((Qaj x8 x10).f1) ((Qaj x8 x10).f2))) else (none)) else (none)) else (QaD.j1 k x0 x8 x9 x10 F ((Qaj x8 x10).f0.f0) ((Qaj x8 x10).f0.f1) ((Qaj x8 x10).f1) ((Qaj x8 x10).f2))) else (some 10))) else (none)) else (none)) else (some 0)
def QaD.j1 : Nat → List (S346) → List (S346) → Int → Int → Bool → ByteArray → ByteArray → ByteArray → Int → Option (Int)
 | 0, _, _, _, _, _, _, _, _, _ => none
 | k + 1, x0, x8, x9, x10, x27, x1008000, x1008001, x1008002, x1008003 => if x27 = T then (some 12) else ((Qb0.f x1008003).bind fun t1014 => (if t1014 = T then (QaD.l0 k x0 x8 x9 (wrap64 (x10 + 1))) else (some 18)))
end
def QaD.f (k : Nat) (l0 : List (S346)) : Option (Int) := if (l0.length : Int) > 1024 then (some 8) else (QaD.l0 k l0 l0 (l0.length : Int) 0)
theorem QaD.mono_l : ∀ k, (∀ y0 y1 y2 y3, LeO (QaD.l0 k y0 y1 y2 y3) (QaD.l0 (k + 1) y0 y1 y2 y3)) ∧ (∀ y0 y1 y2 y3 y4 y5 y6 y7 y8, LeO (QaD.j1 k y0 y1 y2 y3 y4 y5 y6 y7 y8) (QaD.j1 (k + 1) y0 y1 y2 y3 y4 y5 y6 y7 y8))
 | 0 => ⟨fun _ _ _ _ r h => by simp [QaD.l0] at h, fun _ _ _ _ _ _ _ _ _ r h => by simp [QaD.j1] at h⟩
 | k + 1 => by
  obtain ⟨ih0, ih1⟩ := QaD.mono_l k
  refine ⟨?_, ?_⟩
  ·intro y0 y1 y2 y3
   unfold QaD.l0
   exact ZM3 ih0 ih1 Qa4.mono
  intro y0 y1 y2 y3 y4 y5 y6 y7 y8
  unfold QaD.j1
  exact ZM3 ih0 ih1 Qa4.mono
theorem QaD.mono : ∀ a0 k, LeO (QaD.f k a0) (QaD.f (k + 1) a0) := by
 intro a0 k
 obtain ⟨ih0, ih1⟩ := QaD.mono_l k
 unfold QaD.f
 exact ZM3 ih0 ih1 Qa4.mono
def QaD.T8 : Bool × List (List Nat × List Nat) := (T, [([], []), ([0], [0]), ([1], [1]), ([2], [2]), ([2], [2]), ([4, 2], [2, 4]), ([3, 5, 2], [2, 3, 5]), ([6, 2], [2, 6]), ([2], [2]), ([7, 8, 2, 2], [2, 7, 8]), ([9, 2], [2, 9]), ([2, 10], [2, 10]), ([11, 9], [11])])
def QaD.B8 : List Nat := [0, 1, 3, 7, 7, 23, 63, 127, 7, 511, 1023, 2047, 4095]
theorem QaD.tab8 : rtab .any (opsOf Try.f269 8) = QaD.T8 := by kernel_rfl
theorem QaD.bits8 : Qcc QaD.T8.2 QaD.B8 = T := by kernel_rfl
set_option maxHeartbeats 8000000 in
theorem QaD.calls (k : Nat) (A0 : Option Addr) (c0 : Nat) (l0 : List (S346)) (r : Int) (w : World) (hr0 : Kd.C k346 w A0 l0.length l0) (hc0 : l0.length ≤ c0) (h : QaD.f k l0 = some r) :
  Calls Try.prog 269 #[.slice A0 l0.length c0] w fun e w' => e = .returned (.int .i64 r) ∧ Below w.heap.size w w' := by
 have hu346 := Try.underlying346
 have HR0 := Aside0.mk hr0
 have HC0 := Aside0.mk hc0
 clear hr0 hc0
 have HB := Aside0.mk (Below.refl w.heap.size w)
 have H : (if (l0.length : Int) > 1024 then (some 8) else (QaD.l0 k l0 l0 (l0.length : Int) 0)) = some r := h
 clear h
 by_cases c2 : (l0.length : Int) > 1024
 ·rw [if_pos c2] at H
  have c2b0 : decide (1024 < (l0.length : Int)) = T := decide_eq_true c2
  have c2b1 : decide (1024 < l0.length) = T := decide_eq_true (by omega)
  clear c2
  obtain rfl := Option.some.inj H
  go_enter Try.func269, Try.ntmps269
  go_wp2
  go_ret
  exact ⟨Zq, Zb⟩
 rw [if_neg c2] at H
 have c2b0 : decide (1024 < (l0.length : Int)) = F := decide_eq_false c2
 have c2b1 : decide (1024 < l0.length) = F := decide_eq_false (by omega)
 clear c2
 have H' := Aside0.mk H
 clear H
 go_enter Try.func269, Try.ntmps269
 go_wp2
 go_loopg [10] k (fun kq v10 w' => ∃ (x10_1 : Int), v10 = .int .i64 x10_1 ∧ Aside0 (QaD.l0 kq l0 l0 (l0.length : Int) x10_1 = some r) ∧ Aside0 (kq ≤ k) ∧ Aside0 (Below w.heap.size w w'))
 case atStart => exact ⟨(0), (Zs), H', ⟨Nat.le_refl _⟩, ⟨Zb⟩⟩
 case round =>
  clear H'
  try clear c2
  try clear c2b0
  try clear c2b1
  try clear p2
  obtain ⟨x10_1, rfl, HA, HK1, HB⟩ := hrel
  cases gk with
  | zero => exact absurd HA.out (by simp [QaD.l0])
  | succ k1 =>
   have H := HA.out
   clear HA
   simp only [QaD.l0] at H
   by_cases c3 : x10_1 < (l0.length : Int)
   ·rw [if_pos c3] at H
    have c3b0 : decide (x10_1 < (l0.length : Int)) = T := decide_eq_true c3
    clear c3
    (try simp only [c3b0])
    by_cases c4 : 0 ≤ x10_1
    ·rw [if_pos c4] at H
     have c4b0 : decide (0 ≤ x10_1) = T := decide_eq_true c4
     clear c4
     by_cases c5 : x10_1 < (l0.length : Int)
     ·rw [if_pos c5] at H
      have c5b0 : decide (x10_1 < (l0.length : Int)) = T := decide_eq_true c5
      clear c5
      obtain ⟨y1008, hy1008⟩ : ∃ y_ : List ByteArray, y_ = (([(Qaj l0 x10_1).f0.f0, (Qaj l0 x10_1).f0.f1, (Qaj l0 x10_1).f1] : List ByteArray)) := ⟨_, rfl⟩
      replace H : ((Qa4.f k1 y1008).bind fun t1011 => (if t1011 = T then (if x10_1 > 0 then (if 0 ≤ (wrap64 (x10_1 - 1)) then (if (wrap64 (x10_1 - 1)) < (l0.length : Int) then ((QbD.f ((Qaj l0 (wrap64 (x10_1 - 1))).f0.f0) ((Qaj l0 (wrap64 (x10_1 - 1))).f0.f1) ((Qaj l0 (wrap64 (x10_1 - 1))).f1) ((Qaj l0 (wrap64 (x10_1 - 1))).f2) ((Qaj l0 x10_1).f0.f0) ((Qaj l0 x10_1).f0.f1) ((Qaj l0 x10_1).f1) ((Qaj l0 x10_1).f2)).bind fun t1013 => (QaD.j1 k1 l0 l0 (l0.length : Int) x10_1 (decide (t1013 ≥ 0)) ((Qaj l0 x10_1).f0.f0) ((Qaj l0 x10_1).f0.f1) ((Qaj l0 x10_1).f1) ((Qaj l0 x10_1).f2))) else (none)) else (none)) else (QaD.j1 k1 l0 l0 (l0.length : Int) x10_1 F ((Qaj l0 x10_1).f0.f0) ((Qaj l0 x10_1).f0.f1) ((Qaj l0 x10_1).f1) ((Qaj l0 x10_1).f2))) else (some 10))) = some r := by first | (rw [hy1008]; with_reducible exact H) | (have H2_ := (Option.bind_some _ _).symm.trans H; rw [hy1008]; with_reducible exact H2_) | (have H2_ := (Option.bind_some _ _).symm.trans H; with_reducible exact H2_) | with_reducible exact H | (rw [hy1008]; exact H) | exact H
      have Ny1008 := Aside0.mk hy1008
      clear hy1008
      replace H := Option.bind_eq_some_iff.mp H
      obtain ⟨t1011, A60, H⟩ := H
      replace H : (if t1011 = T then (if x10_1 > 0 then (if 0 ≤ (wrap64 (x10_1 - 1)) then (if (wrap64 (x10_1 - 1)) < (l0.length : Int) then ((QbD.f ((Qaj l0 (wrap64 (x10_1 - 1))).f0.f0) ((Qaj l0 (wrap64 (x10_1 - 1))).f0.f1) ((Qaj l0 (wrap64 (x10_1 - 1))).f1) ((Qaj l0 (wrap64 (x10_1 - 1))).f2) ((Qaj l0 x10_1).f0.f0) ((Qaj l0 x10_1).f0.f1) ((Qaj l0 x10_1).f1) ((Qaj l0 x10_1).f2)).bind fun t1013 => (QaD.j1 k1 l0 l0 (l0.length : Int) x10_1 (decide (t1013 ≥ 0)) ((Qaj l0 x10_1).f0.f0) ((Qaj l0 x10_1).f0.f1) ((Qaj l0 x10_1).f1) ((Qaj l0 x10_1).f2))) else (none)) else (none)) else (QaD.j1 k1 l0 l0 (l0.length : Int) x10_1 F ((Qaj l0 x10_1).f0.f0) ((Qaj l0 x10_1).f0.f1) ((Qaj l0 x10_1).f1) ((Qaj l0 x10_1).f2))) else (some 10)) = some r := H
      have A6 := Aside0.mk A60
      clear A60
      have p1006 : 0 ≤ (x10_1 : Int) := Ze
      have q1006 : x10_1 < (l0.length : Int) := Ze
      obtain ⟨ad1006, e1006, hx1006_0, hx1006_1, hx1006_2, hx1006_3⟩ := QcK HR0.out x10_1 p1006 q1006
      cases e1006
      replace hx1006_0 := Zx HB.out hx1006_0
      replace hx1006_1 := Zx HB.out hx1006_1
      replace hx1006_2 := Zx HB.out hx1006_2
      replace hx1006_3 := Zx HB.out hx1006_3
      replace p1006 := eq_true p1006
      replace q1006 := eq_true q1006
      go_upto_if 15 with (first | ((with_reducible refine QaT (N := 4) rfl ?_); refine Zbx (N := 4) (cs := #[.string (⟨#[]⟩ : ByteArray), .string (⟨#[]⟩ : ByteArray), .string (⟨#[]⟩ : ByteArray), .int .i64 0]) (t := 346) ?_; intro gb1007 hg w7 hbox hb; have BK1007 := Aside0.mk (hbox); have GW1007 := Aside0.mk (Zt w hg (Zb)); have GE1007 := GW1007; replace HB := Aside0.mk (Qap (Zb) hb); clear hb hbox hg; obtain ⟨hcz8_0, hfz8_0⟩ := Zy (v := (.string (⟨#[]⟩ : ByteArray))) BK1007.out 0; obtain ⟨hcz8_1, hfz8_1⟩ := Zy (v := (.string (⟨#[]⟩ : ByteArray))) BK1007.out 1; obtain ⟨hcz8_2, hfz8_2⟩ := Zy (v := (.string (⟨#[]⟩ : ByteArray))) BK1007.out 2; obtain ⟨hcz8_3, hfz8_3⟩ := Zy (v := (.int .i64 0)) BK1007.out 3) | ((with_reducible refine QaT (N := 24) rfl ?_); refine Kd.R_lit Kd.string _ 9 ?hg (N := 24) ?hd (xs := ([(Qaj l0 x10_1).f0.f0, (Qaj l0 x10_1).f0.f1, (Qaj l0 x10_1).f1] : List ByteArray)) (inner := [.string ((Qaj l0 x10_1).f0.f0), .string ((Qaj l0 x10_1).f0.f1), .string ((Qaj l0 x10_1).f1)]) (ok := fun _ => True) (okp := fun _ => True) ?hr ?hp (fun _ hk => hk) trivial (Below.refl _ _) (Nat.le_refl _) (by simp) ?_; (case hd => rfl); (case hg => rfl); (case hr => first | (go_simp; done) | (go_simp; rfl)); (case hp => exact (Reps.one (show Kd.M Kd.string _ _ _ ((Qaj l0 x10_1).f0.f0) [.string ((Qaj l0 x10_1).f0.f0)] from rfl) (Reps.one (show Kd.M Kd.string _ _ _ ((Qaj l0 x10_1).f0.f1) [.string ((Qaj l0 x10_1).f0.f1)] from rfl) (Reps.one (show Kd.M Kd.string _ _ _ ((Qaj l0 x10_1).f1) [.string ((Qaj l0 x10_1).f1)] from rfl) (Reps.none _ _))))); intro v1009 w9 ho10 hb hg_ hnew_; clear hg_ hnew_; (first | rw [← Ny1008.out] at ho10 | (simp only [Int.reduceToNat] at ho10; rw [← Ny1008.out] at ho10)); have HO1010 := Aside0.mk (Kd.R_lower ho10 (Qar (Zc1 GE1007.out))); replace BK1007 := Aside0.mk (Zpi #[.string ((Qaj l0 x10_1).f0.f0), .string ((Qaj l0 x10_1).f0.f1), .string ((Qaj l0 x10_1).f1), .int .i64 ((Qaj l0 x10_1).f2)] BK1007.out hb); replace HB := Aside0.mk (Qap (Zc1 GE1007.out) hb); clear hb ho10; obtain ⟨Ao11, co11, eo11⟩ := Kd.R_slice HO1010.out; subst eo11) | ((with_reducible refine Qay (f := 272) rfl ?_); refine goesL_ (some 25) rfl rfl Try.func272 (by kernel_rfl) rfl #[.slice Ao11 y1008.length co11] rfl (Zl) ?_; (with_reducible refine (Qa4.calls k1 _ _ y1008 t1011 _ ?side1 ?side2 A6.out).mono ?_); (case side1 => exact Zv (Kd.R_reads' HO1010.out).2.2); (case side2 => exact (Kd.R_reads' HO1010.out).2.1); rintro e w' ⟨rfl, ⟨nd, rfl⟩⟩; refine ⟨_, rfl, ?_⟩))
      (try simp only [Act.put, Zj, Zk, Zm])
      by_cases c12 : t1011 = T
      ·subst c12
       have H1 : (if x10_1 > 0 then (if 0 ≤ (wrap64 (x10_1 - 1)) then (if (wrap64 (x10_1 - 1)) < (l0.length : Int) then ((QbD.f ((Qaj l0 (wrap64 (x10_1 - 1))).f0.f0) ((Qaj l0 (wrap64 (x10_1 - 1))).f0.f1) ((Qaj l0 (wrap64 (x10_1 - 1))).f1) ((Qaj l0 (wrap64 (x10_1 - 1))).f2) ((Qaj l0 x10_1).f0.f0) ((Qaj l0 x10_1).f0.f1) ((Qaj l0 x10_1).f1) ((Qaj l0 x10_1).f2)).bind fun t1013 => (QaD.j1 k1 l0 l0 (l0.length : Int) x10_1 (decide (t1013 ≥ 0)) ((Qaj l0 x10_1).f0.f0) ((Qaj l0 x10_1).f0.f1) ((Qaj l0 x10_1).f1) ((Qaj l0 x10_1).f2))) else (none)) else (none)) else (QaD.j1 k1 l0 l0 (l0.length : Int) x10_1 F ((Qaj l0 x10_1).f0.f0) ((Qaj l0 x10_1).f0.f1) ((Qaj l0 x10_1).f1) ((Qaj l0 x10_1).f2))) = some r := by rw [if_pos rfl] at H; exact H
       clear H
       have H := H1
       clear H1
       have HC13 := Aside0.mk H
       clear H
       go_upto_region 8 with (fail)
       go_cut [27] (fun v27 wc => ∃ (kq : Nat) (x27_12 : Bool), v27 = .bool x27_12 ∧ Aside0 (QaD.j1 kq l0 l0 (l0.length : Int) x10_1 x27_12 ((Qaj l0 x10_1).f0.f0) ((Qaj l0 x10_1).f0.f1) ((Qaj l0 x10_1).f1) ((Qaj l0 x10_1).f2) = some r) ∧ Aside0 (kq ≤ k1) ∧ Aside0 (wc.heap[gb1007]? = some (.cells #[.string ((Qaj l0 x10_1).f0.f0), .string ((Qaj l0 x10_1).f0.f1), .string ((Qaj l0 x10_1).f1), .int .i64 ((Qaj l0 x10_1).f2)] 346 (0, 0))) ∧ Aside0 (Below w.heap.size w wc))
       case first =>
        have H := HC13.out
        clear HC13
        by_cases c14 : x10_1 > 0
        ·rw [if_pos c14] at H
         have c14b0 : decide (0 < x10_1) = T := decide_eq_true c14
         clear c14
         (first | rw [c14b0] | (simp only [i64_w, i32_w]; rw [c14b0]) | skip)
         obtain ⟨ji15, hji15⟩ : ∃ j_ : Int, (wrap64 (x10_1 - 1)) = j_ := ⟨_, rfl⟩
         replace H : (if 0 ≤ (ji15) then (if (ji15) < (l0.length : Int) then ((QbD.f ((Qaj l0 (ji15)).f0.f0) ((Qaj l0 (ji15)).f0.f1) ((Qaj l0 (ji15)).f1) ((Qaj l0 (ji15)).f2) ((Qaj l0 x10_1).f0.f0) ((Qaj l0 x10_1).f0.f1) ((Qaj l0 x10_1).f1) ((Qaj l0 x10_1).f2)).bind fun t1013 => (QaD.j1 k1 l0 l0 (l0.length : Int) x10_1 (decide (t1013 ≥ 0)) ((Qaj l0 x10_1).f0.f0) ((Qaj l0 x10_1).f0.f1) ((Qaj l0 x10_1).f1) ((Qaj l0 x10_1).f2))) else (none)) else (none)) = some r := by first | (rw [hji15] at H; exact H) | (simp only [hji15] at H ⊢; exact H)
         have hji15w : (IntKind.i64.wrap (x10_1 - 1)) = ji15 := (i64_w _).trans hji15
         by_cases c16 : 0 ≤ (ji15)
         ·rw [if_pos c16] at H
          have c16b0 : decide (0 ≤ (ji15)) = T := decide_eq_true c16
          clear c16
          by_cases c17 : (ji15) < (l0.length : Int)
          ·rw [if_pos c17] at H
           have c17b0 : decide ((ji15) < (l0.length : Int)) = T := decide_eq_true c17
           clear c17
           replace H := Option.bind_eq_some_iff.mp H
           obtain ⟨t1013, A180, H⟩ := H
           replace H : (QaD.j1 k1 l0 l0 (l0.length : Int) x10_1 (decide (t1013 ≥ 0)) ((Qaj l0 x10_1).f0.f0) ((Qaj l0 x10_1).f0.f1) ((Qaj l0 x10_1).f1) ((Qaj l0 x10_1).f2)) = some r := H
           have A18 := Aside0.mk A180
           clear A180
           have H' := Aside0.mk H
           clear H
           try go_wp2
           (try (rw [QcR w9]; generalize hq_ : World.drewN w9 _ = w9; have n0_ : Aside0 (Kd.R Kd.string 9 w9 w.heap.size (fun _ => True) (.slice Ao11 y1008.length co11) y1008) := ⟨by rw [← hq_]; exact (Zr HO1010.out)⟩; have n1_ : Aside0 (w9.heap[gb1007]? = some (.cells #[.string ((Qaj l0 x10_1).f0.f0), .string ((Qaj l0 x10_1).f0.f1), .string ((Qaj l0 x10_1).f1), .int .i64 ((Qaj l0 x10_1).f2)] 346 (0, 0))) := ⟨by rw [← hq_]; exact (Zu BK1007.out)⟩; have n2_ : Aside0 (Below w.heap.size w w9) := ⟨by rw [← hq_]; exact (Zc1 GE1007.out)⟩; clear HO1010 BK1007 HB hq_; have HO1010 := n0_; have BK1007 := n1_; have HB := n2_; clear n0_ n1_ n2_))
           replace HO1010 := Aside0.mk (Kd.R_drew HO1010.out)
           replace BK1007 := Aside0.mk (Qad BK1007.out)
           replace HB := Aside0.mk (Qai HB.out)
           have p1012 : 0 ≤ ((ji15) : Int) := Ze
           have q1012 : (ji15) < (l0.length : Int) := Ze
           obtain ⟨ad1012, e1012, hx1012_0, hx1012_1, hx1012_2, hx1012_3⟩ := QcK HR0.out (ji15) p1012 q1012
           have hw1012_3 := hx1012_3
           have hw1012_2 := hx1012_2
           have hw1012_1 := hx1012_1
           have hw1012_0 := hx1012_0
           obtain rfl : ad1006 = ad1012 := (by injection e1012)
           replace hx1012_0 := Zx HB.out hx1012_0
           replace hx1012_1 := Zx HB.out hx1012_1
           replace hx1012_2 := Zx HB.out hx1012_2
           replace hx1012_3 := Zx HB.out hx1012_3
           replace p1012 := eq_true p1012
           replace q1012 := eq_true q1012
           refine start_ (n := 13) (S := fun w' => w'.cell? ⟨gb1007, 0, none⟩ = some (.string ((Qaj l0 x10_1).f0.f0)) ∧ w'.cell? ⟨gb1007, 1, none⟩ = some (.string ((Qaj l0 x10_1).f0.f1)) ∧ w'.cell? ⟨gb1007, 2, none⟩ = some (.string ((Qaj l0 x10_1).f1)) ∧ w'.cell? ⟨gb1007, 3, none⟩ = some (.int .i64 ((Qaj l0 x10_1).f2)) ∧ w'.cell? (ad1006.add (((ji15)).toNat * 4)) = some (.string ((Qaj l0 (ji15)).f0.f0)) ∧ w'.cell? ⟨(ad1006.add (((ji15)).toNat * 4)).block, (ad1006.add (((ji15)).toNat * 4)).off + 1, none⟩ = some (.string ((Qaj l0 (ji15)).f0.f1)) ∧ w'.cell? ⟨(ad1006.add (((ji15)).toNat * 4)).block, (ad1006.add (((ji15)).toNat * 4)).off + 2, none⟩ = some (.string ((Qaj l0 (ji15)).f1)) ∧ w'.cell? ⟨(ad1006.add (((ji15)).toNat * 4)).block, (ad1006.add (((ji15)).toNat * 4)).off + 3, none⟩ = some (.int .i64 ((Qaj l0 (ji15)).f2))) (ds := []) #[F, F, F, F, F, F, F, F, F, F, F, F, F] (by kernel_rfl) rfl rfl ⟨(Qaf BK1007.out 0).trans rfl, (Qaf BK1007.out 1).trans rfl, (Qaf BK1007.out 2).trans rfl, (Qaf BK1007.out 3).trans rfl, ((HB.out.cell (World.block_lt_of_cell? w _ hw1012_0)).trans hw1012_0), ((HB.out.cell (World.block_lt_of_cell? w _ hw1012_1)).trans hw1012_1), ((HB.out.cell (World.block_lt_of_cell? w _ hw1012_2)).trans hw1012_2), ((HB.out.cell (World.block_lt_of_cell? w _ hw1012_3)).trans hw1012_3)⟩ (fun hHeld => ?_); refine Qcf QaD.tab8 QaD.bits8 (fun HT_ HW_ => ?_)
           generalize w9.drew = w19 at HO1010 BK1007 HB hx1012_0 hx1012_1 hx1012_2 hx1012_3 hHeld ⊢
           refine Zsp (i := 0) (N := some 28) (pm 13 1) HT_ ?_
           refine Zsp (i := 1) (N := some 29) (pm 13 2) HT_ ?_
           refine Zsp (i := 2) (N := some 30) (pm 13 3) HT_ ?_
           refine Zsp (i := 3) (N := some 31) (pm 13 4) HT_ ?_
           refine Zsp (i := 4) (N := some 32) (pm 13 5) HT_ ?_
           refine Zsp (i := 5) (N := some 33) (pm 13 6) HT_ ?_
           refine Zsp (i := 6) (N := some 34) (pm 13 7) HT_ ?_
           refine Zst (i := 7) (N := some 35) (pm 13 8) HT_ HW_ hHeld ?_ (hy := by (refine Or.inl ⟨by rfl, ?_⟩; rintro w' ⟨s0, s1, s2, s3, s4, s5, s6, s7⟩; go_simp; with_reducible rfl))
           refine Zst (i := 8) (N := some 36) (pm 13 9) HT_ HW_ hHeld ?_ (hy := by (refine Or.inl ⟨by rfl, ?_⟩; rintro w' ⟨s0, s1, s2, s3, s4, s5, s6, s7⟩; go_simp; with_reducible rfl))
           refine one_ (i := 9) (N := some 37) #[T, T, T, T, T, T, T, T, T, T, F, F, F] rfl rfl (one_of HT_.out (by kernel_rfl)) (by decide) (fun K hK => ?_)
           refine goes_ Try.func273 (by kernel_rfl) rfl #[.agg #[.string ((Qaj l0 (ji15)).f0.f0), .string ((Qaj l0 (ji15)).f0.f1), .string ((Qaj l0 (ji15)).f1), .int .i64 ((Qaj l0 (ji15)).f2)], .agg #[.string ((Qaj l0 x10_1).f0.f0), .string ((Qaj l0 x10_1).f0.f1), .string ((Qaj l0 x10_1).f1), .int .i64 ((Qaj l0 x10_1).f2)]] (by rfl) rfl rfl (by (try simp only [List.map_toArray, List.map_cons, List.map_nil]); first | done | (simp only [hji15]; rfl) | rfl | (simp only [List.length_drop, List.length_take]; rfl)) ?_
           with_reducible refine (QbD.calls ((Qaj l0 (ji15)).f0.f0) ((Qaj l0 (ji15)).f0.f1) ((Qaj l0 (ji15)).f1) ((Qaj l0 (ji15)).f2) ((Qaj l0 x10_1).f0.f0) ((Qaj l0 x10_1).f0.f1) ((Qaj l0 x10_1).f1) ((Qaj l0 x10_1).f2) t1013 _ A18.out).mono ?_
           rintro e w20 ⟨rfl, hb⟩
           refine ⟨_, rfl, ?_⟩
           replace HO1010 := Aside0.mk (Kd.R_below (Zr HO1010.out) hb)
           replace BK1007 := Aside0.mk (Zi BK1007.out hb)
           replace HB := Aside0.mk (Qap (Zc1 GE1007.out) hb)
           (try clear hb)
           (try clear hb2)
           (try clear hk)
           (try clear hi)
           refine hK.out _ _ ⟨(Qaf BK1007.out 0).trans rfl, (Qaf BK1007.out 1).trans rfl, (Qaf BK1007.out 2).trans rfl, (Qaf BK1007.out 3).trans rfl, ((HB.out.cell (World.block_lt_of_cell? w _ hw1012_0)).trans hw1012_0), ((HB.out.cell (World.block_lt_of_cell? w _ hw1012_1)).trans hw1012_1), ((HB.out.cell (World.block_lt_of_cell? w _ hw1012_2)).trans hw1012_2), ((HB.out.cell (World.block_lt_of_cell? w _ hw1012_3)).trans hw1012_3)⟩ (fun hHeld => ?_)
           clear hK K
           refine norm_ (a' := ?_) ?_ ?_
           rotate_left
           ·show Act.put _ (some 37) _ = _
            simp only [Act.put, Zj, Zk, Zm, i64_w, i32_w]
            rfl
           refine Zsp (i := 10) (N := some 38) (pm 13 11) HT_ ?_
           refine Zsp (i := 11) (N := some 39) (pm 13 12) HT_ ?_
           refine Zsp (i := 12) (N := some 27) (pm 13 13) HT_ ?_
           refine done_ (Qcu HT_.out (by kernel_rfl)) ?_
           try go_wp2
           go_meet
           case rel => exact ⟨_, (decide (t1013 ≥ 0)), (Zs), H', ⟨by have := HK1.out; first | omega | exact Nat.le_refl _⟩, ⟨Zu BK1007.out⟩, ⟨Zc1 GE1007.out⟩⟩
          rw [if_neg c17] at H
          exact absurd H (by simp)
         rw [if_neg c16] at H
         exact absurd H (by simp)
        rw [if_neg c14] at H
        have c14b0 : decide (0 < x10_1) = F := decide_eq_false c14
        clear c14
        (first | rw [c14b0] | (simp only [i64_w, i32_w]; rw [c14b0]) | skip)
        have H' := Aside0.mk H
        clear H
        try go_wp2
        (try (rw [QcR w9]; generalize hq_ : World.drewN w9 _ = w9; have n0_ : Aside0 (Kd.R Kd.string 9 w9 w.heap.size (fun _ => True) (.slice Ao11 y1008.length co11) y1008) := ⟨by rw [← hq_]; exact (Zr HO1010.out)⟩; have n1_ : Aside0 (w9.heap[gb1007]? = some (.cells #[.string ((Qaj l0 x10_1).f0.f0), .string ((Qaj l0 x10_1).f0.f1), .string ((Qaj l0 x10_1).f1), .int .i64 ((Qaj l0 x10_1).f2)] 346 (0, 0))) := ⟨by rw [← hq_]; exact (Zu BK1007.out)⟩; have n2_ : Aside0 (Below w.heap.size w w9) := ⟨by rw [← hq_]; exact (Zc1 GE1007.out)⟩; clear HO1010 BK1007 HB hq_; have HO1010 := n0_; have BK1007 := n1_; have HB := n2_; clear n0_ n1_ n2_))
        replace HO1010 := Aside0.mk (Kd.R_drew HO1010.out)
        replace BK1007 := Aside0.mk (Qad BK1007.out)
        replace HB := Aside0.mk (Qai HB.out)
        refine start_ (n := 13) (S := fun w' => True) (ds := []) #[F, F, F, F, F, F, F, F, F, F, F, F, F] (by kernel_rfl) rfl rfl trivial (fun hHeld => ?_); refine Qcf QaD.tab8 QaD.bits8 (fun HT_ HW_ => ?_)
        generalize w9.drew = w21 at HO1010 BK1007 HB hHeld ⊢
        refine Zsp (i := 0) (N := some 28) (pm 13 1) HT_ ?_
        refine Zsp (i := 1) (N := some 29) (pm 13 2) HT_ ?_
        refine Zsp (i := 2) (N := some 30) (pm 13 3) HT_ ?_
        refine Zso (i := 3) (N := some 31) (pm 13 4) HT_ ?_
        refine Zso (i := 4) (N := some 32) (pm 13 5) HT_ ?_
        refine Zso (i := 5) (N := some 33) (pm 13 6) HT_ ?_
        refine Zso (i := 6) (N := some 34) (pm 13 7) HT_ ?_
        refine Zso (i := 7) (N := some 35) (pm 13 8) HT_ ?_
        refine Zso (i := 8) (N := some 36) (pm 13 9) HT_ ?_
        refine Zso (i := 9) (N := some 37) (pm 13 10) HT_ ?_
        refine Zso (i := 10) (N := some 38) (pm 13 11) HT_ ?_
        refine Zsp (i := 11) (N := some 39) (pm 13 12) HT_ ?_
        refine Zsp (i := 12) (N := some 27) (pm 13 13) HT_ ?_
        refine done_ (Qcu HT_.out (by kernel_rfl)) ?_
        try go_wp2
        go_meet
        case rel => exact ⟨_, (F), (Zs), H', ⟨by have := HK1.out; first | omega | exact Nat.le_refl _⟩, ⟨Zu BK1007.out⟩, ⟨Zc1 GE1007.out⟩⟩
       case rest =>
        clear HC13
        try clear c1
        try clear p1
        try clear q1
        try clear hx1
        try clear c2
        try clear c2b0
        try clear c2b1
        try clear p2
        try clear c3
        try clear c3b0
        try clear c4
        try clear c4b0
        try clear c5
        try clear c5b0
        try clear p6
        try clear p10
        try clear q10
        try clear hx10
        try clear c12
        try clear c14
        try clear c14b0
        try clear c16
        try clear c16b0
        try clear c17
        try clear c17b0
        try clear hcz8_0
        try clear hcz8_1
        try clear hcz8_2
        try clear hcz8_3
        try clear hfz8_0
        try clear hfz8_1
        try clear hfz8_2
        try clear hfz8_3
        try clear hx1006_0
        try clear hx1006_1
        try clear hx1006_2
        try clear hx1006_3
        try clear hx1012_0
        try clear hx1012_1
        try clear hx1012_2
        try clear hx1012_3
        try clear p1006
        try clear p1012
        try clear p2
        try clear q1006
        try clear q1012
        obtain ⟨kq, x27_12, rfl, HA, HJ12, BK1007, HB⟩ := hcut
        cases kq with
        | zero => exact absurd HA.out (by simp [QaD.j1])
        | succ kj12 =>
         have H := HA.out
         clear HA
         simp only [QaD.j1] at H
         by_cases c22 : x27_12 = T
         ·subst c22
          have H1 : (some 12) = some r := by rw [if_pos rfl] at H; exact H
          clear H
          have H := H1
          clear H1
          obtain rfl := Option.some.inj H
          go_wp2
          go_ret
          exact ⟨Zq, Zc1 GE1007.out⟩
         replace c22 := Bool.eq_false_iff.mpr c22
         subst c22
         have H1 : ((Qb0.f ((Qaj l0 x10_1).f2)).bind fun t1014 => (if t1014 = T then (QaD.l0 kj12 l0 l0 (l0.length : Int) (wrap64 (x10_1 + 1))) else (some 18))) = some r := by rw [if_neg (show ¬ (F = T) by decide)] at H; exact H
         clear H
         have H := H1
         clear H1
         replace H := Option.bind_eq_some_iff.mp H
         obtain ⟨t1014, A230, H⟩ := H
         replace H : (if t1014 = T then (QaD.l0 kj12 l0 l0 (l0.length : Int) (wrap64 (x10_1 + 1))) else (some 18)) = some r := H
         have A23 := Aside0.mk A230
         clear A230
         obtain ⟨hcz24_0, hfz24_0⟩ := Zy (v := (.string ((Qaj l0 x10_1).f0.f0))) BK1007.out 0
         obtain ⟨hcz24_1, hfz24_1⟩ := Zy (v := (.string ((Qaj l0 x10_1).f0.f1))) BK1007.out 1
         obtain ⟨hcz24_2, hfz24_2⟩ := Zy (v := (.string ((Qaj l0 x10_1).f1))) BK1007.out 2
         obtain ⟨hcz24_3, hfz24_3⟩ := Zy (v := (.int .i64 ((Qaj l0 x10_1).f2))) BK1007.out 3
         go_upto_if 40 with (first | ((with_reducible refine Qay (f := 274) rfl ?_); refine goesL_ (some 43) rfl rfl Try.func274 (by kernel_rfl) rfl #[.int .i64 ((Qaj l0 x10_1).f2)] rfl (Zl) ?_; (with_reducible refine (Qb0.calls ((Qaj l0 x10_1).f2) t1014 _ A23.out).mono ?_); rintro e w' ⟨rfl, ⟨nd, rfl⟩⟩; refine ⟨_, rfl, ?_⟩))
         (try simp only [Act.put, Zj, Zk, Zm])
         by_cases c25 : t1014 = T
         ·subst c25
          have H1 : (QaD.l0 kj12 l0 l0 (l0.length : Int) (wrap64 (x10_1 + 1))) = some r := by rw [if_pos rfl] at H; exact H
          clear H
          have H := H1
          clear H1
          have H' := Aside0.mk H
          clear H
          go_wp2
          go_roundg kj12
          case measure => have := HK1.out; have := HJ12.out; omega
          case rel => exact ⟨(wrap64 (x10_1 + 1)), (Zs), H', ⟨by have := HK1.out; have := HJ12.out; omega⟩, ⟨Zc1 GE1007.out⟩⟩
         replace c25 := Bool.eq_false_iff.mpr c25
         subst c25
         have H1 : (some 18) = some r := by rw [if_neg (show ¬ (F = T) by decide)] at H; exact H
         clear H
         have H := H1
         clear H1
         obtain rfl := Option.some.inj H
         go_wp2
         go_ret
         exact ⟨Zq, Zc1 GE1007.out⟩
      replace c12 := Bool.eq_false_iff.mpr c12
      subst c12
      have H1 : (some 10) = some r := by rw [if_neg (show ¬ (F = T) by decide)] at H; exact H
      clear H
      have H := H1
      clear H1
      obtain rfl := Option.some.inj H
      go_wp2
      go_ret
      exact ⟨Zq, Zc1 GE1007.out⟩
     rw [if_neg c5] at H
     exact absurd H (by simp)
    rw [if_neg c4] at H
    exact absurd H (by simp)
   rw [if_neg c3] at H
   have c3b0 : decide (x10_1 < (l0.length : Int)) = F := decide_eq_false c3
   clear c3
   (try simp only [c3b0])
   obtain rfl := Option.some.inj H
   go_wp2
   go_ret
   exact ⟨Zq, Zb⟩
def QaV.l0 : Nat → List (S112) → List (S112) → Int → Int → Option (Int)
 | 0, _, _, _, _ => none
 | k + 1, x0, x9, x10, x11 => if x11 < x10 then (if 0 ≤ x11 then (if x11 < (x9.length : Int) then ((QaG.f k ((Qaq x9 x11).f0) ((Qaq x9 x11).f1) ((Qaq x9 x11).f2) ((Qaq x9 x11).f3) ((Qaq x9 x11).f4) ((Qaq x9 x11).f5)).bind fun t1017 => (if t1017 = 0 then (if x11 > 0 then (if 0 ≤ (wrap64 (x11 - 1)) then (if (wrap64 (x11 - 1)) < (x0.length : Int) then (if (Op.bytesLess (((Qaq x9 x11).f0).toList) (((Qaq x0 (wrap64 (x11 - 1))).f0).toList)) = T then (some 12) else (if (((Qaq x9 x11).f0).toList) = (((Qaq x0 (wrap64 (x11 - 1))).f0).toList) then (some 12) else (QaV.l0 k x0 x9 x10 (wrap64 (x11 + 1))))) else (none)) else (none)) else (QaV.l0 k x0 x9 x10 (wrap64 (x11 + 1)))) else (some t1017))) else (none)) else (none)) else (some 0)
def QaV.f (k : Nat) (l0 : List (S112)) : Option (Int) := if (l0.length : Int) > 1024 then (some 8) else (QaV.l0 k l0 l0 (l0.length : Int) 0)
theorem QaV.mono_l : ∀ k, (∀ y0 y1 y2 y3, LeO (QaV.l0 k y0 y1 y2 y3) (QaV.l0 (k + 1) y0 y1 y2 y3))
 | 0 => fun _ _ _ _ r h => by simp [QaV.l0] at h
 | k + 1 => by
  have ih0 := QaV.mono_l k
  intro y0 y1 y2 y3
  unfold QaV.l0
  exact ZM2 ih0 QaG.mono
theorem QaV.mono : ∀ a0 k, LeO (QaV.f k a0) (QaV.f (k + 1) a0) := by
 intro a0 k
 have ih0 := QaV.mono_l k
 unfold QaV.f
 exact ZM2 ih0 QaG.mono
set_option maxHeartbeats 8000000 in
theorem QaV.calls (k : Nat) (A0 : Option Addr) (c0 : Nat) (l0 : List (S112)) (r : Int) (w : World) (hr0 : Kd.C k112 w A0 l0.length l0) (hc0 : l0.length ≤ c0) (h : QaV.f k l0 = some r) :
  Calls Try.prog 270 #[.slice A0 l0.length c0] w fun e w' => e = .returned (.int .i64 r) ∧ Below w.heap.size w w' := by
 have hu112 := Try.underlying112
 have HR0 := Aside0.mk hr0
 have HC0 := Aside0.mk hc0
 clear hr0 hc0
 have HB := Aside0.mk (Below.refl w.heap.size w)
 have H : (if (l0.length : Int) > 1024 then (some 8) else (QaV.l0 k l0 l0 (l0.length : Int) 0)) = some r := h
 clear h
 by_cases c2 : (l0.length : Int) > 1024
 ·rw [if_pos c2] at H
  have c2b0 : decide (1024 < (l0.length : Int)) = T := decide_eq_true c2
  have c2b1 : decide (1024 < l0.length) = T := decide_eq_true (by omega)
  clear c2
  obtain rfl := Option.some.inj H
  go_enter Try.func270, Try.ntmps270
  go_wp2
  repeat (go_quiet (fail); try go_wp2)
  go_ret
  exact ⟨Zq, Zb⟩
 rw [if_neg c2] at H
 have c2b0 : decide (1024 < (l0.length : Int)) = F := decide_eq_false c2
 have c2b1 : decide (1024 < l0.length) = F := decide_eq_false (by omega)
 clear c2
 have H' := Aside0.mk H
 clear H
 go_enter Try.func270, Try.ntmps270
 go_wp2
 repeat (go_quiet (fail); try go_wp2)
 go_loopg [11] k (fun kq v11 w' => ∃ (x11_1 : Int), v11 = .int .i64 x11_1 ∧ Aside0 (QaV.l0 kq l0 l0 (l0.length : Int) x11_1 = some r) ∧ Aside0 (kq ≤ k) ∧ Aside0 (Below w.heap.size w w'))
 case atStart => exact ⟨(0), (Zs), H', ⟨Nat.le_refl _⟩, ⟨Zb⟩⟩
 case round =>
  clear H'
  try clear c2
  try clear c2b0
  try clear c2b1
  try clear p2
  obtain ⟨x11_1, rfl, HA, HK1, HB⟩ := hrel
  cases gk with
  | zero => exact absurd HA.out (by simp [QaV.l0])
  | succ k1 =>
   have H := HA.out
   clear HA
   simp only [QaV.l0] at H
   by_cases c3 : x11_1 < (l0.length : Int)
   ·rw [if_pos c3] at H
    have c3b0 : decide (x11_1 < (l0.length : Int)) = T := decide_eq_true c3
    clear c3
    (try simp only [c3b0])
    by_cases c4 : 0 ≤ x11_1
    ·rw [if_pos c4] at H
     have c4b0 : decide (0 ≤ x11_1) = T := decide_eq_true c4
     clear c4
     by_cases c5 : x11_1 < (l0.length : Int)
     ·rw [if_pos c5] at H
      have c5b0 : decide (x11_1 < (l0.length : Int)) = T := decide_eq_true c5
      clear c5
      replace H := Option.bind_eq_some_iff.mp H
      obtain ⟨t1017, A60, H⟩ := H
      replace H : (if t1017 = 0 then (if x11_1 > 0 then (if 0 ≤ (wrap64 (x11_1 - 1)) then (if (wrap64 (x11_1 - 1)) < (l0.length : Int) then (if (Op.bytesLess (((Qaq l0 x11_1).f0).toList) (((Qaq l0 (wrap64 (x11_1 - 1))).f0).toList)) = T then (some 12) else (if (((Qaq l0 x11_1).f0).toList) = (((Qaq l0 (wrap64 (x11_1 - 1))).f0).toList) then (some 12) else (QaV.l0 k1 l0 l0 (l0.length : Int) (wrap64 (x11_1 + 1))))) else (none)) else (none)) else (QaV.l0 k1 l0 l0 (l0.length : Int) (wrap64 (x11_1 + 1)))) else (some t1017)) = some r := H
      have A6 := Aside0.mk A60
      clear A60
      have p1015 : 0 ≤ (x11_1 : Int) := Ze
      have q1015 : x11_1 < (l0.length : Int) := Ze
      obtain ⟨ad1015, e1015, hx1015_0, hx1015_1, hx1015_2, hx1015_3, hx1015_4, hx1015_5⟩ := QcJ HR0.out x11_1 p1015 q1015
      cases e1015
      replace hx1015_0 := Zx HB.out hx1015_0
      replace hx1015_1 := Zx HB.out hx1015_1
      replace hx1015_2 := Zx HB.out hx1015_2
      replace hx1015_3 := Zx HB.out hx1015_3
      replace hx1015_4 := Zx HB.out hx1015_4
      replace hx1015_5 := Zx HB.out hx1015_5
      replace p1015 := eq_true p1015
      replace q1015 := eq_true q1015
      go_upto_if 19 with (first | ((with_reducible refine QaT (N := 4) rfl ?_); refine Zbx (N := 4) (cs := #[.string (⟨#[]⟩ : ByteArray), .int .i64 0, .int .i64 0, .int .i64 0, .int .i64 0, .int .i64 0]) (t := 112) ?_; intro gb1016 hg w7 hbox hb; have BK1016 := Aside0.mk (hbox); have GW1016 := Aside0.mk (Zt w hg (Zb)); have GE1016 := GW1016; replace HB := Aside0.mk (Qap (Zb) hb); clear hb hbox hg; obtain ⟨hcz8_0, hfz8_0⟩ := Zy (v := (.string (⟨#[]⟩ : ByteArray))) BK1016.out 0; obtain ⟨hcz8_1, hfz8_1⟩ := Zy (v := (.int .i64 0)) BK1016.out 1; obtain ⟨hcz8_2, hfz8_2⟩ := Zy (v := (.int .i64 0)) BK1016.out 2; obtain ⟨hcz8_3, hfz8_3⟩ := Zy (v := (.int .i64 0)) BK1016.out 3; obtain ⟨hcz8_4, hfz8_4⟩ := Zy (v := (.int .i64 0)) BK1016.out 4; obtain ⟨hcz8_5, hfz8_5⟩ := Zy (v := (.int .i64 0)) BK1016.out 5) | (go_at_call 111; (with_reducible refine (QaG.calls k1 ((Qaq l0 x11_1).f0) ((Qaq l0 x11_1).f1) ((Qaq l0 x11_1).f2) ((Qaq l0 x11_1).f3) ((Qaq l0 x11_1).f4) ((Qaq l0 x11_1).f5) t1017 _ A6.out).mono ?_); rintro e w9 ⟨rfl, hb⟩; replace BK1016 := Aside0.mk (Zpi #[.string ((Qaq l0 x11_1).f0), .int .i64 ((Qaq l0 x11_1).f1), .int .i64 ((Qaq l0 x11_1).f2), .int .i64 ((Qaq l0 x11_1).f3), .int .i64 ((Qaq l0 x11_1).f4), .int .i64 ((Qaq l0 x11_1).f5)] BK1016.out hb); replace HB := Aside0.mk (Qap (Zc1 GE1016.out) hb); (try clear hb); (try clear hb2); (try clear hk); (try clear hi)))
      repeat (go_quiet (first | ((with_reducible refine QaT (N := 4) rfl ?_); refine Zbx (N := 4) (cs := #[.string (⟨#[]⟩ : ByteArray), .int .i64 0, .int .i64 0, .int .i64 0, .int .i64 0, .int .i64 0]) (t := 112) ?_; intro gb1016 hg w7 hbox hb; have BK1016 := Aside0.mk (hbox); have GW1016 := Aside0.mk (Zt w hg (Zb)); have GE1016 := GW1016; replace HB := Aside0.mk (Qap (Zb) hb); clear hb hbox hg; obtain ⟨hcz8_0, hfz8_0⟩ := Zy (v := (.string (⟨#[]⟩ : ByteArray))) BK1016.out 0; obtain ⟨hcz8_1, hfz8_1⟩ := Zy (v := (.int .i64 0)) BK1016.out 1; obtain ⟨hcz8_2, hfz8_2⟩ := Zy (v := (.int .i64 0)) BK1016.out 2; obtain ⟨hcz8_3, hfz8_3⟩ := Zy (v := (.int .i64 0)) BK1016.out 3; obtain ⟨hcz8_4, hfz8_4⟩ := Zy (v := (.int .i64 0)) BK1016.out 4; obtain ⟨hcz8_5, hfz8_5⟩ := Zy (v := (.int .i64 0)) BK1016.out 5) | (go_at_call 111; (with_reducible refine (QaG.calls k1 ((Qaq l0 x11_1).f0) ((Qaq l0 x11_1).f1) ((Qaq l0 x11_1).f2) ((Qaq l0 x11_1).f3) ((Qaq l0 x11_1).f4) ((Qaq l0 x11_1).f5) t1017 _ A6.out).mono ?_); rintro e w9 ⟨rfl, hb⟩; replace BK1016 := Aside0.mk (Zpi #[.string ((Qaq l0 x11_1).f0), .int .i64 ((Qaq l0 x11_1).f1), .int .i64 ((Qaq l0 x11_1).f2), .int .i64 ((Qaq l0 x11_1).f3), .int .i64 ((Qaq l0 x11_1).f4), .int .i64 ((Qaq l0 x11_1).f5)] BK1016.out hb); replace HB := Aside0.mk (Qap (Zc1 GE1016.out) hb); (try clear hb); (try clear hb2); (try clear hk); (try clear hi))); go_upto_if 19 with (first | ((with_reducible refine QaT (N := 4) rfl ?_); refine Zbx (N := 4) (cs := #[.string (⟨#[]⟩ : ByteArray), .int .i64 0, .int .i64 0, .int .i64 0, .int .i64 0, .int .i64 0]) (t := 112) ?_; intro gb1016 hg w7 hbox hb; have BK1016 := Aside0.mk (hbox); have GW1016 := Aside0.mk (Zt w hg (Zb)); have GE1016 := GW1016; replace HB := Aside0.mk (Qap (Zb) hb); clear hb hbox hg; obtain ⟨hcz8_0, hfz8_0⟩ := Zy (v := (.string (⟨#[]⟩ : ByteArray))) BK1016.out 0; obtain ⟨hcz8_1, hfz8_1⟩ := Zy (v := (.int .i64 0)) BK1016.out 1; obtain ⟨hcz8_2, hfz8_2⟩ := Zy (v := (.int .i64 0)) BK1016.out 2; obtain ⟨hcz8_3, hfz8_3⟩ := Zy (v := (.int .i64 0)) BK1016.out 3; obtain ⟨hcz8_4, hfz8_4⟩ := Zy (v := (.int .i64 0)) BK1016.out 4; obtain ⟨hcz8_5, hfz8_5⟩ := Zy (v := (.int .i64 0)) BK1016.out 5) | (go_at_call 111; (with_reducible refine (QaG.calls k1 ((Qaq l0 x11_1).f0) ((Qaq l0 x11_1).f1) ((Qaq l0 x11_1).f2) ((Qaq l0 x11_1).f3) ((Qaq l0 x11_1).f4) ((Qaq l0 x11_1).f5) t1017 _ A6.out).mono ?_); rintro e w9 ⟨rfl, hb⟩; replace BK1016 := Aside0.mk (Zpi #[.string ((Qaq l0 x11_1).f0), .int .i64 ((Qaq l0 x11_1).f1), .int .i64 ((Qaq l0 x11_1).f2), .int .i64 ((Qaq l0 x11_1).f3), .int .i64 ((Qaq l0 x11_1).f4), .int .i64 ((Qaq l0 x11_1).f5)] BK1016.out hb); replace HB := Aside0.mk (Qap (Zc1 GE1016.out) hb); (try clear hb); (try clear hb2); (try clear hk); (try clear hi))))
      (try simp only [Act.put, Zj, Zk, Zm])
      by_cases c10 : t1017 = 0
      ·rw [if_pos c10] at H
       have c10b0 : (t1017 == 0) = T := beq_iff_eq.mpr c10
       have c10b1 : (t1017 != 0) = F := bne_eq_false_iff_eq.mpr c10
       clear c10
       (try simp only [c10b0, c10b1])
       by_cases c11 : x11_1 > 0
       ·rw [if_pos c11] at H
        have c11b0 : decide (0 < x11_1) = T := decide_eq_true c11
        clear c11
        obtain ⟨ji12, hji12⟩ : ∃ j_ : Int, (wrap64 (x11_1 - 1)) = j_ := ⟨_, rfl⟩
        replace H : (if 0 ≤ (ji12) then (if (ji12) < (l0.length : Int) then (if (Op.bytesLess (((Qaq l0 x11_1).f0).toList) (((Qaq l0 (ji12)).f0).toList)) = T then (some 12) else (if (((Qaq l0 x11_1).f0).toList) = (((Qaq l0 (ji12)).f0).toList) then (some 12) else (QaV.l0 k1 l0 l0 (l0.length : Int) (wrap64 (x11_1 + 1))))) else (none)) else (none)) = some r := by first | (rw [hji12] at H; exact H) | (simp only [hji12] at H ⊢; exact H)
        have hji12w : (IntKind.i64.wrap (x11_1 - 1)) = ji12 := (i64_w _).trans hji12
        by_cases c13 : 0 ≤ (ji12)
        ·rw [if_pos c13] at H
         have c13b0 : decide (0 ≤ (ji12)) = T := decide_eq_true c13
         clear c13
         by_cases c14 : (ji12) < (l0.length : Int)
         ·rw [if_pos c14] at H
          have c14b0 : decide ((ji12) < (l0.length : Int)) = T := decide_eq_true c14
          clear c14
          by_cases c15 : (Op.bytesLess (((Qaq l0 x11_1).f0).toList) (((Qaq l0 (ji12)).f0).toList)) = T
          ·rw [if_pos c15] at H
           have c15b0 : (Op.bytesLess (((Qaq l0 x11_1).f0).toList) (((Qaq l0 (ji12)).f0).toList)) = T := c15
           clear c15
           obtain rfl := Option.some.inj H
           obtain ⟨hcz16_0, hfz16_0⟩ := Zy (v := (.string ((Qaq l0 x11_1).f0))) BK1016.out 0
           obtain ⟨hcz16_1, hfz16_1⟩ := Zy (v := (.int .i64 ((Qaq l0 x11_1).f1))) BK1016.out 1
           obtain ⟨hcz16_2, hfz16_2⟩ := Zy (v := (.int .i64 ((Qaq l0 x11_1).f2))) BK1016.out 2
           obtain ⟨hcz16_3, hfz16_3⟩ := Zy (v := (.int .i64 ((Qaq l0 x11_1).f3))) BK1016.out 3
           obtain ⟨hcz16_4, hfz16_4⟩ := Zy (v := (.int .i64 ((Qaq l0 x11_1).f4))) BK1016.out 4
           obtain ⟨hcz16_5, hfz16_5⟩ := Zy (v := (.int .i64 ((Qaq l0 x11_1).f5))) BK1016.out 5
           have p1018 : 0 ≤ ((ji12) : Int) := Ze
           have q1018 : (ji12) < (l0.length : Int) := Ze
           obtain ⟨ad1018, e1018, hx1018_0, hx1018_1, hx1018_2, hx1018_3, hx1018_4, hx1018_5⟩ := QcJ HR0.out (ji12) p1018 q1018
           obtain rfl : ad1015 = ad1018 := (by injection e1018)
           replace hx1018_0 := Zx HB.out hx1018_0
           replace hx1018_1 := Zx HB.out hx1018_1
           replace hx1018_2 := Zx HB.out hx1018_2
           replace hx1018_3 := Zx HB.out hx1018_3
           replace hx1018_4 := Zx HB.out hx1018_4
           replace hx1018_5 := Zx HB.out hx1018_5
           replace p1018 := eq_true p1018
           replace q1018 := eq_true q1018
           go_wp2
           repeat (go_quiet (fail); try go_wp2)
           go_ret
           exact ⟨by first | rfl | (simp [Qak, Qal] <;> rfl) | (simp only [← hji12]; first | rfl | (simp [Qak, Qal] <;> rfl)) | (simp [*, Qak, Qal] <;> rfl), Zc1 GE1016.out⟩
          rw [if_neg c15] at H
          have c15b0 : (Op.bytesLess (((Qaq l0 x11_1).f0).toList) (((Qaq l0 (ji12)).f0).toList)) = F := by simpa using c15
          clear c15
          by_cases c17 : (((Qaq l0 x11_1).f0).toList) = (((Qaq l0 (ji12)).f0).toList)
          ·rw [if_pos c17] at H
           have c17b0 : ((((Qaq l0 x11_1).f0).toList) == (((Qaq l0 (ji12)).f0).toList)) = T := beq_iff_eq.mpr c17
           have c17b1 : ((((Qaq l0 x11_1).f0).toList) != (((Qaq l0 (ji12)).f0).toList)) = F := bne_eq_false_iff_eq.mpr c17
           clear c17
           obtain rfl := Option.some.inj H
           obtain ⟨hcz18_0, hfz18_0⟩ := Zy (v := (.string ((Qaq l0 x11_1).f0))) BK1016.out 0
           obtain ⟨hcz18_1, hfz18_1⟩ := Zy (v := (.int .i64 ((Qaq l0 x11_1).f1))) BK1016.out 1
           obtain ⟨hcz18_2, hfz18_2⟩ := Zy (v := (.int .i64 ((Qaq l0 x11_1).f2))) BK1016.out 2
           obtain ⟨hcz18_3, hfz18_3⟩ := Zy (v := (.int .i64 ((Qaq l0 x11_1).f3))) BK1016.out 3
           obtain ⟨hcz18_4, hfz18_4⟩ := Zy (v := (.int .i64 ((Qaq l0 x11_1).f4))) BK1016.out 4
           obtain ⟨hcz18_5, hfz18_5⟩ := Zy (v := (.int .i64 ((Qaq l0 x11_1).f5))) BK1016.out 5
           have p1018 : 0 ≤ ((ji12) : Int) := Ze
           have q1018 : (ji12) < (l0.length : Int) := Ze
           obtain ⟨ad1018, e1018, hx1018_0, hx1018_1, hx1018_2, hx1018_3, hx1018_4, hx1018_5⟩ := QcJ HR0.out (ji12) p1018 q1018
           obtain rfl : ad1015 = ad1018 := (by injection e1018)
           replace hx1018_0 := Zx HB.out hx1018_0
           replace hx1018_1 := Zx HB.out hx1018_1
           replace hx1018_2 := Zx HB.out hx1018_2
           replace hx1018_3 := Zx HB.out hx1018_3
           replace hx1018_4 := Zx HB.out hx1018_4
           replace hx1018_5 := Zx HB.out hx1018_5
           replace p1018 := eq_true p1018
           replace q1018 := eq_true q1018
           go_wp2
           repeat (go_quiet (fail); try go_wp2)
           go_ret
           exact ⟨by first | rfl | (simp [Qak, Qal] <;> rfl) | (simp only [← hji12]; first | rfl | (simp [Qak, Qal] <;> rfl)) | (simp [*, Qak, Qal] <;> rfl), Zc1 GE1016.out⟩
          rw [if_neg c17] at H
          have c17b0 : ((((Qaq l0 x11_1).f0).toList) == (((Qaq l0 (ji12)).f0).toList)) = F := beq_eq_false_iff_ne.mpr c17
          have c17b1 : ((((Qaq l0 x11_1).f0).toList) != (((Qaq l0 (ji12)).f0).toList)) = T := bne_iff_ne.mpr c17
          have H' := Aside0.mk H
          clear H
          obtain ⟨hcz19_0, hfz19_0⟩ := Zy (v := (.string ((Qaq l0 x11_1).f0))) BK1016.out 0
          obtain ⟨hcz19_1, hfz19_1⟩ := Zy (v := (.int .i64 ((Qaq l0 x11_1).f1))) BK1016.out 1
          obtain ⟨hcz19_2, hfz19_2⟩ := Zy (v := (.int .i64 ((Qaq l0 x11_1).f2))) BK1016.out 2
          obtain ⟨hcz19_3, hfz19_3⟩ := Zy (v := (.int .i64 ((Qaq l0 x11_1).f3))) BK1016.out 3
          obtain ⟨hcz19_4, hfz19_4⟩ := Zy (v := (.int .i64 ((Qaq l0 x11_1).f4))) BK1016.out 4
          obtain ⟨hcz19_5, hfz19_5⟩ := Zy (v := (.int .i64 ((Qaq l0 x11_1).f5))) BK1016.out 5
          have p1018 : 0 ≤ ((ji12) : Int) := Ze
          have q1018 : (ji12) < (l0.length : Int) := Ze
          obtain ⟨ad1018, e1018, hx1018_0, hx1018_1, hx1018_2, hx1018_3, hx1018_4, hx1018_5⟩ := QcJ HR0.out (ji12) p1018 q1018
          obtain rfl : ad1015 = ad1018 := (by injection e1018)
          replace hx1018_0 := Zx HB.out hx1018_0
          replace hx1018_1 := Zx HB.out hx1018_1
          replace hx1018_2 := Zx HB.out hx1018_2
          replace hx1018_3 := Zx HB.out hx1018_3
          replace hx1018_4 := Zx HB.out hx1018_4
          replace hx1018_5 := Zx HB.out hx1018_5
          replace p1018 := eq_true p1018
          replace q1018 := eq_true q1018
          go_wp2
          repeat (go_quiet (fail); try go_wp2)
          go_roundg k1
          case measure => have := HK1.out; omega
          case rel => exact ⟨(wrap64 (x11_1 + 1)), (Zs), H', ⟨by have := HK1.out; omega⟩, ⟨Zc1 GE1016.out⟩⟩
         rw [if_neg c14] at H
         exact absurd H (by simp)
        rw [if_neg c13] at H
        exact absurd H (by simp)
       rw [if_neg c11] at H
       have c11b0 : decide (0 < x11_1) = F := decide_eq_false c11
       clear c11
       have H' := Aside0.mk H
       clear H
       go_wp2
       repeat (go_quiet (fail); try go_wp2)
       go_roundg k1
       case measure => have := HK1.out; omega
       case rel => exact ⟨(wrap64 (x11_1 + 1)), (Zs), H', ⟨by have := HK1.out; omega⟩, ⟨Zc1 GE1016.out⟩⟩
      rw [if_neg c10] at H
      have c10b0 : (t1017 == 0) = F := beq_eq_false_iff_ne.mpr c10
      have c10b1 : (t1017 != 0) = T := bne_iff_ne.mpr c10
      (try simp only [c10b0, c10b1])
      obtain rfl := Option.some.inj H
      go_wp2
      repeat (go_quiet (fail); try go_wp2)
      go_ret
      exact ⟨Zq, Zc1 GE1016.out⟩
     rw [if_neg c5] at H
     exact absurd H (by simp)
    rw [if_neg c4] at H
    exact absurd H (by simp)
   rw [if_neg c3] at H
   have c3b0 : decide (x11_1 < (l0.length : Int)) = F := decide_eq_false c3
   clear c3
   (try simp only [c3b0])
   obtain rfl := Option.some.inj H
   go_wp2
   repeat (go_quiet (fail); try go_wp2)
   go_ret
   exact ⟨Zq, Zb⟩
def QaS.l0 : Nat → List (S112) → List (S279) → List Int → List (S346) → Int → Int → Option (Int × Int)
 | 0, _, _, _, _, _, _ => none
 | k + 1, x2, x3, x10, x29, x30, x31 => if x31 < x30 then (if 0 ≤ x31 then (if x31 < (x29.length : Int) then ((Qbb.f k x2 ((Qaj x29 x31).f1)).bind fun bt1029 => (if bt1029.2.2.2.2.2.2 = T then ((QaZ.f k bt1029.1 bt1029.2.1 bt1029.2.2.1 bt1029.2.2.2.1 bt1029.2.2.2.2.1 bt1029.2.2.2.2.2.1 ((Qaj x29 x31).f2) x3).bind fun bt1037 => (if bt1037.2 = 0 then (if x10.length < 17592186044416 then (QaS.l0 k x2 x3 (x10 ++ [bt1037.1]) x29 x30 (wrap64 (x31 + 1))) else (none)) else (some (0, bt1037.2)))) else (some (0, 11)))) else (none)) else (none)) else ((Qa1.f k x10).bind fun bt1025 => (some (bt1025.1, bt1025.2)))
def QaS.f (k : Nat) (l0 : List (S346)) (a1_0 : ByteArray) (a1_1 : ByteArray) (l2 : List (S112)) (l3 : List (S279)) : Option (Int × Int) := (QaD.f k l0).bind fun t1020 => (if t1020 = 0 then ((QaV.f k l2).bind fun t1021 => (if t1021 = 0 then ((Qa5.f k l0 a1_0 a1_1).bind fun t1022 => (QaS.l0 k l2 l3 ([] : List Int) t1022 (t1022.length : Int) 0)) else (some (0, t1021)))) else (some (0, t1020)))
theorem QaS.mono_l : ∀ k, (∀ y0 y1 y2 y3 y4 y5, LeO (QaS.l0 k y0 y1 y2 y3 y4 y5) (QaS.l0 (k + 1) y0 y1 y2 y3 y4 y5))
 | 0 => fun _ _ _ _ _ _ r h => by simp [QaS.l0] at h
 | k + 1 => by
  have ih0 := QaS.mono_l k
  intro y0 y1 y2 y3 y4 y5
  unfold QaS.l0
  exact ZM7 ih0 QaV.mono Qbb.mono QaZ.mono Qa1.mono QaD.mono Qa5.mono
theorem QaS.mono : ∀ a0 a1 a2 a3 a4 k, LeO (QaS.f k a0 a1 a2 a3 a4) (QaS.f (k + 1) a0 a1 a2 a3 a4) := by
 intro a0 a1 a2 a3 a4 k
 have ih0 := QaS.mono_l k
 unfold QaS.f
 exact ZM7 ih0 QaV.mono Qbb.mono QaZ.mono Qa1.mono QaD.mono Qa5.mono
set_option maxHeartbeats 8000000 in
theorem QaS.calls (k : Nat) (A0 : Option Addr) (c0 : Nat) (l0 : List (S346)) (a1_0 : ByteArray) (a1_1 : ByteArray) (A2 : Option Addr) (c2 : Nat) (l2 : List (S112)) (A3 : Option Addr) (c3 : Nat) (l3 : List (S279)) (r1 : Int) (r2 : Int) (w : World) (hr0 : Kd.C k346 w A0 l0.length l0) (hc0 : l0.length ≤ c0) (hr2 : Kd.C k112 w A2 l2.length l2) (hc2 : l2.length ≤ c2) (hr3 : Kd.C k279 w A3 l3.length l3) (hc3 : l3.length ≤ c3) (h : QaS.f k l0 a1_0 a1_1 l2 l3 = some (r1, r2)) :
  Calls Try.prog 262 #[.slice A0 l0.length c0, .agg #[.string a1_0, .string a1_1], .slice A2 l2.length c2, .slice A3 l3.length c3] w fun e w' => e = .returned (.tuple #[.int .i64 r1, .int .i64 r2]) ∧ Below w.heap.size w w' := by
 have hu81 := Try.underlying81
 have hu346 := Try.underlying346
 have hu112 := Try.underlying112
 have HR0 := Aside0.mk hr0
 have HC0 := Aside0.mk hc0
 clear hr0 hc0
 have HR2 := Aside0.mk hr2
 have HC2 := Aside0.mk hc2
 clear hr2 hc2
 have HR3 := Aside0.mk hr3
 have HC3 := Aside0.mk hc3
 clear hr3 hc3
 have HB := Aside0.mk (Below.refl w.heap.size w)
 have H : ((QaD.f k l0).bind fun t1020 => (if t1020 = 0 then ((QaV.f k l2).bind fun t1021 => (if t1021 = 0 then ((Qa5.f k l0 a1_0 a1_1).bind fun t1022 => (QaS.l0 k l2 l3 ([] : List Int) t1022 (t1022.length : Int) 0)) else (some (0, t1021)))) else (some (0, t1020)))) = some (r1, r2) := h
 clear h
 replace H := Option.bind_eq_some_iff.mp H
 obtain ⟨t1020, A50, H⟩ := H
 replace H : (if t1020 = 0 then ((QaV.f k l2).bind fun t1021 => (if t1021 = 0 then ((Qa5.f k l0 a1_0 a1_1).bind fun t1022 => (QaS.l0 k l2 l3 ([] : List Int) t1022 (t1022.length : Int) 0)) else (some (0, t1021)))) else (some (0, t1020))) = some (r1, r2) := H
 have A5 := Aside0.mk A50
 clear A50
 go_enter Try.func262, Try.ntmps262
 go_upto_if 20 with (first | ((with_reducible refine QaT (N := 5) rfl ?_); refine Zbx (N := 5) (cs := #[.string a1_0, .string a1_1]) (t := 81) ?_; intro gb1019 hg w6 hbox hb; have BK1019 := Aside0.mk (hbox); have GW1019 := Aside0.mk (Zt w hg (Zb)); have GE1019 := GW1019; replace HB := Aside0.mk (Qap (Zb) hb); clear hb hbox hg) | ((with_reducible refine Qay (f := 269) rfl ?_); refine goesL_ (some 18) rfl rfl Try.func269 (by kernel_rfl) rfl #[.slice A0 l0.length c0] rfl (Zl) ?_; (with_reducible refine (QaD.calls k _ _ l0 t1020 _ ?side1 ?side2 A5.out).mono ?_); (case side1 => exact Zv (Kd.C_below HR0.out HB.out)); (case side2 => exact HC0.out); rintro e w7 ⟨rfl, hb⟩; refine ⟨_, rfl, ?_⟩; replace BK1019 := Aside0.mk (Zi BK1019.out hb); replace HB := Aside0.mk (Qap (Zc1 GE1019.out) hb); (try clear hb); (try clear hb2); (try clear hk); (try clear hi)))
 (try simp only [Act.put, Zj, Zk, Zm])
 by_cases c8 : t1020 = 0
 ·rw [if_pos c8] at H
  have c8b0 : (t1020 == 0) = T := beq_iff_eq.mpr c8
  have c8b1 : (t1020 != 0) = F := bne_eq_false_iff_eq.mpr c8
  clear c8
  (try simp only [c8b0, c8b1])
  replace H := Option.bind_eq_some_iff.mp H
  obtain ⟨t1021, A90, H⟩ := H
  replace H : (if t1021 = 0 then ((Qa5.f k l0 a1_0 a1_1).bind fun t1022 => (QaS.l0 k l2 l3 ([] : List Int) t1022 (t1022.length : Int) 0)) else (some (0, t1021))) = some (r1, r2) := H
  have A9 := Aside0.mk A90
  clear A90
  go_upto_if 25 with (first | ((with_reducible refine Qay (f := 270) rfl ?_); refine goesL_ (some 23) rfl rfl Try.func270 (by kernel_rfl) rfl #[.slice A2 l2.length c2] rfl (Zl) ?_; (with_reducible refine (QaV.calls k _ _ l2 t1021 _ ?side1 ?side2 A9.out).mono ?_); (case side1 => exact Zv (Kd.C_below HR2.out HB.out)); (case side2 => exact HC2.out); rintro e w10 ⟨rfl, hb⟩; refine ⟨_, rfl, ?_⟩; replace BK1019 := Aside0.mk (Zi BK1019.out hb); replace HB := Aside0.mk (Qap (Zc1 GE1019.out) hb); (try clear hb); (try clear hb2); (try clear hk); (try clear hi)))
  (try simp only [Act.put, Zj, Zk, Zm])
  by_cases c11 : t1021 = 0
  ·rw [if_pos c11] at H
   have c11b0 : (t1021 == 0) = T := beq_iff_eq.mpr c11
   have c11b1 : (t1021 != 0) = F := bne_eq_false_iff_eq.mpr c11
   clear c11
   (try simp only [c11b0, c11b1])
   replace H := Option.bind_eq_some_iff.mp H
   obtain ⟨t1022, A120, H⟩ := H
   replace H : (QaS.l0 k l2 l3 ([] : List Int) t1022 (t1022.length : Int) 0) = some (r1, r2) := H
   have A12 := Aside0.mk A120
   clear A120
   have H' := Aside0.mk H
   clear H
   obtain ⟨hcz13_0, hfz13_0⟩ := Zy (v := (.string a1_0)) BK1019.out 0
   obtain ⟨hcz13_1, hfz13_1⟩ := Zy (v := (.string a1_1)) BK1019.out 1
   go_wp2_with (first | ((with_reducible refine Qay (f := 263) rfl ?_); refine goesL_ (some 29) rfl rfl Try.func263 (by kernel_rfl) rfl #[.slice A0 l0.length c0, .agg #[.string a1_0, .string a1_1]] rfl (Zl) ?_; (with_reducible refine (Qa5.calls k _ _ l0 a1_0 a1_1 t1022 _ ?side1 ?side2 A12.out).mono ?_); (case side1 => exact Zv (Kd.C_below HR0.out HB.out)); (case side2 => exact HC0.out); rintro e w14 ⟨v1023, rfl, ho0, hb⟩; refine ⟨_, rfl, ?_⟩; have HO1024 := Aside0.mk (Kd.R_lower ho0 (Qar (Zc1 GE1019.out))); replace BK1019 := Aside0.mk (Zi BK1019.out hb); replace HB := Aside0.mk (Qap (Zc1 GE1019.out) hb); (try clear hb); (try clear hb2); (try clear hk); (try clear hi); (try clear ho0); obtain ⟨Ao15, co15, eo15⟩ := Kd.R_slice HO1024.out; subst eo15))
   go_loopg [10, 31] k (fun kq v10 v31 w' => ∃ (x10_1 : List Int) (x31_1 : Int), v31 = .int .i64 x31_1 ∧ Aside0 (QaS.l0 kq l2 l3 x10_1 t1022 (t1022.length : Int) x31_1 = some (r1, r2)) ∧ Aside0 (kq ≤ k) ∧ Aside0 (Kd.R (Kd.int .i64) 3 w' w.heap.size (fun _ => True) v10 x10_1) ∧ Aside0 (Kd.R k346 346 w' w.heap.size (fun _ => True) (.slice Ao15 t1022.length co15) t1022) ∧ Aside0 (w'.heap[gb1019]? = some (.cells #[.string a1_0, .string a1_1] 81 (0, 0))) ∧ Aside0 (Below w.heap.size w w'))
   case atStart => exact ⟨(([] : List Int)), (0), (Zs), H', ⟨Nat.le_refl _⟩, ⟨by first | exact Kd.R_nil _ _ _ _ _ | exact Kd.N_nil _ _ _ _ _ | exact Kd.V_nil _ _ _ _ _ | exact Kd.Q_nil _ _ _ _ _ | exact Kd.S_nil _ _ _ _ _⟩, ⟨Zr HO1024.out⟩, ⟨Zu BK1019.out⟩, ⟨Zc1 GE1019.out⟩⟩
   case round =>
    clear H'
    try clear c1
    try clear c2
    try clear p2
    try clear c3
    try clear c8
    try clear c8b0
    try clear c8b1
    try clear c11
    try clear c11b0
    try clear c11b1
    try clear hcz13_0
    try clear hcz13_1
    try clear hfz13_0
    try clear hfz13_1
    obtain ⟨x10_1, x31_1, rfl, HA, HK1, HO_10, HO_29, BK1019, HB⟩ := hrel
    cases gk with
    | zero => exact absurd HA.out (by simp [QaS.l0])
    | succ k1 =>
     have H := HA.out
     clear HA
     simp only [QaS.l0] at H
     by_cases c16 : x31_1 < (t1022.length : Int)
     ·rw [if_pos c16] at H
      have c16b0 : decide (x31_1 < (t1022.length : Int)) = T := decide_eq_true c16
      clear c16
      (try simp only [c16b0])
      by_cases c17 : 0 ≤ x31_1
      ·rw [if_pos c17] at H
       have c17b0 : decide (0 ≤ x31_1) = T := decide_eq_true c17
       clear c17
       by_cases c18 : x31_1 < (t1022.length : Int)
       ·rw [if_pos c18] at H
        have c18b0 : decide (x31_1 < (t1022.length : Int)) = T := decide_eq_true c18
        clear c18
        replace H := Option.bind_eq_some_iff.mp H
        obtain ⟨⟨t1029, t1030, t1031, t1032, t1033, t1034, t1035⟩, A190, H⟩ := H
        replace H : (if t1035 = T then ((QaZ.f k1 t1029 t1030 t1031 t1032 t1033 t1034 ((Qaj t1022 x31_1).f2) l3).bind fun bt1037 => (if bt1037.2 = 0 then (if x10_1.length < 17592186044416 then (QaS.l0 k1 l2 l3 (x10_1 ++ [bt1037.1]) t1022 (t1022.length : Int) (wrap64 (x31_1 + 1))) else (none)) else (some (0, bt1037.2)))) else (some (0, 11))) = some (r1, r2) := H
        have A19 := Aside0.mk A190
        clear A190
        have p1027 : 0 ≤ (x31_1 : Int) := Ze
        have q1027 : x31_1 < (t1022.length : Int) := Ze
        obtain ⟨ad1027, e1027, hx1027_0, hx1027_1, hx1027_2, hx1027_3⟩ := QcK (Kd.R_reads' HO_29.out).2.2 x31_1 p1027 q1027
        cases e1027
        replace p1027 := eq_true p1027
        replace q1027 := eq_true q1027
        go_upto_if 43 with (first | ((with_reducible refine QaT (N := 12) rfl ?_); refine Zbx (N := 12) (cs := #[.string (⟨#[]⟩ : ByteArray), .string (⟨#[]⟩ : ByteArray), .string (⟨#[]⟩ : ByteArray), .int .i64 0]) (t := 346) ?_; intro gb1028 hg w20 hbox hb; have BK1028 := Aside0.mk (hbox); have GW1028 := Aside0.mk (Zt w hg (Zc1 GE1019.out)); have GE1028 := GW1028; have NB1019_1028 := Aside0.mk (Zn hg BK1019.out); have NB1028_1019 := Aside0.mk NB1019_1028.out.symm; replace HO_10 := Aside0.mk (Kd.R_below (Zr HO_10.out) hb); replace HO_29 := Aside0.mk (Kd.R_below (Kd.R_elderB (Zr HO_29.out) gb1028 (Nat.le_of_eq hg.symm)) hb); replace BK1019 := Aside0.mk (Zi BK1019.out hb); replace HB := Aside0.mk (Qap (Zc1 GE1019.out) hb); clear hb hbox hg; have hnb21 := NB1028_1019.out; have hnc21 := NB1019_1028.out; obtain ⟨hcz22_0, hfz22_0⟩ := Zy (v := (.string (⟨#[]⟩ : ByteArray))) BK1028.out 0; obtain ⟨hcz22_1, hfz22_1⟩ := Zy (v := (.string (⟨#[]⟩ : ByteArray))) BK1028.out 1; obtain ⟨hcz22_2, hfz22_2⟩ := Zy (v := (.string (⟨#[]⟩ : ByteArray))) BK1028.out 2; obtain ⟨hcz22_3, hfz22_3⟩ := Zy (v := (.int .i64 0)) BK1028.out 3) | ((with_reducible refine Qay (f := 41) rfl ?_); refine goesL_ (some 39) rfl rfl Try.func41 (by kernel_rfl) rfl #[.slice A2 l2.length c2, .string ((Qaj t1022 x31_1).f1)] rfl (Zl) ?_; (with_reducible refine (Qbb.calls k1 _ _ l2 ((Qaj t1022 x31_1).f1) t1029 t1030 t1031 t1032 t1033 t1034 t1035 _ ?side1 ?side2 A19.out).mono ?_); (case side1 => exact Kd.C_below HR2.out (Zc2 GE1019.out GE1028.out)); (case side2 => exact HC2.out); rintro e w23 ⟨rfl, hb⟩; refine ⟨_, rfl, ?_⟩; replace HO_10 := Aside0.mk (Kd.R_below (by (with_reducible repeat (first | apply Kd.R_alloc | apply Kd.R_drewN | apply Kd.R_drew)); exact (Kd.R_mono (Zf gb1028 3 (Zf gb1028 2 (Zf gb1028 1 (Zf gb1028 0 (Kd.R_types HO_10.out BK1028.out (by decide)) (.string ((Qaj t1022 x31_1).f0.f0))) (.string ((Qaj t1022 x31_1).f0.f1))) (.string ((Qaj t1022 x31_1).f1))) (.int .i64 ((Qaj t1022 x31_1).f2))) (fun _ h_ => h_.1))) hb); replace HO_29 := Aside0.mk (Kd.R_below (by (with_reducible repeat (first | apply Kd.R_alloc | apply Kd.R_drewN | apply Kd.R_drew)); exact (Kd.R_mono (Zf gb1028 3 (Zf gb1028 2 (Zf gb1028 1 (Zf gb1028 0 (Kd.R_mono HO_29.out (fun k_ hk => (⟨hk, hk.2⟩ : _ ∧ k_ ≠ gb1028))) (.string ((Qaj t1022 x31_1).f0.f0))) (.string ((Qaj t1022 x31_1).f0.f1))) (.string ((Qaj t1022 x31_1).f1))) (.int .i64 ((Qaj t1022 x31_1).f2))) (fun _ h_ => h_.1))) hb); replace BK1019 := Aside0.mk (Qam (g := gb1019) (o := .cells #[.string a1_0, .string a1_1] 81 (0, 0)) (Zg4 BK1019.out NB1019_1028.out NB1019_1028.out NB1019_1028.out NB1019_1028.out) hb); replace BK1028 := Aside0.mk (Zpi #[.string ((Qaj t1022 x31_1).f0.f0), .string ((Qaj t1022 x31_1).f0.f1), .string ((Qaj t1022 x31_1).f1), .int .i64 ((Qaj t1022 x31_1).f2)] BK1028.out hb); replace HB := Aside0.mk (Qap (Zc2 GE1019.out GE1028.out) hb); (try clear hb); (try clear hb2); (try clear hk); (try clear hi)) | ((with_reducible refine QaT (N := 13) rfl ?_); refine Zbx (N := 13) (cs := #[.string (⟨#[]⟩ : ByteArray), .int .i64 0, .int .i64 0, .int .i64 0, .int .i64 0, .int .i64 0]) (t := 112) ?_; intro gb1036 hg w24 hbox hb; have BK1036 := Aside0.mk (hbox); have GW1036 := Aside0.mk (Zt w hg (Zc2 GE1019.out GE1028.out)); have GE1036 := GW1036; have NB1019_1036 := Aside0.mk (Zn hg BK1019.out); have NB1036_1019 := Aside0.mk NB1019_1036.out.symm; have NB1028_1036 := Aside0.mk (Zn hg BK1028.out); have NB1036_1028 := Aside0.mk NB1028_1036.out.symm; replace HO_10 := Aside0.mk (Kd.R_below (Zr HO_10.out) hb); replace HO_29 := Aside0.mk (Kd.R_below (Zr HO_29.out) hb); replace BK1019 := Aside0.mk (Zi BK1019.out hb); replace BK1028 := Aside0.mk (Zi BK1028.out hb); replace HB := Aside0.mk (Qap (Zc2 GE1019.out GE1028.out) hb); clear hb hbox hg; have hnb25 := NB1036_1019.out; have hnc25 := NB1019_1036.out; have hnb26 := NB1036_1028.out; have hnc26 := NB1028_1036.out; obtain ⟨hcz27_0, hfz27_0⟩ := Zy (v := (.string (⟨#[]⟩ : ByteArray))) BK1036.out 0; obtain ⟨hcz27_1, hfz27_1⟩ := Zy (v := (.int .i64 0)) BK1036.out 1; obtain ⟨hcz27_2, hfz27_2⟩ := Zy (v := (.int .i64 0)) BK1036.out 2; obtain ⟨hcz27_3, hfz27_3⟩ := Zy (v := (.int .i64 0)) BK1036.out 3; obtain ⟨hcz27_4, hfz27_4⟩ := Zy (v := (.int .i64 0)) BK1036.out 4; obtain ⟨hcz27_5, hfz27_5⟩ := Zy (v := (.int .i64 0)) BK1036.out 5))
        (try simp only [Act.put, Zj, Zk, Zm])
        by_cases c28 : t1035 = T
        ·subst c28
         have H1 : ((QaZ.f k1 t1029 t1030 t1031 t1032 t1033 t1034 ((Qaj t1022 x31_1).f2) l3).bind fun bt1037 => (if bt1037.2 = 0 then (if x10_1.length < 17592186044416 then (QaS.l0 k1 l2 l3 (x10_1 ++ [bt1037.1]) t1022 (t1022.length : Int) (wrap64 (x31_1 + 1))) else (none)) else (some (0, bt1037.2)))) = some (r1, r2) := by rw [if_pos rfl] at H; exact H
         clear H
         have H := H1
         clear H1
         replace H := Option.bind_eq_some_iff.mp H
         obtain ⟨⟨t1037, t1038⟩, A290, H⟩ := H
         replace H : (if t1038 = 0 then (if x10_1.length < 17592186044416 then (QaS.l0 k1 l2 l3 (x10_1 ++ [t1037]) t1022 (t1022.length : Int) (wrap64 (x31_1 + 1))) else (none)) else (some (0, t1038))) = some (r1, r2) := H
         have A29 := Aside0.mk A290
         clear A290
         have hnb30 := NB1036_1019.out
         have hnc30 := NB1019_1036.out
         have hnb31 := NB1036_1028.out
         have hnc31 := NB1028_1036.out
         obtain ⟨hcz32_0, hfz32_0⟩ := Zy (v := (.string (⟨#[]⟩ : ByteArray))) BK1036.out 0
         obtain ⟨hcz32_1, hfz32_1⟩ := Zy (v := (.int .i64 0)) BK1036.out 1
         obtain ⟨hcz32_2, hfz32_2⟩ := Zy (v := (.int .i64 0)) BK1036.out 2
         obtain ⟨hcz32_3, hfz32_3⟩ := Zy (v := (.int .i64 0)) BK1036.out 3
         obtain ⟨hcz32_4, hfz32_4⟩ := Zy (v := (.int .i64 0)) BK1036.out 4
         obtain ⟨hcz32_5, hfz32_5⟩ := Zy (v := (.int .i64 0)) BK1036.out 5
         have hnb33 := NB1028_1019.out
         have hnc33 := NB1019_1028.out
         obtain ⟨hcz34_0, hfz34_0⟩ := Zy (v := (.string ((Qaj t1022 x31_1).f0.f0))) BK1028.out 0
         obtain ⟨hcz34_1, hfz34_1⟩ := Zy (v := (.string ((Qaj t1022 x31_1).f0.f1))) BK1028.out 1
         obtain ⟨hcz34_2, hfz34_2⟩ := Zy (v := (.string ((Qaj t1022 x31_1).f1))) BK1028.out 2
         obtain ⟨hcz34_3, hfz34_3⟩ := Zy (v := (.int .i64 ((Qaj t1022 x31_1).f2))) BK1028.out 3
         go_upto_if 53 with (first | ((with_reducible refine Qay (f := 44) rfl ?_); refine goesL_ (some 49) rfl rfl Try.func44 (by kernel_rfl) rfl #[.agg #[.string t1029, .int .i64 t1030, .int .i64 t1031, .int .i64 t1032, .int .i64 t1033, .int .i64 t1034], .int .i64 ((Qaj t1022 x31_1).f2), .slice A3 l3.length c3] rfl (Zl) ?_; (with_reducible refine (QaZ.calls k1 t1029 t1030 t1031 t1032 t1033 t1034 ((Qaj t1022 x31_1).f2) _ _ l3 t1037 t1038 _ ?side1 ?side2 A29.out).mono ?_); (case side1 => exact Kd.C_below HR3.out (Zc3 GE1019.out GE1028.out GE1036.out)); (case side2 => exact HC3.out); rintro e w35 ⟨rfl, hb⟩; refine ⟨_, rfl, ?_⟩; replace HO_10 := Aside0.mk (Kd.R_below (by (with_reducible repeat (first | apply Kd.R_alloc | apply Kd.R_drewN | apply Kd.R_drew)); exact (Kd.R_mono (Zf gb1036 5 (Zf gb1036 4 (Zf gb1036 3 (Zf gb1036 2 (Zf gb1036 1 (Zf gb1036 0 (Kd.R_types HO_10.out BK1036.out (by decide)) (.string t1029)) (.int .i64 t1030)) (.int .i64 t1031)) (.int .i64 t1032)) (.int .i64 t1033)) (.int .i64 t1034)) (fun _ h_ => h_.1))) hb); replace HO_29 := Aside0.mk (Kd.R_below (by (with_reducible repeat (first | apply Kd.R_alloc | apply Kd.R_drewN | apply Kd.R_drew)); exact (Kd.R_mono (Zf gb1036 5 (Zf gb1036 4 (Zf gb1036 3 (Zf gb1036 2 (Zf gb1036 1 (Zf gb1036 0 (Kd.R_types HO_29.out BK1036.out (by decide)) (.string t1029)) (.int .i64 t1030)) (.int .i64 t1031)) (.int .i64 t1032)) (.int .i64 t1033)) (.int .i64 t1034)) (fun _ h_ => h_.1))) hb); replace BK1019 := Aside0.mk (Qam (g := gb1019) (o := .cells #[.string a1_0, .string a1_1] 81 (0, 0)) (Zg6 BK1019.out NB1019_1036.out NB1019_1036.out NB1019_1036.out NB1019_1036.out NB1019_1036.out NB1019_1036.out) hb); replace BK1028 := Aside0.mk (Qam (g := gb1028) (o := .cells #[.string ((Qaj t1022 x31_1).f0.f0), .string ((Qaj t1022 x31_1).f0.f1), .string ((Qaj t1022 x31_1).f1), .int .i64 ((Qaj t1022 x31_1).f2)] 346 (0, 0)) (Zg6 BK1028.out NB1028_1036.out NB1028_1036.out NB1028_1036.out NB1028_1036.out NB1028_1036.out NB1028_1036.out) hb); replace BK1036 := Aside0.mk (Zpi #[.string t1029, .int .i64 t1030, .int .i64 t1031, .int .i64 t1032, .int .i64 t1033, .int .i64 t1034] BK1036.out hb); replace HB := Aside0.mk (Qap (Zc3 GE1019.out GE1028.out GE1036.out) hb); (try clear hb); (try clear hb2); (try clear hk); (try clear hi)))
         (try simp only [Act.put, Zj, Zk, Zm])
         by_cases c36 : t1038 = 0
         ·rw [if_pos c36] at H
          have c36b0 : (t1038 == 0) = T := beq_iff_eq.mpr c36
          have c36b1 : (t1038 != 0) = F := bne_eq_false_iff_eq.mpr c36
          clear c36
          (try simp only [c36b0, c36b1])
          by_cases c37 : x10_1.length < 17592186044416
          ·rw [if_pos c37] at H
           have LMc37 := Aside0.mk c37
           clear c37
           obtain ⟨y1039, hy1039⟩ : ∃ y_ : List Int, y_ = (x10_1 ++ [t1037]) := ⟨_, rfl⟩
           replace H : (QaS.l0 k1 l2 l3 y1039 t1022 (t1022.length : Int) (wrap64 (x31_1 + 1))) = some (r1, r2) := by first | (rw [hy1039]; with_reducible exact H) | (have H2_ := (Option.bind_some _ _).symm.trans H; rw [hy1039]; with_reducible exact H2_) | (have H2_ := (Option.bind_some _ _).symm.trans H; with_reducible exact H2_) | with_reducible exact H | (rw [hy1039]; exact H) | exact H
           have Ny1039 := Aside0.mk hy1039
           clear hy1039
           have H' := Aside0.mk H
           clear H
           go_wp2_with (first | ((with_reducible refine QbK (b := .append) (xs := #[.tmp 55, .tmp 57]) rfl ?_); at_builtin; refine Kd.R_append (Kd.int .i64) (w0 := w) w.heap.size rfl (.tmp 55) (.tmp 57) 32 3 (.int .i64 0) 8 rfl Try.underlying32 info3 rfl (by decide) (by omega) u10 x10_1 t1037 [.int .i64 t1037] (fun _ => True) (fun _ => False) rfl rfl ?aP (fun _ hk => hk.elim) ?aF ?aO ?aB ?aS ?aL ?_; (case aP => exact rfl); (case aB => exact (Zc3 GE1019.out GE1028.out GE1036.out)); (case aF => exact (fun _ _ => trivial)); (case aO => exact (Zr HO_10.out)); (case aS => exact (Qar (Zc3 GE1019.out GE1028.out GE1036.out))); (case aL => have := LMc37.out; omega); intro v1040 w38 ho hb hg hat; rw [← Ny1039.out] at ho; have HO1041 := Aside0.mk (ho); replace HO_29 := Aside0.mk (Kd.R_over' (Zr HO_29.out) (Kd.R_typed (Zr HO_10.out)) (by decide) hg); replace BK1019 := Aside0.mk (Qa7 (g := gb1019) (o := .cells #[.string a1_0, .string a1_1] 81 (0, 0)) (Zu BK1019.out) hg (Kd.R_ne HO_10.out BK1019.out (by decide))); replace BK1028 := Aside0.mk (Qa7 (g := gb1028) (o := .cells #[.string ((Qaj t1022 x31_1).f0.f0), .string ((Qaj t1022 x31_1).f0.f1), .string ((Qaj t1022 x31_1).f1), .int .i64 ((Qaj t1022 x31_1).f2)] 346 (0, 0)) (Zu BK1028.out) hg (Kd.R_ne HO_10.out BK1028.out (by decide))); replace BK1036 := Aside0.mk (Qa7 (g := gb1036) (o := .cells #[.string t1029, .int .i64 t1030, .int .i64 t1031, .int .i64 t1032, .int .i64 t1033, .int .i64 t1034] 112 (0, 0)) (Zu BK1036.out) hg (Kd.R_ne HO_10.out BK1036.out (by decide))); replace HB := Aside0.mk (hb); clear HO_10; clear ho hb hg hat))
           go_roundg k1
           case measure => have := HK1.out; omega
           case rel => exact ⟨(y1039), (wrap64 (x31_1 + 1)), (Zs), H', ⟨by have := HK1.out; omega⟩, ⟨Zr HO1041.out⟩, ⟨by (with_reducible repeat (first | apply Kd.R_alloc | apply Kd.R_drewN | apply Kd.R_drew)); exact Kd.R_mono HO_29.out (fun _ hk => trivial)⟩, ⟨Zu BK1019.out⟩, ⟨Zc3 GE1019.out GE1028.out GE1036.out⟩⟩
          rw [if_neg c37] at H
          exact absurd H (by simp)
         rw [if_neg c36] at H
         have c36b0 : (t1038 == 0) = F := beq_eq_false_iff_ne.mpr c36
         have c36b1 : (t1038 != 0) = T := bne_iff_ne.mpr c36
         (try simp only [c36b0, c36b1])
         simp only [Option.some.injEq, Prod.mk.injEq] at H
         obtain ⟨rfl, rfl⟩ := H
         go_wp2
         go_ret2
         exact ⟨Zq, Zc3 GE1019.out GE1028.out GE1036.out⟩
        replace c28 := Bool.eq_false_iff.mpr c28
        subst c28
        have H1 : (some (0, 11)) = some (r1, r2) := by rw [if_neg (show ¬ (F = T) by decide)] at H; exact H
        clear H
        have H := H1
        clear H1
        simp only [Option.some.injEq, Prod.mk.injEq] at H
        obtain ⟨rfl, rfl⟩ := H
        go_wp2
        go_ret2
        exact ⟨Zq, Zc3 GE1019.out GE1028.out GE1036.out⟩
       rw [if_neg c18] at H
       exact absurd H (by simp)
      rw [if_neg c17] at H
      exact absurd H (by simp)
     rw [if_neg c16] at H
     have c16b0 : decide (x31_1 < (t1022.length : Int)) = F := decide_eq_false c16
     clear c16
     (try simp only [c16b0])
     replace H := Option.bind_eq_some_iff.mp H
     obtain ⟨⟨t1025, t1026⟩, A390, H⟩ := H
     replace H : (some (t1025, t1026)) = some (r1, r2) := H
     have A39 := Aside0.mk A390
     clear A390
     simp only [Option.some.injEq, Prod.mk.injEq] at H
     obtain ⟨rfl, rfl⟩ := H
     obtain ⟨Ao40, co40, eo40⟩ := Kd.R_slice HO_10.out
     subst eo40
     go_wp2_with (first | ((with_reducible refine Qay (f := 56) rfl ?_); refine goesL_ (some 61) rfl rfl Try.func56 (by kernel_rfl) rfl #[.slice Ao40 x10_1.length co40] rfl (Zl) ?_; (with_reducible refine (Qa1.calls k1 _ _ x10_1 t1025 t1026 _ ?side1 ?side2 A39.out).mono ?_); (case side1 => exact Zv (Kd.R_reads' HO_10.out).2.2); (case side2 => exact (Kd.R_reads' HO_10.out).2.1); rintro e w' ⟨rfl, ⟨nd, rfl⟩⟩; refine ⟨_, rfl, ?_⟩))
     go_ret2
     exact ⟨Zq, Zc1 GE1019.out⟩
  rw [if_neg c11] at H
  have c11b0 : (t1021 == 0) = F := beq_eq_false_iff_ne.mpr c11
  have c11b1 : (t1021 != 0) = T := bne_iff_ne.mpr c11
  (try simp only [c11b0, c11b1])
  simp only [Option.some.injEq, Prod.mk.injEq] at H
  obtain ⟨rfl, rfl⟩ := H
  go_wp2
  go_ret2
  exact ⟨Zq, Zc1 GE1019.out⟩
 rw [if_neg c8] at H
 have c8b0 : (t1020 == 0) = F := beq_eq_false_iff_ne.mpr c8
 have c8b1 : (t1020 != 0) = T := bne_iff_ne.mpr c8
 (try simp only [c8b0, c8b1])
 simp only [Option.some.injEq, Prod.mk.injEq] at H
 obtain ⟨rfl, rfl⟩ := H
 go_wp2
 go_ret2
 exact ⟨Zq, Zc1 GE1019.out⟩
set_option maxHeartbeats 8000000 in
theorem QcW.calls (k : Nat) (ba br bn : Nat) (s : ByteArray) (a1 a2 a3 a4 a5 n qty m e : Int) (A : Option Addr) (c : Nat) (l : List S279) (w : World)
  (ha : Aside0 (w.heap[ba]? = some (.cells #[.string s, .int .i64 a1, .int .i64 a2, .int .i64 a3, .int .i64 a4, .int .i64 a5] 112 (0, 0)))) (hr : Aside0 (w.heap[br]? = some (.cells #[.slice A l.length c] 104 (0, 0)))) (hn : Aside0 (w.heap[bn]? = some (.cells #[.int .i64 n] 3 (0, 0))))
  (hC : Aside0 (Kd.C k279 w A l.length l)) (hc : Aside0 (l.length ≤ c)) (hw : Aside0 (QaZ.f k s a1 a2 a3 a4 a5 qty l = some (m, e))) :
  Calls Try.prog 114 #[.int .i64 qty, .pointer (some ⟨ba, 0, none⟩), .pointer (some ⟨br, 0, none⟩), .pointer (some ⟨bn, 0, none⟩)] w fun en w' => en = .returned (.bool (decide (e ≠ 0) || decide (n ≤ m))) ∧ Below w.heap.size w w' := by
 have hu23 := Try.underlying112
 have la : ba < w.heap.size := blk_lt ha.out
 have lr : br < w.heap.size := blk_lt hr.out
 have ln : bn < w.heap.size := blk_lt hn.out
 have c0' : w.cell? ⟨ba, 0, none⟩ = some (.string s) := (Qaf ha.out 0).trans rfl
 have c1' : w.cell? ⟨ba, 1, none⟩ = some (.int .i64 a1) := (Qaf ha.out 1).trans rfl
 have c2' : w.cell? ⟨ba, 2, none⟩ = some (.int .i64 a2) := (Qaf ha.out 2).trans rfl
 have c3' : w.cell? ⟨ba, 3, none⟩ = some (.int .i64 a3) := (Qaf ha.out 3).trans rfl
 have c4' : w.cell? ⟨ba, 4, none⟩ = some (.int .i64 a4) := (Qaf ha.out 4).trans rfl
 have c5' : w.cell? ⟨ba, 5, none⟩ = some (.int .i64 a5) := (Qaf ha.out 5).trans rfl
 have cr' : w.cell? ⟨br, 0, none⟩ = some (.slice A l.length c) := (Qaf hr.out 0).trans rfl
 go_enter Try.func114, Try.ntmps114
 go_wp2_with fail
 refine (QaZ.calls k s a1 a2 a3 a4 a5 qty A c l m e _ (Kd.C_below hC.out ?_) hc.out hw.out).mono ?_
 ·repeat (first | exact Below.refl _ _ | apply Qag | apply Qaa | apply Qbg)
 rintro en w1 ⟨rfl, hb⟩
 have HB := Aside0.mk (QbR (by repeat (first | exact Below.refl _ _ | apply Qag | apply Qaa | apply Qbg)) (Nat.le_refl _) hb)
 have hnn := (hb.block bn (by first | omega | (simp; omega))).trans (by first | exact hn.out | (simp; exact hn.out))
 have cn' : w1.cell? ⟨bn, 0, none⟩ = some (.int .i64 n) := (Qaf hnn 0).trans rfl
 have ln1 : bn < w1.heap.size := blk_lt hnn
 clear hb hnn
 by_cases he : e = 0
 ·subst he
  by_cases hm : n ≤ m
  ·go_wp2
   go_ret
   exact ⟨by simp [hm], by repeat (first | exact HB.out | apply Qag | apply Qaa | apply Qbg)⟩
  have hm' : m < n := by omega
  go_wp2
  go_ret
  exact ⟨by simp [hm], by repeat (first | exact HB.out | apply Qag | apply Qaa | apply Qbg)⟩
 go_wp2
 go_ret
 exact ⟨by simp [he], by repeat (first | exact HB.out | apply Qag | apply Qaa | apply Qbg)⟩
def Qa8.l0 : Nat → ByteArray → Int → Int → Int → Int → Int → Int → List S279 → Int → Int → Option Int
 | 0, _, _, _, _, _, _, _, _, _, _ => none
 | k + 1, s, a1, a2, a3, a4, a5, n, l, lo, hi => if lo < hi then (QaZ.f k s a1 a2 a3 a4 a5 (wrap64 (lo + (wrap64 (Int.tdiv (wrap64 (hi - lo)) 2)))) l).bind fun t => if t.2 ≠ 0 ∨ n ≤ t.1 then Qa8.l0 k s a1 a2 a3 a4 a5 n l lo (wrap64 (lo + (wrap64 (Int.tdiv (wrap64 (hi - lo)) 2)))) else Qa8.l0 k s a1 a2 a3 a4 a5 n l (wrap64 ((wrap64 (lo + (wrap64 (Int.tdiv (wrap64 (hi - lo)) 2)))) + 1)) hi else some lo
theorem Qa8.mono_l : ∀ k s a1 a2 a3 a4 a5 n l lo hi, LeO (Qa8.l0 k s a1 a2 a3 a4 a5 n l lo hi) (Qa8.l0 (k + 1) s a1 a2 a3 a4 a5 n l lo hi)
 | 0 => fun _ _ _ _ _ _ _ _ _ _ r h => by simp [Qa8.l0] at h
 | k + 1 => by
  intro s a1 a2 a3 a4 a5 n l lo hi
  have ih := Qa8.mono_l k
  rw [Qa8.l0, Qa8.l0]
  refine LeO.ite (LeO.bind (QaZ.mono _ _ _ _ _ _ _ _ _) fun _ => LeO.ite (ih _ _ _ _ _ _ _ _ _ _) (ih _ _ _ _ _ _ _ _ _ _)) (LeO.refl _)
def Qa8.f (k : Nat) (s : ByteArray) (a1 a2 a3 a4 a5 n : Int) (l : List S279) : Option (Int × Int) :=
 (QaG.f k s a1 a2 a3 a4 a5).bind fun t => if t = 0 then
  (QaY.f k l).bind fun u => if u = 0 then
   if a2 ≥ (l.length : Int) then some (0, 25) else
    (QbG.f n).bind fun b => if b = T then
     if a4 = 1000 then some (0, 4) else
      (Qa8.l0 k s a1 a2 a3 a4 a5 n l 0 1152921504606846976).bind fun low => (QaZ.f k s a1 a2 a3 a4 a5 low l).bind fun t => if t.2 ≠ 0 ∨ t.1 < n then some (0, 3) else some (low, 0)
    else some (0, 2)
  else some (0, u)
 else some (0, t)
theorem Qa8.mono : ∀ s a1 a2 a3 a4 a5 n l k, LeO (Qa8.f k s a1 a2 a3 a4 a5 n l) (Qa8.f (k + 1) s a1 a2 a3 a4 a5 n l) := by
 intro s a1 a2 a3 a4 a5 n l k
 unfold Qa8.f
 refine LeO.bind (QaG.mono _ _ _ _ _ _ _) fun _ => LeO.ite (LeO.bind (QaY.mono _ _) fun _ => LeO.ite (LeO.ite (LeO.refl _) (LeO.bind (LeO.refl _) fun _ => LeO.ite (LeO.ite (LeO.refl _) (LeO.bind (Qa8.mono_l _ _ _ _ _ _ _ _ _ _ _) fun _ => LeO.bind (QaZ.mono _ _ _ _ _ _ _ _ _) fun _ => LeO.refl _)) (LeO.refl _))) (LeO.refl _)) (LeO.refl _)
set_option maxHeartbeats 8000000 in
theorem Qa8.calls (k : Nat) (s : ByteArray) (a1 a2 a3 a4 a5 n : Int) (A2 : Option Addr) (c2 : Nat) (l2 : List S279) (r1 r2 : Int) (w : World) (hr2 : Kd.C k279 w A2 l2.length l2) (hc2 : l2.length ≤ c2) (h : Qa8.f k s a1 a2 a3 a4 a5 n l2 = some (r1, r2)) :
  Calls Try.prog 42 #[.agg #[.string s, .int .i64 a1, .int .i64 a2, .int .i64 a3, .int .i64 a4, .int .i64 a5], .int .i64 n, .slice A2 l2.length c2] w fun e w' => e = .returned (.tuple #[.int .i64 r1, .int .i64 r2]) ∧ Below w.heap.size w w' := by
 have hu23 := Try.underlying112
 have HR := Aside0.mk hr2
 have HC := Aside0.mk hc2
 clear hr2 hc2
 obtain ⟨t, ht, h⟩ := Option.bind_eq_some_iff.1 h
 have HT := Aside0.mk ht
 clear ht
 go_enter Try.func42, Try.ntmps42
 go_wp2_with fail
 refine (QaG.calls k s a1 a2 a3 a4 a5 t _ HT.out).mono ?_
 rintro e w1 ⟨rfl, hb⟩
 have HA := Aside0.mk (show w1.heap[w.heap.size]? = some (.cells #[.string s, .int .i64 a1, .int .i64 a2, .int .i64 a3, .int .i64 a4, .int .i64 a5] 112 (0, 0)) from (hb.block _ (by first | (simp; done) | (simp; omega) | omega)).trans (Qab (Qab (heap_alloc_new w _) _) _))
 have HN := Aside0.mk (show w1.heap[w.heap.size + 1]? = some (.cells #[.int .i64 n] 3 (0, 0)) from (hb.block _ (by first | (simp; done) | (simp; omega) | omega)).trans (Qab (by simpa using heap_alloc_new (w.alloc (.cells #[.string s, .int .i64 a1, .int .i64 a2, .int .i64 a3, .int .i64 a4, .int .i64 a5] 112 (0, 0))) (.cells #[.int .i64 n] 3 (0, 0))) _))
 have HS := Aside0.mk (show w1.heap[w.heap.size + 2]? = some (.cells #[.slice A2 l2.length c2] 104 (0, 0)) from (hb.block _ (by first | (simp; done) | (simp; omega) | omega)).trans (by simpa using heap_alloc_new ((w.alloc (.cells #[.string s, .int .i64 a1, .int .i64 a2, .int .i64 a3, .int .i64 a4, .int .i64 a5] 112 (0, 0))).alloc (.cells #[.int .i64 n] 3 (0, 0))) (.cells #[.slice A2 l2.length c2] 104 (0, 0))))
 have HB := Aside0.mk ((Qag (Qag (Qag (Below.refl w.heap.size w) _) _) _).trans (hb.mono (by first | (simp; done) | (simp; omega) | omega)))
 clear hb
 by_cases ht0 : t = 0
 ·subst ht0
  simp only [if_true] at h
  obtain ⟨u, hu, h⟩ := Option.bind_eq_some_iff.1 h
  have HU := Aside0.mk hu
  clear hu
  have ls1 : w.heap.size + 2 < w1.heap.size := blk_lt HS.out
  have cs1 : w1.cell? ⟨w.heap.size + 2, 0, none⟩ = some (.slice A2 l2.length c2) := (Qaf HS.out 0).trans rfl
  go_wp2_with fail
  refine (QaY.calls k A2 c2 l2 u _ (Kd.C_below HR.out ?_) HC.out HU.out).mono ?_
  ·repeat (first | exact HB.out | apply Qag | apply Qaa | apply Qbg)
  rintro e w2 ⟨rfl, hb⟩
  have hA := (hb.block w.heap.size (by first | omega | (simp; omega))).trans (by first | exact HA.out | (simp; exact HA.out))
  have hN := (hb.block (w.heap.size + 1) (by first | omega | (simp; omega))).trans (by first | exact HN.out | (simp; exact HN.out))
  have hS := (hb.block (w.heap.size + 2) (by first | omega | (simp; omega))).trans (by first | exact HS.out | (simp; exact HS.out))
  have hB := HB.out.trans (hb.mono (by omega))
  clear HA HN HS HB hb ls1 cs1
  have HA := Aside0.mk hA
  have HN := Aside0.mk hN
  have HS := Aside0.mk hS
  have HB := Aside0.mk hB
  clear hA hN hS hB
  by_cases hu0 : u = 0
  ·subst hu0
   simp only [if_true] at h
   have ls : w.heap.size + 2 < w2.heap.size := blk_lt HS.out
   have cs' : w2.cell? ⟨w.heap.size + 2, 0, none⟩ = some (.slice A2 l2.length c2) := (Qaf HS.out 0).trans rfl
   have ln : w.heap.size + 1 < w2.heap.size := by omega
   have cn' : w2.cell? ⟨w.heap.size + 1, 0, none⟩ = some (.int .i64 n) := (Qaf HN.out 0).trans rfl
   have la : w.heap.size < w2.heap.size := by omega
   have c2' : w2.cell? ⟨w.heap.size, 2, none⟩ = some (.int .i64 a2) := (Qaf HA.out 2).trans rfl
   have c4' : w2.cell? ⟨w.heap.size, 4, none⟩ = some (.int .i64 a4) := (Qaf HA.out 4).trans rfl
   by_cases hcu : a2 ≥ (l2.length : Int)
   ·rw [if_pos hcu] at h
    obtain ⟨rfl, rfl⟩ : (0 : Int) = r1 ∧ (25 : Int) = r2 := by simpa using h
    have hcu' : (l2.length : Int) ≤ a2 := hcu
    go_wp2
    go_ret2
    exact ⟨rfl, by repeat (first | exact HB.out | apply Qag | apply Qaa | apply Qbg)⟩
   rw [if_neg hcu] at h
   have hcu' : a2 < (l2.length : Int) := by omega
   obtain ⟨b, hb, h⟩ := Option.bind_eq_some_iff.1 h
   have HM := Aside0.mk hb
   clear hb
   cases b with
   | false =>
    obtain ⟨rfl, rfl⟩ : (0 : Int) = r1 ∧ (2 : Int) = r2 := by simpa using h
    go_wp2_with (first | (go_at_call 113; (with_reducible refine (QbG.calls n _ _ HM.out).mono ?_); rintro e w' ⟨rfl, ⟨nd, rfl⟩⟩))
    go_ret2
    exact ⟨rfl, by repeat (first | exact HB.out | apply Qag | apply Qaa | apply Qbg)⟩
   | true =>
    simp only [if_true] at h
    by_cases h4 : a4 = 1000
    ·rw [if_pos h4] at h
     obtain ⟨rfl, rfl⟩ : (0 : Int) = r1 ∧ (4 : Int) = r2 := by simpa using h
     have h4b : (a4 == 1000) = T := beq_iff_eq.2 h4
     go_wp2_with (first | (go_at_call 113; (with_reducible refine (QbG.calls n _ _ HM.out).mono ?_); rintro e w' ⟨rfl, ⟨nd, rfl⟩⟩))
     go_ret2
     exact ⟨rfl, by repeat (first | exact HB.out | apply Qag | apply Qaa | apply Qbg)⟩
    rw [if_neg h4] at h
    have h4b : (a4 == 1000) = F := beq_eq_false_iff_ne.2 h4
    obtain ⟨low, hlow, h⟩ := Option.bind_eq_some_iff.1 h
    have H' := Aside0.mk hlow
    clear hlow
    obtain ⟨⟨m1, m2⟩, hm, h⟩ := Option.bind_eq_some_iff.1 h
    have HE := Aside0.mk hm
    have HZ := Aside0.mk h
    clear hm h
    go_wp2_with (first | (go_at_call 113; (with_reducible refine (QbG.calls n _ _ HM.out).mono ?_); rintro e w' ⟨rfl, ⟨nd, rfl⟩⟩))
    go_loopg [11, 12] k (fun kq v11 v12 w' => ∃ (lo hi : Int), v11 = .int .i64 lo ∧ v12 = .int .i64 hi ∧ Aside0 (Qa8.l0 kq s a1 a2 a3 a4 a5 n l2 lo hi = some low) ∧ Aside0 (kq ≤ k) ∧ Aside0 (w'.heap[w.heap.size]? = some (.cells #[.string s, .int .i64 a1, .int .i64 a2, .int .i64 a3, .int .i64 a4, .int .i64 a5] 112 (0, 0))) ∧ Aside0 (w'.heap[w.heap.size + 1]? = some (.cells #[.int .i64 n] 3 (0, 0))) ∧ Aside0 (w'.heap[w.heap.size + 2]? = some (.cells #[.slice A2 l2.length c2] 104 (0, 0))) ∧ Aside0 (Below w.heap.size w w'))
    case atStart => exact ⟨0, 1152921504606846976, rfl, rfl, H', ⟨Nat.le_refl _⟩, ⟨by (with_reducible repeat (first | refine Qac ?_ _ | refine Qad ?_ | refine Qab ?_ _)); exact HA.out⟩, ⟨by (with_reducible repeat (first | refine Qac ?_ _ | refine Qad ?_ | refine Qab ?_ _)); exact HN.out⟩, ⟨by (with_reducible repeat (first | refine Qac ?_ _ | refine Qad ?_ | refine Qab ?_ _)); exact HS.out⟩, ⟨by repeat (first | exact HB.out | apply Qag | apply Qaa | apply Qbg)⟩⟩
    case round =>
     clear H' HA HN HS HB ls cs' ln cn' la c2' c4'
     obtain ⟨lo, hi, rfl, rfl, HL, HK1, HA, HN, HS, HB⟩ := hrel
     have ls : w.heap.size + 2 < wr.heap.size := blk_lt HS.out
     cases gk with
     | zero => exact absurd HL.out (by simp [Qa8.l0])
     | succ k1 =>
      have H := HL.out
      clear HL
      simp only [Qa8.l0] at H
      by_cases c3 : lo < hi
      ·rw [if_pos c3] at H
       have c3b0 : decide (lo < hi) = T := decide_eq_true c3
       obtain ⟨md, hmd⟩ : ∃ j : Int, wrap64 (lo + (wrap64 (Int.tdiv (wrap64 (hi - lo)) 2))) = j := ⟨_, rfl⟩
       rw [hmd] at H
       obtain ⟨⟨t1, t2⟩, hT, H⟩ := Option.bind_eq_some_iff.1 H
       have HW := Aside0.mk hT
       have hmdw : IntKind.i64.wrap (lo + (wrap64 (Int.tdiv (wrap64 (hi - lo)) 2))) = md := (i64_w _).trans hmd
       clear hT
       by_cases ct : t2 ≠ 0 ∨ n ≤ t1
       ·rw [if_pos ct] at H
        have H' := Aside0.mk H
        clear H
        have hbv : (decide (t2 ≠ 0) || decide (n ≤ t1)) = T := by simpa using ct
        go_wp2_with (first | (go_at_call 114; refine (QcW.calls k1 w.heap.size (w.heap.size + 2) (w.heap.size + 1) s a1 a2 a3 a4 a5 n md t1 t2 A2 c2 l2 _ ⟨by (with_reducible repeat (first | refine Qac ?_ _ | refine Qad ?_ | refine Qab ?_ _)); exact HA.out⟩ ⟨by (with_reducible repeat (first | refine Qac ?_ _ | refine Qad ?_ | refine Qab ?_ _)); exact HS.out⟩ ⟨by (with_reducible repeat (first | refine Qac ?_ _ | refine Qad ?_ | refine Qab ?_ _)); exact HN.out⟩ ⟨Kd.C_below HR.out (by repeat (first | exact HB.out | apply Qag | apply Qaa | apply Qbg))⟩ HC HW).mono ?_; rintro en wx ⟨hen, hb⟩; rw [hbv] at hen; subst hen; have hA := (hb.block w.heap.size (by first | (simp; done) | (simp; omega) | omega)).trans (by first | exact HA.out | (simp; exact HA.out)); have hN := (hb.block (w.heap.size + 1) (by first | (simp; done) | (simp; omega) | omega)).trans (by first | exact HN.out | (simp; exact HN.out)); have hS := (hb.block (w.heap.size + 2) (by first | (simp; done) | (simp; omega) | omega)).trans (by first | exact HS.out | (simp; exact HS.out)); have hB := QbR (by repeat (first | exact HB.out | apply Qag | apply Qaa | apply Qbg)) (by first | (simp; done) | (simp; omega) | omega) hb; clear HA HN HS HB hb; have HA := Aside0.mk hA; have HN := Aside0.mk hN; have HS := Aside0.mk hS; have HB := Aside0.mk hB; clear hA hN hS hB))
        go_roundg k1
        case measure => have := HK1.out; omega
        case rel => exact ⟨lo, md, (Zs), (Zs), H', ⟨by have := HK1.out; omega⟩, ⟨by (with_reducible repeat (first | refine Qac ?_ _ | refine Qad ?_ | refine Qab ?_ _)); exact HA.out⟩, ⟨by (with_reducible repeat (first | refine Qac ?_ _ | refine Qad ?_ | refine Qab ?_ _)); exact HN.out⟩, ⟨by (with_reducible repeat (first | refine Qac ?_ _ | refine Qad ?_ | refine Qab ?_ _)); exact HS.out⟩, ⟨by repeat (first | exact HB.out | apply Qag | apply Qaa | apply Qbg)⟩⟩
       rw [if_neg ct] at H
       have H' := Aside0.mk H
       clear H
       have hbv : (decide (t2 ≠ 0) || decide (n ≤ t1)) = F := by
        have := not_or.1 ct
        simp only [Bool.or_eq_false_iff, decide_eq_false_iff_not]
        exact this
       go_wp2_with (first | (go_at_call 114; refine (QcW.calls k1 w.heap.size (w.heap.size + 2) (w.heap.size + 1) s a1 a2 a3 a4 a5 n md t1 t2 A2 c2 l2 _ ⟨by (with_reducible repeat (first | refine Qac ?_ _ | refine Qad ?_ | refine Qab ?_ _)); exact HA.out⟩ ⟨by (with_reducible repeat (first | refine Qac ?_ _ | refine Qad ?_ | refine Qab ?_ _)); exact HS.out⟩ ⟨by (with_reducible repeat (first | refine Qac ?_ _ | refine Qad ?_ | refine Qab ?_ _)); exact HN.out⟩ ⟨Kd.C_below HR.out (by repeat (first | exact HB.out | apply Qag | apply Qaa | apply Qbg))⟩ HC HW).mono ?_; rintro en wx ⟨hen, hb⟩; rw [hbv] at hen; subst hen; have hA := (hb.block w.heap.size (by first | (simp; done) | (simp; omega) | omega)).trans (by first | exact HA.out | (simp; exact HA.out)); have hN := (hb.block (w.heap.size + 1) (by first | (simp; done) | (simp; omega) | omega)).trans (by first | exact HN.out | (simp; exact HN.out)); have hS := (hb.block (w.heap.size + 2) (by first | (simp; done) | (simp; omega) | omega)).trans (by first | exact HS.out | (simp; exact HS.out)); have hB := QbR (by repeat (first | exact HB.out | apply Qag | apply Qaa | apply Qbg)) (by first | (simp; done) | (simp; omega) | omega) hb; clear HA HN HS HB hb; have HA := Aside0.mk hA; have HN := Aside0.mk hN; have HS := Aside0.mk hS; have HB := Aside0.mk hB; clear hA hN hS hB))
       go_roundg k1
       case measure => have := HK1.out; omega
       case rel => exact ⟨wrap64 (md + 1), hi, (Zs), (Zs), H', ⟨by have := HK1.out; omega⟩, ⟨by (with_reducible repeat (first | refine Qac ?_ _ | refine Qad ?_ | refine Qab ?_ _)); exact HA.out⟩, ⟨by (with_reducible repeat (first | refine Qac ?_ _ | refine Qad ?_ | refine Qab ?_ _)); exact HN.out⟩, ⟨by (with_reducible repeat (first | refine Qac ?_ _ | refine Qad ?_ | refine Qab ?_ _)); exact HS.out⟩, ⟨by repeat (first | exact HB.out | apply Qag | apply Qaa | apply Qbg)⟩⟩
      rw [if_neg c3] at H
      have c3b0 : decide (lo < hi) = F := decide_eq_false c3
      obtain rfl := Option.some.inj H
      have la : w.heap.size < wr.heap.size := by omega
      have e0' : wr.cell? ⟨w.heap.size, 0, none⟩ = some (.string s) := (Qaf HA.out 0).trans rfl
      have e1' : wr.cell? ⟨w.heap.size, 1, none⟩ = some (.int .i64 a1) := (Qaf HA.out 1).trans rfl
      have e2' : wr.cell? ⟨w.heap.size, 2, none⟩ = some (.int .i64 a2) := (Qaf HA.out 2).trans rfl
      have e3' : wr.cell? ⟨w.heap.size, 3, none⟩ = some (.int .i64 a3) := (Qaf HA.out 3).trans rfl
      have e4' : wr.cell? ⟨w.heap.size, 4, none⟩ = some (.int .i64 a4) := (Qaf HA.out 4).trans rfl
      have e5' : wr.cell? ⟨w.heap.size, 5, none⟩ = some (.int .i64 a5) := (Qaf HA.out 5).trans rfl
      have es' : wr.cell? ⟨w.heap.size + 2, 0, none⟩ = some (.slice A2 l2.length c2) := (Qaf HS.out 0).trans rfl
      have hz := HZ.out
      clear HZ
      by_cases z0 : m2 = 0
      ·subst z0
       by_cases z1 : m1 < n
       ·rw [if_pos (Or.inr z1)] at hz
        obtain ⟨rfl, rfl⟩ : (0 : Int) = r1 ∧ (3 : Int) = r2 := by simpa using hz
        go_wp2_with (first | (go_at_call 44; refine (QaZ.calls k s a1 a2 a3 a4 a5 lo A2 c2 l2 _ _ _ (Kd.C_below HR.out (by repeat (first | exact HB.out | apply Qag | apply Qaa | apply Qbg))) HC.out HE.out).mono ?_; rintro en wx ⟨rfl, hb⟩; have hN := (hb.block (w.heap.size + 1) (by first | (simp; done) | (simp; omega) | omega)).trans (by first | exact HN.out | (simp; exact HN.out)); have hB := QbR (by repeat (first | exact HB.out | apply Qag | apply Qaa | apply Qbg)) (by first | (simp; done) | (simp; omega) | omega) hb; clear HB hb; have HB := Aside0.mk hB; have lx : w.heap.size + 1 < wx.heap.size := blk_lt hN; have cx' : wx.cell? ⟨w.heap.size + 1, 0, none⟩ = some (.int .i64 n) := (Qaf hN 0).trans rfl; clear hB hN))
        go_ret2
        exact ⟨rfl, by repeat (first | exact HB.out | apply Qag | apply Qaa | apply Qbg)⟩
       have z2 : n ≤ m1 := by omega
       rw [if_neg (by omega)] at hz
       obtain ⟨rfl, rfl⟩ : lo = r1 ∧ (0 : Int) = r2 := by simpa using hz
       go_wp2_with (first | (go_at_call 44; refine (QaZ.calls k s a1 a2 a3 a4 a5 lo A2 c2 l2 _ _ _ (Kd.C_below HR.out (by repeat (first | exact HB.out | apply Qag | apply Qaa | apply Qbg))) HC.out HE.out).mono ?_; rintro en wx ⟨rfl, hb⟩; have hN := (hb.block (w.heap.size + 1) (by first | (simp; done) | (simp; omega) | omega)).trans (by first | exact HN.out | (simp; exact HN.out)); have hB := QbR (by repeat (first | exact HB.out | apply Qag | apply Qaa | apply Qbg)) (by first | (simp; done) | (simp; omega) | omega) hb; clear HB hb; have HB := Aside0.mk hB; have lx : w.heap.size + 1 < wx.heap.size := blk_lt hN; have cx' : wx.cell? ⟨w.heap.size + 1, 0, none⟩ = some (.int .i64 n) := (Qaf hN 0).trans rfl; clear hB hN))
       go_ret2
       exact ⟨rfl, by repeat (first | exact HB.out | apply Qag | apply Qaa | apply Qbg)⟩
      rw [if_pos (Or.inl z0)] at hz
      obtain ⟨rfl, rfl⟩ : (0 : Int) = r1 ∧ (3 : Int) = r2 := by simpa using hz
      go_wp2_with (first | (go_at_call 44; refine (QaZ.calls k s a1 a2 a3 a4 a5 lo A2 c2 l2 _ _ _ (Kd.C_below HR.out (by repeat (first | exact HB.out | apply Qag | apply Qaa | apply Qbg))) HC.out HE.out).mono ?_; rintro en wx ⟨rfl, hb⟩; have hN := (hb.block (w.heap.size + 1) (by first | (simp; done) | (simp; omega) | omega)).trans (by first | exact HN.out | (simp; exact HN.out)); have hB := QbR (by repeat (first | exact HB.out | apply Qag | apply Qaa | apply Qbg)) (by first | (simp; done) | (simp; omega) | omega) hb; clear HB hb; have HB := Aside0.mk hB; have lx : w.heap.size + 1 < wx.heap.size := blk_lt hN; have cx' : wx.cell? ⟨w.heap.size + 1, 0, none⟩ = some (.int .i64 n) := (Qaf hN 0).trans rfl; clear hB hN))
      go_ret2
      exact ⟨rfl, by repeat (first | exact HB.out | apply Qag | apply Qaa | apply Qbg)⟩
  rw [if_neg hu0] at h
  obtain ⟨rfl, rfl⟩ : (0 : Int) = r1 ∧ u = r2 := by simpa using h
  go_wp2
  go_ret2
  exact ⟨rfl, by repeat (first | exact HB.out | apply Qag | apply Qaa | apply Qbg)⟩
 rw [if_neg ht0] at h
 obtain ⟨rfl, rfl⟩ : (0 : Int) = r1 ∧ t = r2 := by simpa using h
 go_wp2
 go_ret2
 exact ⟨rfl, by repeat (first | exact HB.out | apply Qag | apply Qaa | apply Qbg)⟩
set_option maxHeartbeats 4000000 in
theorem QeI.calls (D : Addr) (on : Int) (i0 : Int) (m0 n0 : ByteArray) (q0 d0 t0 : Int) (w : World) (hD : Aside0 (w.cell? D = some (.int .i64 on))) (hg : (wrap64 (q0 - t0) = 0 ∨ d0 ≥ on)) :
  Calls Try.prog 128 (#[.agg #[.int .i64 i0, .string m0, .string n0, .int .i64 q0, .int .i64 d0, .int .i64 t0]] ++ #[.pointer (some D)]) w fun e w' => e = .returned (.bool T) ∧ Below w.heap.size w w' := by
 have hu226 := Try.underlying226
 have HB := Aside0.mk (Below.refl w.heap.size w)
 have hd1 := hD.out
 by_cases c1 : wrap64 (q0 - t0) = 0
 ·have c1a : (wrap64 (q0 - t0) == 0) = T := beq_iff_eq.mpr c1
  clear hg c1 hD
  go_enter Try.func128, Try.ntmps128
  go_wp2_with (first | ((with_reducible refine QaT (N := 2) rfl ?_); refine Zbx (N := 2) (cs := #[.int .i64 i0, .string m0, .string n0, .int .i64 q0, .int .i64 d0, .int .i64 t0]) (t := 226) ?_; intro g2 hg2 w1 hbox hb; have n_ := Aside0.mk (Qap HB.out hb); have hd2 := (hb.cell (World.block_lt_of_cell? _ _ hd1)).trans hd1; clear HB hd1; have HB := n_; have hd1 := hd2; have BKg2 := Aside0.mk hbox; have hc3 := (Qaf BKg2.out 4).trans (show (#[.int .i64 i0, .string m0, .string n0, .int .i64 q0, .int .i64 d0, .int .i64 t0] : Array Value)[4]? = some (Value.int .i64 d0) from rfl); have hk0 := (Qaf BKg2.out 0).trans (show (#[.int .i64 i0, .string m0, .string n0, .int .i64 q0, .int .i64 d0, .int .i64 t0] : Array Value)[0]? = some (Value.int .i64 i0) from rfl); have hk1 := (Qaf BKg2.out 1).trans (show (#[.int .i64 i0, .string m0, .string n0, .int .i64 q0, .int .i64 d0, .int .i64 t0] : Array Value)[1]? = some (Value.string m0) from rfl); have hk2 := (Qaf BKg2.out 2).trans (show (#[.int .i64 i0, .string m0, .string n0, .int .i64 q0, .int .i64 d0, .int .i64 t0] : Array Value)[2]? = some (Value.string n0) from rfl); have hk3 := (Qaf BKg2.out 3).trans (show (#[.int .i64 i0, .string m0, .string n0, .int .i64 q0, .int .i64 d0, .int .i64 t0] : Array Value)[3]? = some (Value.int .i64 q0) from rfl); have hk4 := (Qaf BKg2.out 4).trans (show (#[.int .i64 i0, .string m0, .string n0, .int .i64 q0, .int .i64 d0, .int .i64 t0] : Array Value)[4]? = some (Value.int .i64 d0) from rfl); have hk5 := (Qaf BKg2.out 5).trans (show (#[.int .i64 i0, .string m0, .string n0, .int .i64 q0, .int .i64 d0, .int .i64 t0] : Array Value)[5]? = some (Value.int .i64 t0) from rfl); clear n_ hd2 hb hbox hg2) | (go_at_call 121; refine (Qbr.calls i0 m0 n0 q0 d0 t0 (wrap64 (q0 - t0)) _ (by unfold Qbr.f; rfl)).mono ?_; rintro _ w5 ⟨rfl, hb⟩; have n_ := Aside0.mk (Qap (Zb) hb); clear HB; have HB := n_; clear n_; have hd2 := (hb.cell (World.block_lt_of_cell? _ _ hd1)).trans hd1; have og := Aside0.mk (Qam (g := g2) (o := .cells #[.int .i64 i0, .string m0, .string n0, .int .i64 q0, .int .i64 d0, .int .i64 t0] 226 (0, 0)) BKg2.out hb); clear hd1 hc3 BKg2 hb hk0 hk1 hk2 hk3 hk4 hk5; have hd1 := hd2; have BKg2 := og; clear hd2 og; have hc3 := (Qaf BKg2.out 4).trans (show (#[.int .i64 i0, .string m0, .string n0, .int .i64 q0, .int .i64 d0, .int .i64 t0] : Array Value)[4]? = some (Value.int .i64 d0) from rfl)))
  go_ret
  exact ⟨rfl, Zb⟩
 have c1a : (wrap64 (q0 - t0) == 0) = F := beq_eq_false_iff_ne.mpr c1
 have c2 : on ≤ d0 := hg.resolve_left c1
 have c2a : decide (on ≤ d0) = T := decide_eq_true c2
 clear c2
 clear hg c1 hD
 go_enter Try.func128, Try.ntmps128
 go_wp2_with (first | ((with_reducible refine QaT (N := 2) rfl ?_); refine Zbx (N := 2) (cs := #[.int .i64 i0, .string m0, .string n0, .int .i64 q0, .int .i64 d0, .int .i64 t0]) (t := 226) ?_; intro g2 hg2 w1 hbox hb; have n_ := Aside0.mk (Qap HB.out hb); have hd2 := (hb.cell (World.block_lt_of_cell? _ _ hd1)).trans hd1; clear HB hd1; have HB := n_; have hd1 := hd2; have BKg2 := Aside0.mk hbox; have hc3 := (Qaf BKg2.out 4).trans (show (#[.int .i64 i0, .string m0, .string n0, .int .i64 q0, .int .i64 d0, .int .i64 t0] : Array Value)[4]? = some (Value.int .i64 d0) from rfl); have hk0 := (Qaf BKg2.out 0).trans (show (#[.int .i64 i0, .string m0, .string n0, .int .i64 q0, .int .i64 d0, .int .i64 t0] : Array Value)[0]? = some (Value.int .i64 i0) from rfl); have hk1 := (Qaf BKg2.out 1).trans (show (#[.int .i64 i0, .string m0, .string n0, .int .i64 q0, .int .i64 d0, .int .i64 t0] : Array Value)[1]? = some (Value.string m0) from rfl); have hk2 := (Qaf BKg2.out 2).trans (show (#[.int .i64 i0, .string m0, .string n0, .int .i64 q0, .int .i64 d0, .int .i64 t0] : Array Value)[2]? = some (Value.string n0) from rfl); have hk3 := (Qaf BKg2.out 3).trans (show (#[.int .i64 i0, .string m0, .string n0, .int .i64 q0, .int .i64 d0, .int .i64 t0] : Array Value)[3]? = some (Value.int .i64 q0) from rfl); have hk4 := (Qaf BKg2.out 4).trans (show (#[.int .i64 i0, .string m0, .string n0, .int .i64 q0, .int .i64 d0, .int .i64 t0] : Array Value)[4]? = some (Value.int .i64 d0) from rfl); have hk5 := (Qaf BKg2.out 5).trans (show (#[.int .i64 i0, .string m0, .string n0, .int .i64 q0, .int .i64 d0, .int .i64 t0] : Array Value)[5]? = some (Value.int .i64 t0) from rfl); clear n_ hd2 hb hbox hg2) | (go_at_call 121; refine (Qbr.calls i0 m0 n0 q0 d0 t0 (wrap64 (q0 - t0)) _ (by unfold Qbr.f; rfl)).mono ?_; rintro _ w5 ⟨rfl, hb⟩; have n_ := Aside0.mk (Qap (Zb) hb); clear HB; have HB := n_; clear n_; have hd2 := (hb.cell (World.block_lt_of_cell? _ _ hd1)).trans hd1; have og := Aside0.mk (Qam (g := g2) (o := .cells #[.int .i64 i0, .string m0, .string n0, .int .i64 q0, .int .i64 d0, .int .i64 t0] 226 (0, 0)) BKg2.out hb); clear hd1 hc3 BKg2 hb hk0 hk1 hk2 hk3 hk4 hk5; have hd1 := hd2; have BKg2 := og; clear hd2 og; have hc3 := (Qaf BKg2.out 4).trans (show (#[.int .i64 i0, .string m0, .string n0, .int .i64 q0, .int .i64 d0, .int .i64 t0] : Array Value)[4]? = some (Value.int .i64 d0) from rfl)))
 go_ret
 exact ⟨rfl, Zb⟩
set_option maxHeartbeats 4000000 in
theorem Qbp.idx (D : Addr) (on : Int) (i0 : Int) (m0 n0 : ByteArray) (q0 d0 t0 : Int) (am : Addr) (c : Nat) (w : World) (hD : Aside0 (w.cell? D = some (.int .i64 on))) (hg : (wrap64 (q0 - t0) = 0 ∨ d0 ≥ on)) (hr : Kd.C k226 w (some am) 1 [(⟨i0, ⟨m0, n0⟩, q0, d0, t0⟩ : S226)]) :
  Calls Try.prog 232 #[.slice (some am) 1 c, .func (.func 128) #[] #[.pointer (some D)]] w fun e w' => e = .returned (.int .i64 0) ∧ Below w.heap.size w w' := by
 have hu226 := Try.underlying226
 have HB := Aside0.mk (Below.refl w.heap.size w)
 have HG := Aside0.mk hg
 clear hg
 obtain ⟨am_, ea, hm0, hm1, hm2, hm3, hm4, hm5⟩ := Qb1 hr 0 (by omega) (by simp)
 obtain rfl : am = am_ := by injection ea
 have hn0 : w.cell? am = some (.int .i64 i0) := hm0
 have hn1 : w.cell? ⟨am.block, am.off + 1, none⟩ = some (.string m0) := hm1
 have hn2 : w.cell? ⟨am.block, am.off + 2, none⟩ = some (.string n0) := hm2
 have hn3 : w.cell? ⟨am.block, am.off + 3, none⟩ = some (.int .i64 q0) := hm3
 have hn4 : w.cell? ⟨am.block, am.off + 4, none⟩ = some (.int .i64 d0) := hm4
 have hn5 : w.cell? ⟨am.block, am.off + 5, none⟩ = some (.int .i64 t0) := hm5
 clear hm0 hm1 hm2 hm3 hm4 hm5 hr ea
 go_enter Try.func232, Try.ntmps232
 go_wp2
 refine wp_loop_rounds 1 ?_
 rw [rounds_succ]
 go_wp2_with (first | (go_at_call 128; refine (QeI.calls D on i0 m0 n0 q0 d0 t0 _ ⟨(HB.out.cell (World.block_lt_of_cell? _ _ hD.out)).trans hD.out⟩ HG.out).mono ?_; rintro _ w5 ⟨rfl, hb⟩; have n_ := Aside0.mk (Qap (Zb) hb); clear HB hb; have HB := n_; clear n_))
 go_ret
 exact ⟨rfl, Zb⟩
set_option maxHeartbeats 4000000 in
theorem Qbp.del (D : Addr) (on : Int) (i0 : Int) (m0 n0 : ByteArray) (q0 d0 t0 : Int) (go co base : Nat) (w : World) (hD : Aside0 (w.cell? D = some (.int .i64 on))) (hg : (wrap64 (q0 - t0) = 0 ∨ d0 ≥ on)) (hr : Kd.R k226 226 w base (fun _ => True) (.slice (some ⟨go, 0, none⟩) 1 co) [(⟨i0, ⟨m0, n0⟩, q0, d0, t0⟩ : S226)]) :
  Calls Try.prog 196 #[.slice (some ⟨go, 0, none⟩) 1 co, .func (.func 128) #[] #[.pointer (some D)]] w fun e w' => e = .returned (.slice (some ⟨go, 0, none⟩) 0 co) ∧ ∃ w1, Below w.heap.size w w1 ∧ w' = w1.setCells go 0 [.int .i64 0, .string ⟨#[]⟩, .string ⟨#[]⟩, .int .i64 0, .int .i64 0, .int .i64 0] ∧ Kd.R k226 226 w' base (fun _ => True) (.slice (some ⟨go, 0, none⟩) 0 co) [] := by
 have hu226 := Try.underlying226
 have HB := Aside0.mk (Below.refl w.heap.size w)
 have HG := Aside0.mk hg
 have HR := Aside0.mk hr
 clear hg hr
 go_enter Try.func196, Try.ntmps196
 go_wp2_with (first | (go_at_call 232; refine (Qbp.idx D on i0 m0 n0 q0 d0 t0 ⟨go, 0, none⟩ co _ ⟨hD.out⟩ HG.out (Kd.R_reads' HR.out).2.2).mono ?_; rintro _ w2 ⟨rfl, hb⟩; have n_ := Aside0.mk (Qap (Zb) hb); have nr := Aside0.mk (Kd.R_below HR.out hb); clear HB HR hb; have HB := n_; have HR := nr; clear n_ nr))
 refine wp_loop_rounds 1 ?_
 rw [rounds_succ]
 obtain ⟨ce, hcl, hcm, hcc, hcf⟩ := Kd.R_elem HR.out (⟨i0, ⟨m0, n0⟩, q0, d0, t0⟩ : S226) 0 (by omega) (by omega)
 have hcs : ∀ j, j < 6 → (w2.cell? ⟨go, j, none⟩).isSome = T := fun j hj => by
  have h := hcc j (ce[j]'(by rw [hcl]; exact hj)) (List.getElem?_eq_getElem _)
  rw [Int.toNat_zero, Nat.zero_mul, Nat.zero_add] at h
  rw [h]; rfl
 have hfs : ∀ j, j < 6 → w2.frozen? ⟨go, j, none⟩ = F := fun j _ => by
  have h := hcf j
  rw [Int.toNat_zero, Nat.zero_mul, Nat.zero_add] at h
  exact h
 go_upto_region 12 with (first | ((with_reducible refine QbK (b := .clear) (xs := #[.tmp 38]) rfl ?_); refine Kd.event_run (v := .tuple #[]) (w1 := w2.setCells go 0 [.int .i64 0, .string ⟨#[]⟩, .string ⟨#[]⟩, .int .i64 0, .int .i64 0, .int .i64 0]) rfl ?hr ?_; (case hr => go_simp; rw [QbL.clear_one w2 116 226 0 (.agg #[.int .i64 0, .string ⟨#[]⟩, .string ⟨#[]⟩, .int .i64 0, .int .i64 0, .int .i64 0]) [.int .i64 0, .string ⟨#[]⟩, .string ⟨#[]⟩, .int .i64 0, .int .i64 0, .int .i64 0] Try.underlying116 (by intro w_; first | rfl | (go_simp; done) | kernel_rfl) (by first | rfl | kernel_rfl) go co hcs hfs (by simp [Value.oneCell'])]; rfl)))
 obtain rfl := Qct hcm
 have HP := Kd.R_seg HR.out 0 (by omega) (by omega) (seg := [.int .i64 0, .string ⟨#[]⟩, .string ⟨#[]⟩, .int .i64 0, .int .i64 0, .int .i64 0]) (j := 0) hcl hcc (show 6 ≤ 6 from by decide) (x' := (⟨0, ⟨⟨#[]⟩, ⟨#[]⟩⟩, 0, 0, 0⟩ : S226)) (okp := fun _ => False) (Qb6 _ _ _ (⟨0, ⟨⟨#[]⟩, ⟨#[]⟩⟩, 0, 0, 0⟩ : S226)) (fun _ h => h.elim)
 have HP2 : Kd.R k226 226 (w2.setCells go 0 [.int .i64 0, .string ⟨#[]⟩, .string ⟨#[]⟩, .int .i64 0, .int .i64 0, .int .i64 0]) base (fun _ => True) (.slice (some ⟨go, 0, none⟩) 1 co) [(⟨0, ⟨⟨#[]⟩, ⟨#[]⟩⟩, 0, 0, 0⟩ : S226)] := HP.1
 have HP3 := Aside0.mk (Kd.R_take (m := 0) HP2 (by simp))
 have NB := Aside0.mk (show ∃ w1, Below w.heap.size w w1 ∧ w2.setCells go 0 [.int .i64 0, .string ⟨#[]⟩, .string ⟨#[]⟩, .int .i64 0, .int .i64 0, .int .i64 0] = w1.setCells go 0 [.int .i64 0, .string ⟨#[]⟩, .string ⟨#[]⟩, .int .i64 0, .int .i64 0, .int .i64 0] from ⟨w2, HB.out, rfl⟩)
 clear HP HP2 HB HR hcl hcm hcc hcf hcs hfs
 generalize w2.setCells go 0 [.int .i64 0, .string ⟨#[]⟩, .string ⟨#[]⟩, .int .i64 0, .int .i64 0, .int .i64 0] = w3 at HP3 NB ⊢
 go_wp2
 go_ret
 obtain ⟨w1, hb, rfl⟩ := NB.out
 exact ⟨rfl, w1, hb, rfl, HP3.out⟩
set_option maxHeartbeats 4000000 in
theorem Qbp.wo (D : Addr) (on : Int) (i0 : Int) (m0 n0 : ByteArray) (q0 d0 t0 : Int) (am : Addr) (c : Nat) (w : World) (hD : Aside0 (w.cell? D = some (.int .i64 on))) (hg : (wrap64 (q0 - t0) = 0 ∨ d0 ≥ on)) (hr : Kd.C k226 w (some am) 1 [(⟨i0, ⟨m0, n0⟩, q0, d0, t0⟩ : S226)]) (hc : 1 ≤ c) :
  Calls Try.prog 127 #[.slice (some am) 1 c, .func (.func 128) #[] #[.pointer (some D)]] w fun e w' => ∃ v0_ : Value, e = .returned (v0_) ∧ Kd.R k226 226 w' w.heap.size (fun _ => True) v0_ [] ∧ Below w.heap.size w w' := by
 have HB := Aside0.mk (Below.refl w.heap.size w)
 have HG := Aside0.mk hg
 have HR := Aside0.mk hr
 have HC := Aside0.mk hc
 clear hg hr hc
 go_enter Try.func127, Try.ntmps127
 go_wp2_with (first | (go_at_call 117; refine (QaA.calls (some am) c [(⟨i0, ⟨m0, n0⟩, q0, d0, t0⟩ : S226)] [(⟨i0, ⟨m0, n0⟩, q0, d0, t0⟩ : S226)] _ (Kd.C_below HR.out HB.out) HC.out (by simp [QaA.f])).mono ?_; rintro _ w2 ⟨vo, rfl, ho, hb⟩; have n_ := Aside0.mk (Qap HB.out hb); have no := Aside0.mk (Kd.R_lower ho (Qar HB.out)); have hD2 := Aside0.mk ((hb.cell (World.block_lt_of_cell? _ _ hD.out)).trans hD.out); clear hD; have hD := hD2; clear hD2; clear HB hb ho; have HB := n_; obtain ⟨go, co, eo, _, _, _, HG0⟩ := Kd.R_form no.out (by simp); have eo2 : vo = .slice (some ⟨go, 0, none⟩) 1 co := eo; subst eo2; clear eo HG0 n_) | (go_at_call 196; refine (Qbp.del D on i0 m0 n0 q0 d0 t0 go co w.heap.size _ hD HG.out no.out).mono ?_; rintro _ w3 ⟨rfl, w4, hb, hw, hr⟩; have gb := Kd.R_base no.out go rfl; have n_ := Qap HB.out hb; have HB2 := Aside0.mk n_; have HX := Aside0.mk hw; have HY := Aside0.mk hr; have HZ := Aside0.mk gb; clear HB no hb hw hr gb n_))
 go_ret
 have HB := HB2
 have gb := HZ.out
 exact ⟨_, rfl, HY.out, by rw [HX.out]; exact (Qae (j := 5) (v := .int .i64 0) (Qae (j := 4) (v := .int .i64 0) (Qae (j := 3) (v := .int .i64 0) (Qae (j := 2) (v := .string ⟨#[]⟩) (Qae (j := 1) (v := .string ⟨#[]⟩) (Qae (j := 0) (v := .int .i64 0) HB.out gb) gb) gb) gb) gb) gb)⟩
def Qbp.f (k : Nat) (l0 : List (S226)) (a1 : Int) : Option (List (S226) × Int) :=
 (QaL.f k l0).bind fun e => if e = 0 then (if QbY.f a1 = some T then (match l0 with
  | [c] => if wrap64 (c.f2 - c.f4) = 0 ∨ c.f3 ≥ a1 then some ([], 0) else none
  | _ => none) else none) else none
theorem Qbp.mono : ∀ a0 a1 k, LeO (Qbp.f k a0 a1) (Qbp.f (k + 1) a0 a1) := by
 intro a0 a1 k
 unfold Qbp.f
 exact LeO.bind (QaL.mono _ _) (fun _ => LeO.refl _)
set_option maxHeartbeats 4000000 in
theorem Qbp.calls (k : Nat) (A0 : Option Addr) (c0 : Nat) (l0 : List (S226)) (a1 : Int) (r1 : List (S226)) (r2 : Int) (w : World) (hr0 : Kd.C k226 w A0 l0.length l0) (hc0 : l0.length ≤ c0) (h : Qbp.f k l0 a1 = some (r1, r2)) :
  Calls Try.prog 47 #[.slice A0 l0.length c0, .int .i64 a1] w fun e w' => ∃ v0_ : Value, e = .returned (.tuple #[v0_, .int .i64 r2]) ∧ Kd.R k226 226 w' w.heap.size (fun _ => True) v0_ r1 ∧ Below w.heap.size w w' := by
 have hu226 := Try.underlying226
 unfold Qbp.f at h
 replace h := Option.bind_eq_some_iff.1 h
 obtain ⟨e0, A00, H⟩ := h
 have A0_ := Aside0.mk A00
 clear A00
 by_cases c1 : e0 = 0
 ·rw [if_pos c1] at H
  subst c1
  by_cases c2 : QbY.f a1 = some T
  case neg => rw [if_neg c2] at H; cases H
  rw [if_pos c2] at H
  have DAY := Aside0.mk c2
  clear c2
  match l0, hr0, hc0, A0_, H with
  | [], hr0, hc0, A0_, H => cases H
  | _ :: _ :: _, hr0, hc0, A0_, H => cases H
  | [⟨i0, ⟨m0, n0⟩, q0, d0, t0⟩], hr0, hc0, A0_, H =>
   dsimp only at H
   by_cases c3 : wrap64 (q0 - t0) = 0 ∨ d0 ≥ a1
   ·rw [if_pos c3] at H
    simp only [Option.some.injEq, Prod.mk.injEq] at H
    obtain ⟨rfl, rfl⟩ := H
    have HG := Aside0.mk c3
    have HR0 := Aside0.mk hr0
    have HC0 := Aside0.mk hc0
    clear c3 hr0 hc0
    have HB := Aside0.mk (Below.refl w.heap.size w)
    obtain ⟨ad, rfl, _⟩ := Qb1 HR0.out 0 (by omega) (by simp)
    go_enter Try.func47, Try.ntmps47
    go_wp2_with (first | ((with_reducible refine QaT (N := 3) rfl ?_); refine Zbx (N := 3) (cs := #[.int .i64 a1]) (t := 3) ?_; intro g3 hg w1 hbox hb; have n_ := Aside0.mk (Qap HB.out hb); have BKg3 := Aside0.mk hbox; clear HB hb hbox hg; have HB := n_; clear n_) | (go_at_call 115; refine (QaL.calls k (some ad) c0 _ 0 _ (Kd.C_below HR0.out HB.out) HC0.out A0_.out).mono ?_; rintro _ w2 ⟨rfl, hb⟩; have n_ := Aside0.mk (Qap HB.out hb); have og3 := Aside0.mk (Qam (g := g3) (o := .cells #[.int .i64 a1] 3 (0, 0)) BKg3.out hb); clear BKg3; have BKg3 := og3; clear og3; clear HB hb; have HB := n_; clear n_; have hq3 := (Qaf BKg3.out 0).trans (show (#[.int .i64 a1] : Array Value)[0]? = some (Value.int .i64 a1) from rfl)) | (go_at_call 126; refine (QbY.calls a1 T _ DAY.out).mono ?_; rintro _ w5 ⟨rfl, hd⟩; have hb := hd.below; have n_ := Aside0.mk (Qap HB.out hb); clear hq3; have og3 := Aside0.mk (Qam (g := g3) (o := .cells #[.int .i64 a1] 3 (0, 0)) BKg3.out hb); clear BKg3; have BKg3 := og3; clear og3; clear HB hb hd; have HB := n_; clear n_) | (go_at_call 127; refine (Qbp.wo ⟨g3, 0, none⟩ a1 i0 m0 n0 q0 d0 t0 ad c0 _ ⟨(Qaf BKg3.out 0).trans rfl⟩ HG.out (Kd.C_below HR0.out HB.out) HC0.out).mono ?_; rintro _ w6 ⟨v0, rfl, hr, hb⟩; have n_ := Aside0.mk (Qap HB.out hb); have HY := Aside0.mk (Kd.R_lower hr (Qar HB.out)); clear HB hb hr; have HB := n_; clear n_))
    go_ret2
    exact ⟨_, rfl, HY.out, HB.out⟩
   rw [if_neg c3] at H
   cases H
 rw [if_neg c1] at H
 cases H
end Go.Proofs.Ytgnmhfjfefgbfaa.Pr
