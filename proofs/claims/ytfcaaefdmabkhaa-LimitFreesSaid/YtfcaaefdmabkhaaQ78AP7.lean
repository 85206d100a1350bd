/- Functions' values and contracts, as the print wrote them. -/
import Derived.Test.YtfcaaefdmabkhaaQ78AP0
import Derived.Test.YtfcaaefdmabkhaaQ78AP1
import Derived.Test.YtfcaaefdmabkhaaQ78AP3
namespace Go.Proofs.Ytfcaaefdmabkhaa.Pr
open Bool renaming true → T
open Bool renaming false → F
open Go.RowKit Go.Proofs.YtfcaaefdmabkhaaW.PrintWords Go.Proofs.YtfcaaefdmabkhaaW.PrintLast Go.Proofs.YtfcaaefdmabkhaaW.PrintMore
attribute [local go_sem] QaS QaU Qa0 Qa1 QaM QaN QaT QaV   -- for this text's walks alone
set_option linter.unusedVariables false
set_option linter.unusedSimpArgs false
attribute [local go_sem high] eqA44
mutual
def Qan.l0 : Nat → List (S46) → List (S46) → Bool → Int → ByteArray → ByteArray → ByteArray → Int → Option ((List (S46)))
 | 0, _, _, _, _, _, _, _, _ => none
 | k + 1, x0, x5, x6, x7, x826000, x826001, x826002, x826003 => if x7 < (x0.length : Int) then (if x6 = T then (Qan.j1 k x0 x5 x6 x7 F x826000 x826001 x826002 x826003) else (if 0 ≤ x7 then ((Qbk.f ((rd_T46 x0 x7).f0.f0) ((rd_T46 x0 x7).f0.f1) ((rd_T46 x0 x7).f1) ((rd_T46 x0 x7).f2) x826000 x826001 x826002 x826003).bind fun t833 => (Qan.j1 k x0 x5 x6 x7 (!t833) x826000 x826001 x826002 x826003)) else (none))) else (if x6 = T then (some x5) else (if x5.length < 2513169434916 then (some (x5 ++ [(⟨(⟨x826000, x826001⟩ : S44), x826002, x826003⟩ : S46)])) else (none)))
def Qan.j1 : Nat → List (S46) → List (S46) → Bool → Int → Bool → ByteArray → ByteArray → ByteArray → Int → Option ((List (S46)))
 | 0, _, _, _, _, _, _, _, _, _ => none
 | k + 1, x0, x5, x6, x7, x28, x826000, x826001, x826002, x826003 => if x28 = T then (if x5.length < 2513169434916 then ((some (x5 ++ [(⟨(⟨x826000, x826001⟩ : S44), x826002, x826003⟩ : S46)] : List (S46))).bind fun y834 => (if 0 ≤ x7 then (if x7 < (x0.length : Int) then (if (!((((rd_T46 x0 x7).f0.f0).toList) == x826000.toList) || (!((((rd_T46 x0 x7).f0.f1).toList) == x826001.toList))) = T then (if y834.length < 2513169434916 then (Qan.l0 k x0 (y834 ++ [(⟨(⟨(rd_T46 x0 x7).f0.f0, (rd_T46 x0 x7).f0.f1⟩ : S44), (rd_T46 x0 x7).f1, (rd_T46 x0 x7).f2⟩ : S46)]) T (wrap64 (x7 + 1)) x826000 x826001 x826002 x826003) else (none)) else (if ((rd_T46 x0 x7).f1).toList = x826002.toList then (Qan.l0 k x0 y834 T (wrap64 (x7 + 1)) x826000 x826001 x826002 x826003) else (if y834.length < 2513169434916 then (Qan.l0 k x0 (y834 ++ [(⟨(⟨(rd_T46 x0 x7).f0.f0, (rd_T46 x0 x7).f0.f1⟩ : S44), (rd_T46 x0 x7).f1, (rd_T46 x0 x7).f2⟩ : S46)]) T (wrap64 (x7 + 1)) x826000 x826001 x826002 x826003) else (none)))) else (none)) else (none))) else (none)) else (if 0 ≤ x7 then (if x7 < (x0.length : Int) then (if (!((((rd_T46 x0 x7).f0.f0).toList) == x826000.toList) || (!((((rd_T46 x0 x7).f0.f1).toList) == x826001.toList))) = T then (if x5.length < 2513169434916 then (Qan.l0 k x0 (x5 ++ [(⟨(⟨(rd_T46 x0 x7).f0.f0, (rd_T46 x0 x7).f0.f1⟩ : S44), (rd_T46 x0 x7).f1, (rd_T46 x0 x7).f2⟩ : S46)]) x6 (wrap64 (x7 + 1)) x826000 x826001 x826002 x826003) else (none)) else (if ((rd_T46 x0 x7).f1).toList = x826002.toList then (Qan.l0 k x0 x5 x6 (wrap64 (x7 + 1)) x826000 x826001 x826002 x826003) else (if x5.length < 2513169434916 then (Qan.l0 k x0 (x5 ++ [(⟨(⟨(rd_T46 x0 x7).f0.f0, (rd_T46 x0 x7).f0.f1⟩ : S44), (rd_T46 x0 x7).f1, (rd_T46 x0 x7).f2⟩ : S46)]) x6 (wrap64 (x7 + 1)) x826000 x826001 x826002 x826003) else (none)))) else (none)) else (none))
end
def Qan.f (k : Nat) (l0 : List (S46)) (a1_0 : ByteArray) (a1_1 : ByteArray) (a1_2 : ByteArray) (a1_3 : Int) : Option ((List (S46))) := Qan.l0 k l0 (([] : List (S46))) (a1_3 == 0) 0 a1_0 a1_1 a1_2 a1_3
theorem Qan.mono_l : ∀ k, (∀ y0 y1 y2 y3 y4 y5 y6 y7, LeO (Qan.l0 k y0 y1 y2 y3 y4 y5 y6 y7) (Qan.l0 (k + 1) y0 y1 y2 y3 y4 y5 y6 y7)) ∧ (∀ y0 y1 y2 y3 y4 y5 y6 y7 y8, LeO (Qan.j1 k y0 y1 y2 y3 y4 y5 y6 y7 y8) (Qan.j1 (k + 1) y0 y1 y2 y3 y4 y5 y6 y7 y8))
 | 0 => ⟨fun _ _ _ _ _ _ _ _ r h => by simp [Qan.l0] at h, fun _ _ _ _ _ _ _ _ _ r h => by simp [Qan.j1] at h⟩
 | k + 1 => by
  obtain ⟨ih0, ih1⟩ := Qan.mono_l k
  refine ⟨?_, ?_⟩
  ·intro y0 y1 y2 y3 y4 y5 y6 y7
   unfold Qan.l0
   exact ZM2 ih0 ih1
  intro y0 y1 y2 y3 y4 y5 y6 y7 y8
  unfold Qan.j1
  exact ZM2 ih0 ih1
theorem Qan.mono : ∀ a0 a1 a2 a3 a4 k, LeO (Qan.f k a0 a1 a2 a3 a4) (Qan.f (k + 1) a0 a1 a2 a3 a4) := by
 intro a0 a1 a2 a3 a4 k
 obtain ⟨ih0, ih1⟩ := Qan.mono_l k
 unfold Qan.f
 exact ZM2 ih0 ih1
def Qan.T6 : Bool × List (List Nat × List Nat) := (T, [([], []), ([0], [0]), ([1], [1]), ([2], [2]), ([2], [2]), ([3, 4, 2], [2, 3, 4]), ([5, 2], [2, 5]), ([2], [2]), ([6, 7, 2, 2], [2, 6, 7]), ([8, 2], [2, 8]), ([2, 9], [2, 9])])
def Qan.B6 : List Nat := [0, 1, 3, 7, 7, 31, 63, 7, 255, 511, 1023]
theorem Qan.tab6 : rtab .any (opsOf Try.f103 6) = Qan.T6 := by kernel_rfl
theorem Qan.bits6 : QbP Qan.T6.2 Qan.B6 = T := by kernel_rfl
def Qan.T9 : Bool × List (List Nat × List Nat) := (T, [([], []), ([], []), ([0, 1], [0, 1]), ([2], [2]), ([3], [3]), ([], []), ([5], [5]), ([4, 6], [4, 6]), ([7], [7]), ([8], [8]), ([8], [8]), ([9, 10, 8], [8, 9, 10]), ([11, 8], [8, 11]), ([12, 8], [8, 12]), ([8], [8]), ([14, 8], [8, 14]), ([13, 15, 8], [8, 13, 15]), ([8, 16], [8, 16])])
def Qan.B9 : List Nat := [0, 0, 3, 7, 15, 0, 32, 127, 255, 511, 511, 2047, 4095, 8191, 511, 16895, 65535, 131071]
theorem Qan.tab9 : rtab .any (opsOf Try.f103 9) = Qan.T9 := by kernel_rfl
theorem Qan.bits9 : QbP Qan.T9.2 Qan.B9 = T := by kernel_rfl
set_option maxHeartbeats 8000000 in
set_option maxRecDepth 100000 in
theorem Qan.calls (k : Nat) (A0 : Option Addr) (c0 : Nat) (l0 : List (S46)) (a1_0 : ByteArray) (a1_1 : ByteArray) (a1_2 : ByteArray) (a1_3 : Int) (r : List (S46)) (w : World) (hr0 : Kd.C k46 w A0 l0.length l0) (hc0 : l0.length ≤ c0) (h : Qan.f k l0 a1_0 a1_1 a1_2 a1_3 = some r) :
  Calls Try.prog 103 #[.slice A0 l0.length c0, .agg #[.string a1_0, .string a1_1, .string a1_2, .int .i64 a1_3]] w fun e w' => ∃ v0_ : Value, e = .returned (v0_) ∧ Kd.R k46 46 w' w.heap.size (fun _ => True) v0_ r ∧ Below w.heap.size w w' := by
 have hu46 := Try.underlying46
 have hu44 := Try.underlying44
 have HR0 := Aside0.mk hr0
 have HC0 := Aside0.mk hc0
 clear hr0 hc0
 have HB := Aside0.mk (Below.refl w.heap.size w)
 have H : (Qan.l0 k l0 (([] : List (S46))) (a1_3 == 0) 0 a1_0 a1_1 a1_2 a1_3) = some r := h
 clear h
 obtain ⟨y826, hy826⟩ : ∃ y_ : List (S46), y_ = (([] : List (S46))) := ⟨_, rfl⟩
 replace H : (Qan.l0 k l0 y826 (a1_3 == 0) 0 a1_0 a1_1 a1_2 a1_3) = some r := by first | (rw [hy826]; with_reducible exact H) | (have H2_ := (Option.bind_some _ _).symm.trans H; rw [hy826]; with_reducible exact H2_) | (have H2_ := (Option.bind_some _ _).symm.trans H; with_reducible exact H2_) | with_reducible exact H | (rw [hy826]; exact H) | exact H
 have Ny826 := Aside0.mk hy826
 clear hy826
 have H' := Aside0.mk H
 clear H
 go_enter Try.func103, Try.ntmps103
 go_wp2_with (first | ((with_reducible refine QaG (N := 3) rfl ?_); refine Zbx (N := 3) (cs := #[.string a1_0, .string a1_1, .string a1_2, .int .i64 a1_3]) (t := 46) ?_; intro gb825 hg w3 hbox hb; have BK825 := Aside0.mk (hbox); have GW825 := Aside0.mk (Zt w hg (Zb)); have GE825 := GW825; replace HB := Aside0.mk (Qao (Zb) hb); clear hb hbox hg) | ((with_reducible refine QaG (N := 8) rfl ?_); refine Kd.R_lit k46 _ 46 ?hg (N := 8) ?hd (xs := ([] : List (S46))) (inner := []) (ok := fun _ => True) (okp := fun _ => True) ?hr ?hp (fun _ hk => hk) trivial (Below.refl _ _) (Nat.le_refl _) (by simp) ?_; (case hd => rfl); (case hg => rfl); (case hr => first | (go_simp; done) | (go_simp; rfl)); (case hp => exact (Reps.none _ _)); intro v827 w4 ho5 hb hg_ hnew_; clear hg_ hnew_; (first | rw [← Ny826.out] at ho5 | (simp only [Int.reduceToNat] at ho5; rw [← Ny826.out] at ho5)); have HO828 := Aside0.mk (Kd.R_lower (Kd.R_newB ho5 (g := gb825) (o := .cells #[.string a1_0, .string a1_1, .string a1_2, .int .i64 a1_3] 46 (0, 0)) (Zu BK825.out)) (Qam (Zc1 GE825.out))); replace BK825 := Aside0.mk (Zi BK825.out hb); replace HB := Aside0.mk (Qao (Zc1 GE825.out) hb); clear hb ho5; obtain ⟨hcz6_0, hfz6_0⟩ := Zy (v := (.string a1_0)) BK825.out 0; obtain ⟨hcz6_1, hfz6_1⟩ := Zy (v := (.string a1_1)) BK825.out 1; obtain ⟨hcz6_2, hfz6_2⟩ := Zy (v := (.string a1_2)) BK825.out 2; obtain ⟨hcz6_3, hfz6_3⟩ := Zy (v := (.int .i64 a1_3)) BK825.out 3))
 go_loopg [5, 6, 7] k (fun kq v5 v6 v7 w' => ∃ (x5_1 : List (S46)) (x6_1 : Bool) (x7_1 : Int), v6 = .bool x6_1 ∧ v7 = .int .i64 x7_1 ∧ Aside0 (Qan.l0 kq l0 x5_1 x6_1 x7_1 a1_0 a1_1 a1_2 a1_3 = some r) ∧ Aside0 (kq ≤ k) ∧ Aside0 (Kd.R k46 46 w' w.heap.size (fun k_ => k_ ≠ gb825) v5 x5_1) ∧ Aside0 (w'.heap[gb825]? = some (.cells #[.string a1_0, .string a1_1, .string a1_2, .int .i64 a1_3] 46 (0, 0))) ∧ Aside0 (Below w.heap.size w w'))
 case atStart => exact ⟨(y826), ((a1_3 == 0)), (0), (Zs), (Zs), H', ⟨Nat.le_refl _⟩, ⟨by (with_reducible repeat (first | apply Kd.R_alloc | apply Kd.R_drewN | apply Kd.R_drew)); exact Kd.R_mono HO828.out (fun _ hk => hk.2)⟩, ⟨Zu BK825.out⟩, ⟨Zc1 GE825.out⟩⟩
 case round =>
  clear H'
  try clear c1
  try clear p2
  try clear hcz6_0
  try clear hcz6_1
  try clear hcz6_2
  try clear hcz6_3
  try clear hfz6_0
  try clear hfz6_1
  try clear hfz6_2
  try clear hfz6_3
  obtain ⟨x5_1, x6_1, x7_1, rfl, rfl, HA, HK1, HO_5, BK825, HB⟩ := hrel
  cases gk with
  | zero => exact absurd HA.out (by simp [Qan.l0])
  | succ k1 =>
   have H := HA.out
   clear HA
   simp only [Qan.l0] at H
   by_cases c7 : x7_1 < (l0.length : Int)
   ·rw [if_pos c7] at H
    have c7b0 : decide (x7_1 < (l0.length : Int)) = T := decide_eq_true c7
    clear c7
    (try simp only [c7b0])
    have HC8 := Aside0.mk H
    clear H
    go_upto_region 6 with (fail)
    go_cut [28] (fun v28 wc => ∃ (kq : Nat) (x28_7 : Bool), v28 = .bool x28_7 ∧ Aside0 (Qan.j1 kq l0 x5_1 x6_1 x7_1 x28_7 a1_0 a1_1 a1_2 a1_3 = some r) ∧ Aside0 (kq ≤ k1) ∧ Aside0 (Kd.R k46 46 wc w.heap.size (fun k_ => k_ ≠ gb825) u5 x5_1) ∧ Aside0 (wc.heap[gb825]? = some (.cells #[.string a1_0, .string a1_1, .string a1_2, .int .i64 a1_3] 46 (0, 0))) ∧ Aside0 (Below w.heap.size w wc))
    case first =>
     have H := HC8.out
     clear HC8
     by_cases c9 : x6_1 = T
     ·subst c9
      have H1 : (Qan.j1 k1 l0 x5_1 T x7_1 F a1_0 a1_1 a1_2 a1_3) = some r := by rw [if_pos rfl] at H; exact H
      clear H
      have H := H1
      clear H1
      have H' := Aside0.mk H
      clear H
      try go_wp2
      replace HO_5 := Aside0.mk (Kd.R_drew HO_5.out)
      replace BK825 := Aside0.mk (Qad BK825.out)
      replace HB := Aside0.mk (Qag HB.out)
      refine start_ (n := 11) (S := fun w' => True) (ds := []) #[F, F, F, F, F, F, F, F, F, F, F] (by kernel_rfl) rfl rfl trivial (fun hHeld => ?_); refine Qbz Qan.tab6 Qan.bits6 (fun HT_ HW_ => ?_)
      generalize wr.drew = w10 at HO_5 BK825 HB hHeld ⊢
      refine pure_ (i := 0) (N := some 18) (v := ?_) (a' := ?_) #[T, F, F, F, F, F, F, F, F, F, F] rfl rfl (any_of HT_.out (by kernel_rfl)) (fun _ _ _ h => h) (Or.inl ⟨by rfl, ?_⟩) ?_ ?_
      rotate_left
      ·intro w'
       go_simp
       with_reducible rfl
      rotate_left
      ·simp only [Act.put, Zj, Zk, Zm, i64_w, i32_w]
       rfl
      refine pure_ (i := 1) (N := some 19) (v := ?_) (a' := ?_) #[T, T, F, F, F, F, F, F, F, F, F] rfl rfl (any_of HT_.out (by kernel_rfl)) (fun _ _ _ h => h) (Or.inl ⟨by rfl, ?_⟩) ?_ ?_
      rotate_left
      ·intro w'
       go_simp
       with_reducible rfl
      rotate_left
      ·simp only [Act.put, Zj, Zk, Zm, i64_w, i32_w]
       rfl
      refine pure_ (i := 2) (N := some 20) (v := ?_) (a' := ?_) #[T, T, T, F, F, F, F, F, F, F, F] rfl rfl (any_of HT_.out (by kernel_rfl)) (fun _ _ _ h => h) (Or.inl ⟨by rfl, ?_⟩) ?_ ?_
      rotate_left
      ·intro w'
       go_simp
       with_reducible rfl
      rotate_left
      ·simp only [Act.put, Zj, Zk, Zm, i64_w, i32_w]
       rfl
      refine pure_ (i := 3) (N := some 21) (v := undef) (a' := ?_) #[T, T, T, T, F, F, F, F, F, F, F] rfl rfl (any_of HT_.out (by kernel_rfl)) (fun _ _ _ h => h) (Or.inr ⟨by rfl, rfl⟩) ?_ ?_
      rotate_left
      ·simp only [Act.put, Zj, Zk, Zm, i64_w, i32_w]
       rfl
      refine pure_ (i := 4) (N := some 22) (v := undef) (a' := ?_) #[T, T, T, T, T, F, F, F, F, F, F] rfl rfl (any_of HT_.out (by kernel_rfl)) (fun _ _ _ h => h) (Or.inr ⟨by rfl, rfl⟩) ?_ ?_
      rotate_left
      ·simp only [Act.put, Zj, Zk, Zm, i64_w, i32_w]
       rfl
      refine pure_ (i := 5) (N := some 23) (v := undef) (a' := ?_) #[T, T, T, T, T, T, F, F, F, F, F] rfl rfl (any_of HT_.out (by kernel_rfl)) (fun _ _ _ h => h) (Or.inr ⟨by rfl, rfl⟩) ?_ ?_
      rotate_left
      ·simp only [Act.put, Zj, Zk, Zm, i64_w, i32_w]
       rfl
      refine pure_ (i := 6) (N := some 24) (v := undef) (a' := ?_) #[T, T, T, T, T, T, T, F, F, F, F] rfl rfl (any_of HT_.out (by kernel_rfl)) (fun _ _ _ h => h) (Or.inr ⟨by rfl, rfl⟩) ?_ ?_
      rotate_left
      ·simp only [Act.put, Zj, Zk, Zm, i64_w, i32_w]
       rfl
      refine pure_ (i := 7) (N := some 25) (v := undef) (a' := ?_) #[T, T, T, T, T, T, T, T, F, F, F] rfl rfl (any_of HT_.out (by kernel_rfl)) (fun _ _ _ h => h) (Or.inr ⟨by rfl, rfl⟩) ?_ ?_
      rotate_left
      ·simp only [Act.put, Zj, Zk, Zm, i64_w, i32_w]
       rfl
      refine pure_ (i := 8) (N := some 26) (v := undef) (a' := ?_) #[T, T, T, T, T, T, T, T, T, F, F] rfl rfl (any_of HT_.out (by kernel_rfl)) (fun _ _ _ h => h) (Or.inr ⟨by rfl, rfl⟩) ?_ ?_
      rotate_left
      ·simp only [Act.put, Zj, Zk, Zm, i64_w, i32_w]
       rfl
      refine pure_ (i := 9) (N := some 27) (v := undef) (a' := ?_) #[T, T, T, T, T, T, T, T, T, T, F] rfl rfl (any_of HT_.out (by kernel_rfl)) (fun _ _ _ h => h) (Or.inr ⟨by rfl, rfl⟩) ?_ ?_
      rotate_left
      ·simp only [Act.put, Zj, Zk, Zm, i64_w, i32_w]
       rfl
      refine pure_ (i := 10) (N := some 28) (v := ?_) (a' := ?_) #[T, T, T, T, T, T, T, T, T, T, T] rfl rfl (any_of HT_.out (by kernel_rfl)) (fun _ _ _ h => h) (Or.inl ⟨by rfl, ?_⟩) ?_ ?_
      rotate_left
      ·intro w'
       go_simp
       with_reducible rfl
      rotate_left
      ·simp only [Act.put, Zj, Zk, Zm, i64_w, i32_w]
       rfl
      refine done_ (QbJ HT_.out (by kernel_rfl)) ?_
      try go_wp2
      go_meet
      case rel => exact ⟨_, (F), (Zs), H', ⟨by have := HK1.out; first | omega | exact Nat.le_refl _⟩, ⟨Zr HO_5.out⟩, ⟨Zu BK825.out⟩, ⟨Zc1 GE825.out⟩⟩
     replace c9 := Bool.eq_false_iff.mpr c9
     subst c9
     have H1 : (if 0 ≤ x7_1 then ((Qbk.f ((rd_T46 l0 x7_1).f0.f0) ((rd_T46 l0 x7_1).f0.f1) ((rd_T46 l0 x7_1).f1) ((rd_T46 l0 x7_1).f2) a1_0 a1_1 a1_2 a1_3).bind fun t833 => (Qan.j1 k1 l0 x5_1 F x7_1 (!t833) a1_0 a1_1 a1_2 a1_3)) else (none)) = some r := by rw [if_neg (show ¬ (F = T) by decide)] at H; exact H
     clear H
     have H := H1
     clear H1
     by_cases c11 : 0 ≤ x7_1
     ·rw [if_pos c11] at H
      have c11b0 : decide (0 ≤ x7_1) = T := decide_eq_true c11
      clear c11
      (first | rw [c11b0] | (simp only [i64_w, i32_w]; rw [c11b0]) | skip)
      replace H := Option.bind_eq_some_iff.mp H
      obtain ⟨t833, A120, H⟩ := H
      replace H : (Qan.j1 k1 l0 x5_1 F x7_1 (!t833) a1_0 a1_1 a1_2 a1_3) = some r := H
      have A12 := Aside0.mk A120
      clear A120
      have H' := Aside0.mk H
      clear H
      try go_wp2
      replace HO_5 := Aside0.mk (Kd.R_drew HO_5.out)
      replace BK825 := Aside0.mk (Qad BK825.out)
      replace HB := Aside0.mk (Qag HB.out)
      have p832 : 0 ≤ (x7_1 : Int) := Ze
      have q832 : x7_1 < (l0.length : Int) := Ze
      obtain ⟨ad832, e832, hx832_0, hx832_1, hx832_2, hx832_3⟩ := at_T46 HR0.out x7_1 p832 q832
      have hw832_3 := hx832_3
      have hw832_2 := hx832_2
      have hw832_1 := hx832_1
      have hw832_0 := hx832_0
      cases e832
      replace hx832_0 := Zx HB.out hx832_0
      replace hx832_1 := Zx HB.out hx832_1
      replace hx832_2 := Zx HB.out hx832_2
      replace hx832_3 := Zx HB.out hx832_3
      replace p832 := eq_true p832
      replace q832 := eq_true q832
      refine start_ (n := 11) (S := fun w' => w'.cell? ⟨gb825, 0, none⟩ = some (.string a1_0) ∧ w'.cell? ⟨gb825, 1, none⟩ = some (.string a1_1) ∧ w'.cell? ⟨gb825, 2, none⟩ = some (.string a1_2) ∧ w'.cell? ⟨gb825, 3, none⟩ = some (.int .i64 a1_3) ∧ w'.cell? (ad832.add ((x7_1).toNat * 4)) = some (.string ((rd_T46 l0 x7_1).f0.f0)) ∧ w'.cell? ⟨(ad832.add ((x7_1).toNat * 4)).block, (ad832.add ((x7_1).toNat * 4)).off + 1, none⟩ = some (.string ((rd_T46 l0 x7_1).f0.f1)) ∧ w'.cell? ⟨(ad832.add ((x7_1).toNat * 4)).block, (ad832.add ((x7_1).toNat * 4)).off + 2, none⟩ = some (.string ((rd_T46 l0 x7_1).f1)) ∧ w'.cell? ⟨(ad832.add ((x7_1).toNat * 4)).block, (ad832.add ((x7_1).toNat * 4)).off + 3, none⟩ = some (.int .i64 ((rd_T46 l0 x7_1).f2))) (ds := []) #[F, F, F, F, F, F, F, F, F, F, F] (by kernel_rfl) rfl rfl ⟨(Qai BK825.out 0).trans rfl, (Qai BK825.out 1).trans rfl, (Qai BK825.out 2).trans rfl, (Qai BK825.out 3).trans rfl, ((HB.out.cell (World.block_lt_of_cell? w _ hw832_0)).trans hw832_0), ((HB.out.cell (World.block_lt_of_cell? w _ hw832_1)).trans hw832_1), ((HB.out.cell (World.block_lt_of_cell? w _ hw832_2)).trans hw832_2), ((HB.out.cell (World.block_lt_of_cell? w _ hw832_3)).trans hw832_3)⟩ (fun hHeld => ?_); refine Qbz Qan.tab6 Qan.bits6 (fun HT_ HW_ => ?_)
      generalize wr.drew = w13 at HO_5 BK825 HB hx832_0 hx832_1 hx832_2 hx832_3 hHeld ⊢
      refine pure_ (i := 0) (N := some 18) (v := ?_) (a' := ?_) #[T, F, F, F, F, F, F, F, F, F, F] rfl rfl (any_of HT_.out (by kernel_rfl)) (fun _ _ _ h => h) (Or.inl ⟨by rfl, ?_⟩) ?_ ?_
      rotate_left
      ·intro w'
       go_simp
       with_reducible rfl
      rotate_left
      ·simp only [Act.put, Zj, Zk, Zm, i64_w, i32_w]
       rfl
      refine pure_ (i := 1) (N := some 19) (v := ?_) (a' := ?_) #[T, T, F, F, F, F, F, F, F, F, F] rfl rfl (any_of HT_.out (by kernel_rfl)) (fun _ _ _ h => h) (Or.inl ⟨by rfl, ?_⟩) ?_ ?_
      rotate_left
      ·intro w'
       go_simp
       with_reducible rfl
      rotate_left
      ·simp only [Act.put, Zj, Zk, Zm, i64_w, i32_w]
       rfl
      refine pure_ (i := 2) (N := some 20) (v := ?_) (a' := ?_) #[T, T, T, F, F, F, F, F, F, F, F] rfl rfl (any_of HT_.out (by kernel_rfl)) (fun _ _ _ h => h) (Or.inl ⟨by rfl, ?_⟩) ?_ ?_
      rotate_left
      ·intro w'
       go_simp
       with_reducible rfl
      rotate_left
      ·simp only [Act.put, Zj, Zk, Zm, i64_w, i32_w]
       rfl
      refine pure_ (i := 3) (N := some 21) (v := ?_) (a' := ?_) #[T, T, T, T, F, F, F, F, F, F, F] rfl rfl (any_of HT_.out (by kernel_rfl)) (fun _ _ _ h => h) (Or.inl ⟨by rfl, ?_⟩) ?_ ?_
      rotate_left
      ·intro w'
       go_simp
       with_reducible rfl
      rotate_left
      ·simp only [Act.put, Zj, Zk, Zm, i64_w, i32_w]
       rfl
      refine pure_ (i := 4) (N := some 22) (v := ?_) (a' := ?_) #[T, T, T, T, T, F, F, F, F, F, F] rfl rfl (any_of HT_.out (by kernel_rfl)) (fun _ _ _ h => h) (Or.inl ⟨by rfl, ?_⟩) ?_ ?_
      rotate_left
      ·intro w'
       go_simp
       with_reducible rfl
      rotate_left
      ·simp only [Act.put, Zj, Zk, Zm, i64_w, i32_w]
       rfl
      refine pure_ (i := 5) (N := some 23) (v := ?_) (a' := ?_) #[T, T, T, T, T, T, F, F, F, F, F] rfl rfl (any_of HT_.out (by kernel_rfl)) (fun _ _ _ h => h) (Or.inl ⟨by rfl, ?_⟩) ?_ ?_
      rotate_left
      ·intro w'
       go_simp
       with_reducible rfl
      rotate_left
      ·simp only [Act.put, Zj, Zk, Zm, i64_w, i32_w]
       rfl
      refine take_ (i := 6) (N := some 24) (v := ?_) (a' := ?_) #[T, T, T, T, T, T, T, F, F, F, F] rfl rfl (Qbm HT_.out HW_.out (by kernel_rfl)) (fun _ _ _ h => h) (Or.inl ⟨by rfl, ?_⟩) hHeld ?_ ?_
      rotate_left
      ·rintro w' ⟨s0, s1, s2, s3, s4, s5, s6, s7⟩
       go_simp
       with_reducible rfl
      rotate_left
      ·simp only [Act.put, Zj, Zk, Zm, i64_w, i32_w]
       rfl
      refine take_ (i := 7) (N := some 25) (v := ?_) (a' := ?_) #[T, T, T, T, T, T, T, T, F, F, F] rfl rfl (Qbm HT_.out HW_.out (by kernel_rfl)) (fun _ _ _ h => h) (Or.inl ⟨by rfl, ?_⟩) hHeld ?_ ?_
      rotate_left
      ·rintro w' ⟨s0, s1, s2, s3, s4, s5, s6, s7⟩
       go_simp
       with_reducible rfl
      rotate_left
      ·simp only [Act.put, Zj, Zk, Zm, i64_w, i32_w]
       rfl
      refine one_ (i := 8) (N := some 26) #[T, T, T, T, T, T, T, T, T, F, F] rfl rfl (one_of HT_.out (by kernel_rfl)) (by decide) (fun K hK => ?_)
      refine goes_ Try.func100 (by kernel_rfl) rfl #[.agg #[.string ((rd_T46 l0 x7_1).f0.f0), .string ((rd_T46 l0 x7_1).f0.f1), .string ((rd_T46 l0 x7_1).f1), .int .i64 ((rd_T46 l0 x7_1).f2)], .agg #[.string a1_0, .string a1_1, .string a1_2, .int .i64 a1_3]] (by rfl) rfl rfl (Zl) ?_
      with_reducible refine (Qbk.calls ((rd_T46 l0 x7_1).f0.f0) ((rd_T46 l0 x7_1).f0.f1) ((rd_T46 l0 x7_1).f1) ((rd_T46 l0 x7_1).f2) a1_0 a1_1 a1_2 a1_3 t833 _ A12.out).mono ?_
      rintro e w14 ⟨rfl, hb⟩
      refine ⟨_, rfl, ?_⟩
      replace HO_5 := Aside0.mk (Kd.R_below (Zr HO_5.out) hb)
      replace BK825 := Aside0.mk (Zi BK825.out hb)
      replace HB := Aside0.mk (Qao (Zc1 GE825.out) hb)
      (try clear hb)
      (try clear hb2)
      (try clear hk)
      (try clear hi)
      refine hK.out _ _ ⟨(Qai BK825.out 0).trans rfl, (Qai BK825.out 1).trans rfl, (Qai BK825.out 2).trans rfl, (Qai BK825.out 3).trans rfl, ((HB.out.cell (World.block_lt_of_cell? w _ hw832_0)).trans hw832_0), ((HB.out.cell (World.block_lt_of_cell? w _ hw832_1)).trans hw832_1), ((HB.out.cell (World.block_lt_of_cell? w _ hw832_2)).trans hw832_2), ((HB.out.cell (World.block_lt_of_cell? w _ hw832_3)).trans hw832_3)⟩ (fun hHeld => ?_)
      clear hK K
      refine norm_ (a' := ?_) ?_ ?_
      rotate_left
      ·show Act.put _ (some 26) _ = _
       simp only [Act.put, Zj, Zk, Zm, i64_w, i32_w]
       rfl
      refine pure_ (i := 9) (N := some 27) (v := ?_) (a' := ?_) #[T, T, T, T, T, T, T, T, T, T, F] rfl rfl (any_of HT_.out (by kernel_rfl)) (fun _ _ _ h => h) (Or.inl ⟨by rfl, ?_⟩) ?_ ?_
      rotate_left
      ·intro w'
       go_simp
       with_reducible rfl
      rotate_left
      ·simp only [Act.put, Zj, Zk, Zm, i64_w, i32_w]
       rfl
      refine pure_ (i := 10) (N := some 28) (v := ?_) (a' := ?_) #[T, T, T, T, T, T, T, T, T, T, T] rfl rfl (any_of HT_.out (by kernel_rfl)) (fun _ _ _ h => h) (Or.inl ⟨by rfl, ?_⟩) ?_ ?_
      rotate_left
      ·intro w'
       go_simp
       with_reducible rfl
      rotate_left
      ·simp only [Act.put, Zj, Zk, Zm, i64_w, i32_w]
       rfl
      refine done_ (QbJ HT_.out (by kernel_rfl)) ?_
      try go_wp2
      go_meet
      case rel => exact ⟨_, (!t833), (Zs), H', ⟨by have := HK1.out; first | omega | exact Nat.le_refl _⟩, ⟨Zr HO_5.out⟩, ⟨Zu BK825.out⟩, ⟨Zc1 GE825.out⟩⟩
     rw [if_neg c11] at H
     exact absurd H (by simp)
    case rest =>
     clear HC8
     try clear c1
     try clear p2
     try clear c7
     try clear c7b0
     try clear p8
     try clear q8
     try clear hx8
     try clear c9
     try clear c10
     try clear c11
     try clear c11b0
     try clear hcz6_0
     try clear hcz6_1
     try clear hcz6_2
     try clear hcz6_3
     try clear hfz6_0
     try clear hfz6_1
     try clear hfz6_2
     try clear hfz6_3
     try clear hx832_0
     try clear hx832_1
     try clear hx832_2
     try clear hx832_3
     try clear p2
     try clear p832
     try clear q832
     obtain ⟨kq, x28_7, rfl, HA, HJ7, HO_5, BK825, HB⟩ := hcut
     cases kq with
     | zero => exact absurd HA.out (by simp [Qan.j1])
     | succ kj7 =>
      have H := HA.out
      clear HA
      simp only [Qan.j1] at H
      by_cases c15 : x28_7 = T
      ·subst c15
       have H1 : (if x5_1.length < 2513169434916 then ((some (x5_1 ++ [(⟨(⟨a1_0, a1_1⟩ : S44), a1_2, a1_3⟩ : S46)] : List (S46))).bind fun y834 => (if 0 ≤ x7_1 then (if x7_1 < (l0.length : Int) then (if (!((((rd_T46 l0 x7_1).f0.f0).toList) == a1_0.toList) || (!((((rd_T46 l0 x7_1).f0.f1).toList) == a1_1.toList))) = T then (if y834.length < 2513169434916 then (Qan.l0 kj7 l0 (y834 ++ [(⟨(⟨(rd_T46 l0 x7_1).f0.f0, (rd_T46 l0 x7_1).f0.f1⟩ : S44), (rd_T46 l0 x7_1).f1, (rd_T46 l0 x7_1).f2⟩ : S46)]) T (wrap64 (x7_1 + 1)) a1_0 a1_1 a1_2 a1_3) else (none)) else (if ((rd_T46 l0 x7_1).f1).toList = a1_2.toList then (Qan.l0 kj7 l0 y834 T (wrap64 (x7_1 + 1)) a1_0 a1_1 a1_2 a1_3) else (if y834.length < 2513169434916 then (Qan.l0 kj7 l0 (y834 ++ [(⟨(⟨(rd_T46 l0 x7_1).f0.f0, (rd_T46 l0 x7_1).f0.f1⟩ : S44), (rd_T46 l0 x7_1).f1, (rd_T46 l0 x7_1).f2⟩ : S46)]) T (wrap64 (x7_1 + 1)) a1_0 a1_1 a1_2 a1_3) else (none)))) else (none)) else (none))) else (none)) = some r := by rw [if_pos rfl] at H; exact H
       clear H
       have H := H1
       clear H1
       by_cases c16 : x5_1.length < 2513169434916
       ·rw [if_pos c16] at H
        have LMc16 := Aside0.mk c16
        clear c16
        obtain ⟨y834, hy834⟩ : ∃ y_ : List (S46), y_ = (x5_1 ++ [(⟨(⟨a1_0, a1_1⟩ : S44), a1_2, a1_3⟩ : S46)]) := ⟨_, rfl⟩
        replace H : (if 0 ≤ x7_1 then (if x7_1 < (l0.length : Int) then (if (!((((rd_T46 l0 x7_1).f0.f0).toList) == a1_0.toList) || (!((((rd_T46 l0 x7_1).f0.f1).toList) == a1_1.toList))) = T then (if y834.length < 2513169434916 then (Qan.l0 kj7 l0 (y834 ++ [(⟨(⟨(rd_T46 l0 x7_1).f0.f0, (rd_T46 l0 x7_1).f0.f1⟩ : S44), (rd_T46 l0 x7_1).f1, (rd_T46 l0 x7_1).f2⟩ : S46)]) T (wrap64 (x7_1 + 1)) a1_0 a1_1 a1_2 a1_3) else (none)) else (if ((rd_T46 l0 x7_1).f1).toList = a1_2.toList then (Qan.l0 kj7 l0 y834 T (wrap64 (x7_1 + 1)) a1_0 a1_1 a1_2 a1_3) else (if y834.length < 2513169434916 then (Qan.l0 kj7 l0 (y834 ++ [(⟨(⟨(rd_T46 l0 x7_1).f0.f0, (rd_T46 l0 x7_1).f0.f1⟩ : S44), (rd_T46 l0 x7_1).f1, (rd_T46 l0 x7_1).f2⟩ : S46)]) T (wrap64 (x7_1 + 1)) a1_0 a1_1 a1_2 a1_3) else (none)))) else (none)) else (none)) = some r := by first | (rw [hy834]; with_reducible exact H) | (have H2_ := (Option.bind_some _ _).symm.trans H; rw [hy834]; with_reducible exact H2_) | (have H2_ := (Option.bind_some _ _).symm.trans H; with_reducible exact H2_) | with_reducible exact H | (rw [hy834]; exact H) | exact H
        have Ny834 := Aside0.mk hy834
        clear hy834
        by_cases c17 : 0 ≤ x7_1
        ·rw [if_pos c17] at H
         have c17b0 : decide (0 ≤ x7_1) = T := decide_eq_true c17
         clear c17
         (first | rw [c17b0] | (simp only [i64_w, i32_w]; rw [c17b0]) | skip)
         by_cases c18 : x7_1 < (l0.length : Int)
         ·rw [if_pos c18] at H
          have c18b0 : decide (x7_1 < (l0.length : Int)) = T := decide_eq_true c18
          clear c18
          by_cases c19 : (!((((rd_T46 l0 x7_1).f0.f0).toList) == a1_0.toList) || (!((((rd_T46 l0 x7_1).f0.f1).toList) == a1_1.toList))) = T
          ·rw [if_pos c19] at H
           have c19b0 : (!((((rd_T46 l0 x7_1).f0.f0).toList) == a1_0.toList) || (!((((rd_T46 l0 x7_1).f0.f1).toList) == a1_1.toList))) = T := c19
           clear c19
           by_cases c20 : y834.length < 2513169434916
           ·rw [if_pos c20] at H
            have LMc20 := Aside0.mk c20
            clear c20
            obtain ⟨y839, hy839⟩ : ∃ y_ : List (S46), y_ = (y834 ++ [(⟨(⟨(rd_T46 l0 x7_1).f0.f0, (rd_T46 l0 x7_1).f0.f1⟩ : S44), (rd_T46 l0 x7_1).f1, (rd_T46 l0 x7_1).f2⟩ : S46)]) := ⟨_, rfl⟩
            replace H : (Qan.l0 kj7 l0 y839 T (wrap64 (x7_1 + 1)) a1_0 a1_1 a1_2 a1_3) = some r := by first | (rw [hy839]; with_reducible exact H) | (have H2_ := (Option.bind_some _ _).symm.trans H; rw [hy839]; with_reducible exact H2_) | (have H2_ := (Option.bind_some _ _).symm.trans H; with_reducible exact H2_) | with_reducible exact H | (rw [hy839]; exact H) | exact H
            have Ny839 := Aside0.mk hy839
            clear hy839
            have H' := Aside0.mk H
            clear H
            obtain ⟨hcz21_0, hfz21_0⟩ := Zy (v := (.string a1_0)) BK825.out 0
            obtain ⟨hcz21_1, hfz21_1⟩ := Zy (v := (.string a1_1)) BK825.out 1
            obtain ⟨hcz21_2, hfz21_2⟩ := Zy (v := (.string a1_2)) BK825.out 2
            obtain ⟨hcz21_3, hfz21_3⟩ := Zy (v := (.int .i64 a1_3)) BK825.out 3
            try go_wp2_with (first | ((with_reducible refine Qbv (b := .append) (xs := #[.tmp 29, .tmp 31]) rfl ?_); at_builtin; refine Kd.R_append k46 (w0 := w) w.heap.size rfl (.tmp 29) (.tmp 31) 30 46 (.agg #[(.string ⟨#[]⟩), (.string ⟨#[]⟩), (.string ⟨#[]⟩), (.int .i64 0)]) 56 rfl Try.underlying30 info46 rfl (by decide) (by omega) u5 x5_1 (⟨(⟨a1_0, a1_1⟩ : S44), a1_2, a1_3⟩ : S46) [.string a1_0, .string a1_1, .string a1_2, .int .i64 a1_3] (fun k_ => k_ ≠ gb825) (fun _ => False) rfl rfl ?aP (fun _ hk => hk.elim) ?aF ?aO ?aB ?aS ?aL ?_; (case aP => exact QbS _ _ _ (⟨(⟨a1_0, a1_1⟩ : S44), a1_2, a1_3⟩ : S46)); (case aB => exact (Zc1 GE825.out)); (case aF => exact (fun k_ hk => Kd.freshB (g := gb825) (o := .cells #[.string a1_0, .string a1_1, .string a1_2, .int .i64 a1_3] 46 (0, 0)) (Zu BK825.out) k_ hk)); (case aO => exact (Zr HO_5.out)); (case aS => exact (Qam (Zc1 GE825.out))); (case aL => have := LMc16.out; omega); intro v835 w22 ho hb hg hat; rw [← Ny834.out] at ho; have HO836 := Aside0.mk (ho); replace BK825 := Aside0.mk (Qa7 (g := gb825) (o := .cells #[.string a1_0, .string a1_1, .string a1_2, .int .i64 a1_3] 46 (0, 0)) (Zu BK825.out) hg (Kd.R_away HO_5.out (fun _ hk => hk))); replace HB := Aside0.mk (hb); clear HO_5; clear ho hb hg hat))
            replace HO836 := Aside0.mk (Kd.R_drew HO836.out)
            replace BK825 := Aside0.mk (Qad BK825.out)
            replace HB := Aside0.mk (Qag HB.out)
            have p837 : 0 ≤ (x7_1 : Int) := Ze
            have q837 : x7_1 < (l0.length : Int) := Ze
            obtain ⟨ad837, e837, hx837_0, hx837_1, hx837_2, hx837_3⟩ := at_T46 HR0.out x7_1 p837 q837
            have hw837_3 := hx837_3
            have hw837_2 := hx837_2
            have hw837_1 := hx837_1
            have hw837_0 := hx837_0
            cases e837
            replace hx837_0 := Zx HB.out hx837_0
            replace hx837_1 := Zx HB.out hx837_1
            replace hx837_2 := Zx HB.out hx837_2
            replace hx837_3 := Zx HB.out hx837_3
            replace p837 := eq_true p837
            replace q837 := eq_true q837
            refine start_ (n := 18) (S := fun w' => w'.cell? ⟨gb825, 0, none⟩ = some (.string a1_0) ∧ w'.cell? ⟨gb825, 1, none⟩ = some (.string a1_1) ∧ w'.cell? ⟨gb825, 2, none⟩ = some (.string a1_2) ∧ w'.cell? ⟨gb825, 3, none⟩ = some (.int .i64 a1_3) ∧ w'.cell? (ad837.add ((x7_1).toNat * 4)) = some (.string ((rd_T46 l0 x7_1).f0.f0)) ∧ w'.cell? ⟨(ad837.add ((x7_1).toNat * 4)).block, (ad837.add ((x7_1).toNat * 4)).off + 1, none⟩ = some (.string ((rd_T46 l0 x7_1).f0.f1)) ∧ w'.cell? ⟨(ad837.add ((x7_1).toNat * 4)).block, (ad837.add ((x7_1).toNat * 4)).off + 2, none⟩ = some (.string ((rd_T46 l0 x7_1).f1)) ∧ w'.cell? ⟨(ad837.add ((x7_1).toNat * 4)).block, (ad837.add ((x7_1).toNat * 4)).off + 3, none⟩ = some (.int .i64 ((rd_T46 l0 x7_1).f2))) (ds := []) #[F, F, F, F, F, F, F, F, F, F, F, F, F, F, F, F, F, F] (by kernel_rfl) rfl rfl ⟨(Qai BK825.out 0).trans rfl, (Qai BK825.out 1).trans rfl, (Qai BK825.out 2).trans rfl, (Qai BK825.out 3).trans rfl, ((HB.out.cell (World.block_lt_of_cell? w _ hw837_0)).trans hw837_0), ((HB.out.cell (World.block_lt_of_cell? w _ hw837_1)).trans hw837_1), ((HB.out.cell (World.block_lt_of_cell? w _ hw837_2)).trans hw837_2), ((HB.out.cell (World.block_lt_of_cell? w _ hw837_3)).trans hw837_3)⟩ (fun hHeld => ?_); refine Qbz Qan.tab9 Qan.bits9 (fun HT_ HW_ => ?_)
            generalize w22.drew = w23 at HO836 BK825 HB hx837_0 hx837_1 hx837_2 hx837_3 hHeld ⊢
            refine pure_ (i := 0) (N := some 33) (v := ?_) (a' := ?_) #[T, F, F, F, F, F, F, F, F, F, F, F, F, F, F, F, F, F] rfl rfl (any_of HT_.out (by kernel_rfl)) (fun _ _ _ h => h) (Or.inl ⟨by rfl, ?_⟩) ?_ ?_
            rotate_left
            ·intro w'
             go_simp
             with_reducible rfl
            rotate_left
            ·simp only [Act.put, Zj, Zk, Zm, i64_w, i32_w]
             rfl
            refine pure_ (i := 1) (N := some 34) (v := ?_) (a' := ?_) #[T, T, F, F, F, F, F, F, F, F, F, F, F, F, F, F, F, F] rfl rfl (any_of HT_.out (by kernel_rfl)) (fun _ _ _ h => h) (Or.inl ⟨by rfl, ?_⟩) ?_ ?_
            rotate_left
            ·intro w'
             go_simp
             with_reducible rfl
            rotate_left
            ·simp only [Act.put, Zj, Zk, Zm, i64_w, i32_w]
             rfl
            refine pure_ (i := 2) (N := some 35) (v := ?_) (a' := ?_) #[T, T, T, F, F, F, F, F, F, F, F, F, F, F, F, F, F, F] rfl rfl (any_of HT_.out (by kernel_rfl)) (fun _ _ _ h => h) (Or.inl ⟨by rfl, ?_⟩) ?_ ?_
            rotate_left
            ·intro w'
             go_simp
             with_reducible rfl
            rotate_left
            ·simp only [Act.put, Zj, Zk, Zm, i64_w, i32_w]
             rfl
            refine pure_ (i := 3) (N := some 36) (v := ?_) (a' := ?_) #[T, T, T, T, F, F, F, F, F, F, F, F, F, F, F, F, F, F] rfl rfl (any_of HT_.out (by kernel_rfl)) (fun _ _ _ h => h) (Or.inl ⟨by rfl, ?_⟩) ?_ ?_
            rotate_left
            ·intro w'
             go_simp
             with_reducible rfl
            rotate_left
            ·simp only [Act.put, Zj, Zk, Zm, i64_w, i32_w]
             rfl
            refine pure_ (i := 5) (N := some 38) (v := ?_) (a' := ?_) #[T, T, T, T, F, T, F, F, F, F, F, F, F, F, F, F, F, F] rfl rfl (any_of HT_.out (by kernel_rfl)) (fun _ _ _ h => h) (Or.inl ⟨by rfl, ?_⟩) ?_ ?_
            rotate_left
            ·intro w'
             go_simp
             with_reducible rfl
            rotate_left
            ·simp only [Act.put, Zj, Zk, Zm, i64_w, i32_w]
             rfl
            refine take_ (i := 4) (N := some 37) (v := ?_) (a' := ?_) #[T, T, T, T, T, T, F, F, F, F, F, F, F, F, F, F, F, F] rfl rfl (Qbm HT_.out HW_.out (by kernel_rfl)) (fun _ _ _ h => h) (Or.inl ⟨by rfl, ?_⟩) hHeld ?_ ?_
            rotate_left
            ·rintro w' ⟨s0, s1, s2, s3, s4, s5, s6, s7⟩
             go_simp
             with_reducible rfl
            rotate_left
            ·simp only [Act.put, Zj, Zk, Zm, i64_w, i32_w]
             rfl
            refine take_ (i := 6) (N := some 39) (v := ?_) (a' := ?_) #[T, T, T, T, T, T, T, F, F, F, F, F, F, F, F, F, F, F] rfl rfl (Qbm HT_.out HW_.out (by kernel_rfl)) (fun _ _ _ h => h) (Or.inl ⟨by rfl, ?_⟩) hHeld ?_ ?_
            rotate_left
            ·rintro w' ⟨s0, s1, s2, s3, s4, s5, s6, s7⟩
             go_simp
             with_reducible rfl
            rotate_left
            ·simp only [Act.put, Zj, Zk, Zm, i64_w, i32_w]
             rfl
            refine pure_ (i := 7) (N := some 40) (v := ?_) (a' := ?_) #[T, T, T, T, T, T, T, T, F, F, F, F, F, F, F, F, F, F] rfl rfl (any_of HT_.out (by kernel_rfl)) (fun _ _ _ h => h) (Or.inl ⟨by rfl, ?_⟩) ?_ ?_
            rotate_left
            ·intro w'
             go_simp
             with_reducible rfl
            rotate_left
            ·simp only [Act.put, Zj, Zk, Zm, i64_w, i32_w]
             rfl
            refine pure_ (i := 8) (N := some 41) (v := ?_) (a' := ?_) #[T, T, T, T, T, T, T, T, T, F, F, F, F, F, F, F, F, F] rfl rfl (any_of HT_.out (by kernel_rfl)) (fun _ _ _ h => h) (Or.inl ⟨by rfl, ?_⟩) ?_ ?_
            rotate_left
            ·intro w'
             go_simp
             with_reducible rfl
            rotate_left
            ·simp only [Act.put, Zj, Zk, Zm, i64_w, i32_w]
             rfl
            refine pure_ (i := 9) (N := some 42) (v := undef) (a' := ?_) #[T, T, T, T, T, T, T, T, T, T, F, F, F, F, F, F, F, F] rfl rfl (any_of HT_.out (by kernel_rfl)) (fun _ _ _ h => h) (Or.inr ⟨by rfl, rfl⟩) ?_ ?_
            rotate_left
            ·simp only [Act.put, Zj, Zk, Zm, i64_w, i32_w]
             rfl
            refine pure_ (i := 10) (N := some 43) (v := undef) (a' := ?_) #[T, T, T, T, T, T, T, T, T, T, T, F, F, F, F, F, F, F] rfl rfl (any_of HT_.out (by kernel_rfl)) (fun _ _ _ h => h) (Or.inr ⟨by rfl, rfl⟩) ?_ ?_
            rotate_left
            ·simp only [Act.put, Zj, Zk, Zm, i64_w, i32_w]
             rfl
            refine pure_ (i := 11) (N := some 44) (v := undef) (a' := ?_) #[T, T, T, T, T, T, T, T, T, T, T, T, F, F, F, F, F, F] rfl rfl (any_of HT_.out (by kernel_rfl)) (fun _ _ _ h => h) (Or.inr ⟨by rfl, rfl⟩) ?_ ?_
            rotate_left
            ·simp only [Act.put, Zj, Zk, Zm, i64_w, i32_w]
             rfl
            refine pure_ (i := 12) (N := some 45) (v := undef) (a' := ?_) #[T, T, T, T, T, T, T, T, T, T, T, T, T, F, F, F, F, F] rfl rfl (any_of HT_.out (by kernel_rfl)) (fun _ _ _ h => h) (Or.inr ⟨by rfl, rfl⟩) ?_ ?_
            rotate_left
            ·simp only [Act.put, Zj, Zk, Zm, i64_w, i32_w]
             rfl
            refine pure_ (i := 13) (N := some 46) (v := undef) (a' := ?_) #[T, T, T, T, T, T, T, T, T, T, T, T, T, T, F, F, F, F] rfl rfl (any_of HT_.out (by kernel_rfl)) (fun _ _ _ h => h) (Or.inr ⟨by rfl, rfl⟩) ?_ ?_
            rotate_left
            ·simp only [Act.put, Zj, Zk, Zm, i64_w, i32_w]
             rfl
            refine pure_ (i := 14) (N := some 47) (v := undef) (a' := ?_) #[T, T, T, T, T, T, T, T, T, T, T, T, T, T, T, F, F, F] rfl rfl (any_of HT_.out (by kernel_rfl)) (fun _ _ _ h => h) (Or.inr ⟨by rfl, rfl⟩) ?_ ?_
            rotate_left
            ·simp only [Act.put, Zj, Zk, Zm, i64_w, i32_w]
             rfl
            refine pure_ (i := 15) (N := some 48) (v := undef) (a' := ?_) #[T, T, T, T, T, T, T, T, T, T, T, T, T, T, T, T, F, F] rfl rfl (any_of HT_.out (by kernel_rfl)) (fun _ _ _ h => h) (Or.inr ⟨by rfl, rfl⟩) ?_ ?_
            rotate_left
            ·simp only [Act.put, Zj, Zk, Zm, i64_w, i32_w]
             rfl
            refine pure_ (i := 16) (N := some 49) (v := undef) (a' := ?_) #[T, T, T, T, T, T, T, T, T, T, T, T, T, T, T, T, T, F] rfl rfl (any_of HT_.out (by kernel_rfl)) (fun _ _ _ h => h) (Or.inr ⟨by rfl, rfl⟩) ?_ ?_
            rotate_left
            ·simp only [Act.put, Zj, Zk, Zm, i64_w, i32_w]
             rfl
            refine pure_ (i := 17) (N := some 50) (v := ?_) (a' := ?_) #[T, T, T, T, T, T, T, T, T, T, T, T, T, T, T, T, T, T] rfl rfl (any_of HT_.out (by kernel_rfl)) (fun _ _ _ h => h) (Or.inl ⟨by rfl, ?_⟩) ?_ ?_
            rotate_left
            ·intro w'
             go_simp
             with_reducible rfl
            rotate_left
            ·simp only [Act.put, Zj, Zk, Zm, i64_w, i32_w]
             rfl
            refine done_ (QbJ HT_.out (by kernel_rfl)) ?_
            have p838 : 0 ≤ (x7_1 : Int) := Ze
            have q838 : x7_1 < (l0.length : Int) := Ze
            obtain ⟨ad838, e838, hx838_0, hx838_1, hx838_2, hx838_3⟩ := at_T46 HR0.out x7_1 p838 q838
            obtain rfl : ad837 = ad838 := (by injection e838)
            replace hx838_0 := Zx HB.out hx838_0
            replace hx838_1 := Zx HB.out hx838_1
            replace hx838_2 := Zx HB.out hx838_2
            replace hx838_3 := Zx HB.out hx838_3
            replace p838 := eq_true p838
            replace q838 := eq_true q838
            try go_wp2_with (first | ((with_reducible refine Qbv (b := .append) (xs := #[.tmp 51, .tmp 56]) rfl ?_); at_builtin; refine Kd.R_append k46 (w0 := w) w.heap.size rfl (.tmp 51) (.tmp 56) 30 46 (.agg #[(.string ⟨#[]⟩), (.string ⟨#[]⟩), (.string ⟨#[]⟩), (.int .i64 0)]) 56 rfl Try.underlying30 info46 rfl (by decide) (by omega) v835 y834 (⟨(⟨(rd_T46 l0 x7_1).f0.f0, (rd_T46 l0 x7_1).f0.f1⟩ : S44), (rd_T46 l0 x7_1).f1, (rd_T46 l0 x7_1).f2⟩ : S46) [.string ((rd_T46 l0 x7_1).f0.f0), .string ((rd_T46 l0 x7_1).f0.f1), .string ((rd_T46 l0 x7_1).f1), .int .i64 ((rd_T46 l0 x7_1).f2)] (fun k_ => k_ ≠ gb825) (fun _ => False) rfl rfl ?aP (fun _ hk => hk.elim) ?aF ?aO ?aB ?aS ?aL ?_; (case aP => exact QbS _ _ _ (⟨(⟨(rd_T46 l0 x7_1).f0.f0, (rd_T46 l0 x7_1).f0.f1⟩ : S44), (rd_T46 l0 x7_1).f1, (rd_T46 l0 x7_1).f2⟩ : S46)); (case aB => exact (Zc1 GE825.out)); (case aF => exact (fun k_ hk => Kd.freshB (g := gb825) (o := .cells #[.string a1_0, .string a1_1, .string a1_2, .int .i64 a1_3] 46 (0, 0)) (Zu BK825.out) k_ hk)); (case aO => exact (Zr HO836.out)); (case aS => exact (Qam (Zc1 GE825.out))); (case aL => have := LMc20.out; omega); intro v840 w24 ho hb hg hat; rw [← Ny839.out] at ho; have HO841 := Aside0.mk (ho); replace BK825 := Aside0.mk (Qa7 (g := gb825) (o := .cells #[.string a1_0, .string a1_1, .string a1_2, .int .i64 a1_3] 46 (0, 0)) (Zu BK825.out) hg (Kd.R_away HO836.out (fun _ hk => hk))); replace HB := Aside0.mk (hb); clear HO836; clear ho hb hg hat))
            go_roundg kj7
            case measure => have := HK1.out; have := HJ7.out; omega
            case rel => exact ⟨(y839), (T), (wrap64 (x7_1 + 1)), (Zs), (Zs), H', ⟨by have := HK1.out; have := HJ7.out; omega⟩, ⟨Zr HO841.out⟩, ⟨Zu BK825.out⟩, ⟨Zc1 GE825.out⟩⟩
           rw [if_neg c20] at H
           exact absurd H (by simp)
          rw [if_neg c19] at H
          have c19b0 : (!((((rd_T46 l0 x7_1).f0.f0).toList) == a1_0.toList) || (!((((rd_T46 l0 x7_1).f0.f1).toList) == a1_1.toList))) = F := by simpa using c19
          clear c19
          obtain ⟨hcz25_0, hfz25_0⟩ := Zy (v := (.string a1_0)) BK825.out 0
          obtain ⟨hcz25_1, hfz25_1⟩ := Zy (v := (.string a1_1)) BK825.out 1
          obtain ⟨hcz25_2, hfz25_2⟩ := Zy (v := (.string a1_2)) BK825.out 2
          obtain ⟨hcz25_3, hfz25_3⟩ := Zy (v := (.int .i64 a1_3)) BK825.out 3
          try go_wp2_with (first | ((with_reducible refine Qbv (b := .append) (xs := #[.tmp 29, .tmp 31]) rfl ?_); at_builtin; refine Kd.R_append k46 (w0 := w) w.heap.size rfl (.tmp 29) (.tmp 31) 30 46 (.agg #[(.string ⟨#[]⟩), (.string ⟨#[]⟩), (.string ⟨#[]⟩), (.int .i64 0)]) 56 rfl Try.underlying30 info46 rfl (by decide) (by omega) u5 x5_1 (⟨(⟨a1_0, a1_1⟩ : S44), a1_2, a1_3⟩ : S46) [.string a1_0, .string a1_1, .string a1_2, .int .i64 a1_3] (fun k_ => k_ ≠ gb825) (fun _ => False) rfl rfl ?aP (fun _ hk => hk.elim) ?aF ?aO ?aB ?aS ?aL ?_; (case aP => exact QbS _ _ _ (⟨(⟨a1_0, a1_1⟩ : S44), a1_2, a1_3⟩ : S46)); (case aB => exact (Zc1 GE825.out)); (case aF => exact (fun k_ hk => Kd.freshB (g := gb825) (o := .cells #[.string a1_0, .string a1_1, .string a1_2, .int .i64 a1_3] 46 (0, 0)) (Zu BK825.out) k_ hk)); (case aO => exact (Zr HO_5.out)); (case aS => exact (Qam (Zc1 GE825.out))); (case aL => have := LMc16.out; omega); intro v835 w26 ho hb hg hat; rw [← Ny834.out] at ho; have HO836 := Aside0.mk (ho); replace BK825 := Aside0.mk (Qa7 (g := gb825) (o := .cells #[.string a1_0, .string a1_1, .string a1_2, .int .i64 a1_3] 46 (0, 0)) (Zu BK825.out) hg (Kd.R_away HO_5.out (fun _ hk => hk))); replace HB := Aside0.mk (hb); clear HO_5; clear ho hb hg hat))
          replace HO836 := Aside0.mk (Kd.R_drew HO836.out)
          replace BK825 := Aside0.mk (Qad BK825.out)
          replace HB := Aside0.mk (Qag HB.out)
          have p837 : 0 ≤ (x7_1 : Int) := Ze
          have q837 : x7_1 < (l0.length : Int) := Ze
          obtain ⟨ad837, e837, hx837_0, hx837_1, hx837_2, hx837_3⟩ := at_T46 HR0.out x7_1 p837 q837
          have hw837_3 := hx837_3
          have hw837_2 := hx837_2
          have hw837_1 := hx837_1
          have hw837_0 := hx837_0
          cases e837
          replace hx837_0 := Zx HB.out hx837_0
          replace hx837_1 := Zx HB.out hx837_1
          replace hx837_2 := Zx HB.out hx837_2
          replace hx837_3 := Zx HB.out hx837_3
          replace p837 := eq_true p837
          replace q837 := eq_true q837
          have p842 : 0 ≤ (x7_1 : Int) := Ze
          have q842 : x7_1 < (l0.length : Int) := Ze
          obtain ⟨ad842, e842, hx842_0, hx842_1, hx842_2, hx842_3⟩ := at_T46 HR0.out x7_1 p842 q842
          have hw842_3 := hx842_3
          have hw842_2 := hx842_2
          have hw842_1 := hx842_1
          have hw842_0 := hx842_0
          obtain rfl : ad837 = ad842 := (by injection e842)
          replace hx842_0 := Zx HB.out hx842_0
          replace hx842_1 := Zx HB.out hx842_1
          replace hx842_2 := Zx HB.out hx842_2
          replace hx842_3 := Zx HB.out hx842_3
          replace p842 := eq_true p842
          replace q842 := eq_true q842
          refine start_ (n := 18) (S := fun w' => w'.cell? ⟨gb825, 0, none⟩ = some (.string a1_0) ∧ w'.cell? ⟨gb825, 1, none⟩ = some (.string a1_1) ∧ w'.cell? ⟨gb825, 2, none⟩ = some (.string a1_2) ∧ w'.cell? ⟨gb825, 3, none⟩ = some (.int .i64 a1_3) ∧ w'.cell? (ad837.add ((x7_1).toNat * 4)) = some (.string ((rd_T46 l0 x7_1).f0.f0)) ∧ w'.cell? ⟨(ad837.add ((x7_1).toNat * 4)).block, (ad837.add ((x7_1).toNat * 4)).off + 1, none⟩ = some (.string ((rd_T46 l0 x7_1).f0.f1)) ∧ w'.cell? ⟨(ad837.add ((x7_1).toNat * 4)).block, (ad837.add ((x7_1).toNat * 4)).off + 2, none⟩ = some (.string ((rd_T46 l0 x7_1).f1)) ∧ w'.cell? ⟨(ad837.add ((x7_1).toNat * 4)).block, (ad837.add ((x7_1).toNat * 4)).off + 3, none⟩ = some (.int .i64 ((rd_T46 l0 x7_1).f2)) ∧ w'.cell? (ad837.add ((x7_1).toNat * 4)) = some (.string ((rd_T46 l0 x7_1).f0.f0)) ∧ w'.cell? ⟨(ad837.add ((x7_1).toNat * 4)).block, (ad837.add ((x7_1).toNat * 4)).off + 1, none⟩ = some (.string ((rd_T46 l0 x7_1).f0.f1)) ∧ w'.cell? ⟨(ad837.add ((x7_1).toNat * 4)).block, (ad837.add ((x7_1).toNat * 4)).off + 2, none⟩ = some (.string ((rd_T46 l0 x7_1).f1)) ∧ w'.cell? ⟨(ad837.add ((x7_1).toNat * 4)).block, (ad837.add ((x7_1).toNat * 4)).off + 3, none⟩ = some (.int .i64 ((rd_T46 l0 x7_1).f2))) (ds := []) #[F, F, F, F, F, F, F, F, F, F, F, F, F, F, F, F, F, F] (by kernel_rfl) rfl rfl ⟨(Qai BK825.out 0).trans rfl, (Qai BK825.out 1).trans rfl, (Qai BK825.out 2).trans rfl, (Qai BK825.out 3).trans rfl, ((HB.out.cell (World.block_lt_of_cell? w _ hw837_0)).trans hw837_0), ((HB.out.cell (World.block_lt_of_cell? w _ hw837_1)).trans hw837_1), ((HB.out.cell (World.block_lt_of_cell? w _ hw837_2)).trans hw837_2), ((HB.out.cell (World.block_lt_of_cell? w _ hw837_3)).trans hw837_3), ((HB.out.cell (World.block_lt_of_cell? w _ hw842_0)).trans hw842_0), ((HB.out.cell (World.block_lt_of_cell? w _ hw842_1)).trans hw842_1), ((HB.out.cell (World.block_lt_of_cell? w _ hw842_2)).trans hw842_2), ((HB.out.cell (World.block_lt_of_cell? w _ hw842_3)).trans hw842_3)⟩ (fun hHeld => ?_); refine Qbz Qan.tab9 Qan.bits9 (fun HT_ HW_ => ?_)
          generalize w26.drew = w27 at HO836 BK825 HB hx837_0 hx837_1 hx837_2 hx837_3 hx842_0 hx842_1 hx842_2 hx842_3 hHeld ⊢
          refine pure_ (i := 0) (N := some 33) (v := ?_) (a' := ?_) #[T, F, F, F, F, F, F, F, F, F, F, F, F, F, F, F, F, F] rfl rfl (any_of HT_.out (by kernel_rfl)) (fun _ _ _ h => h) (Or.inl ⟨by rfl, ?_⟩) ?_ ?_
          rotate_left
          ·intro w'
           go_simp
           with_reducible rfl
          rotate_left
          ·simp only [Act.put, Zj, Zk, Zm, i64_w, i32_w]
           rfl
          refine pure_ (i := 1) (N := some 34) (v := ?_) (a' := ?_) #[T, T, F, F, F, F, F, F, F, F, F, F, F, F, F, F, F, F] rfl rfl (any_of HT_.out (by kernel_rfl)) (fun _ _ _ h => h) (Or.inl ⟨by rfl, ?_⟩) ?_ ?_
          rotate_left
          ·intro w'
           go_simp
           with_reducible rfl
          rotate_left
          ·simp only [Act.put, Zj, Zk, Zm, i64_w, i32_w]
           rfl
          refine pure_ (i := 2) (N := some 35) (v := ?_) (a' := ?_) #[T, T, T, F, F, F, F, F, F, F, F, F, F, F, F, F, F, F] rfl rfl (any_of HT_.out (by kernel_rfl)) (fun _ _ _ h => h) (Or.inl ⟨by rfl, ?_⟩) ?_ ?_
          rotate_left
          ·intro w'
           go_simp
           with_reducible rfl
          rotate_left
          ·simp only [Act.put, Zj, Zk, Zm, i64_w, i32_w]
           rfl
          refine pure_ (i := 3) (N := some 36) (v := ?_) (a' := ?_) #[T, T, T, T, F, F, F, F, F, F, F, F, F, F, F, F, F, F] rfl rfl (any_of HT_.out (by kernel_rfl)) (fun _ _ _ h => h) (Or.inl ⟨by rfl, ?_⟩) ?_ ?_
          rotate_left
          ·intro w'
           go_simp
           with_reducible rfl
          rotate_left
          ·simp only [Act.put, Zj, Zk, Zm, i64_w, i32_w]
           rfl
          refine pure_ (i := 5) (N := some 38) (v := ?_) (a' := ?_) #[T, T, T, T, F, T, F, F, F, F, F, F, F, F, F, F, F, F] rfl rfl (any_of HT_.out (by kernel_rfl)) (fun _ _ _ h => h) (Or.inl ⟨by rfl, ?_⟩) ?_ ?_
          rotate_left
          ·intro w'
           go_simp
           with_reducible rfl
          rotate_left
          ·simp only [Act.put, Zj, Zk, Zm, i64_w, i32_w]
           rfl
          refine take_ (i := 4) (N := some 37) (v := ?_) (a' := ?_) #[T, T, T, T, T, T, F, F, F, F, F, F, F, F, F, F, F, F] rfl rfl (Qbm HT_.out HW_.out (by kernel_rfl)) (fun _ _ _ h => h) (Or.inl ⟨by rfl, ?_⟩) hHeld ?_ ?_
          rotate_left
          ·rintro w' ⟨s0, s1, s2, s3, s4, s5, s6, s7, s8, s9, s10, s11⟩
           go_simp
           with_reducible rfl
          rotate_left
          ·simp only [Act.put, Zj, Zk, Zm, i64_w, i32_w]
           rfl
          refine take_ (i := 6) (N := some 39) (v := ?_) (a' := ?_) #[T, T, T, T, T, T, T, F, F, F, F, F, F, F, F, F, F, F] rfl rfl (Qbm HT_.out HW_.out (by kernel_rfl)) (fun _ _ _ h => h) (Or.inl ⟨by rfl, ?_⟩) hHeld ?_ ?_
          rotate_left
          ·rintro w' ⟨s0, s1, s2, s3, s4, s5, s6, s7, s8, s9, s10, s11⟩
           go_simp
           with_reducible rfl
          rotate_left
          ·simp only [Act.put, Zj, Zk, Zm, i64_w, i32_w]
           rfl
          refine pure_ (i := 7) (N := some 40) (v := ?_) (a' := ?_) #[T, T, T, T, T, T, T, T, F, F, F, F, F, F, F, F, F, F] rfl rfl (any_of HT_.out (by kernel_rfl)) (fun _ _ _ h => h) (Or.inl ⟨by rfl, ?_⟩) ?_ ?_
          rotate_left
          ·intro w'
           go_simp
           with_reducible rfl
          rotate_left
          ·simp only [Act.put, Zj, Zk, Zm, i64_w, i32_w]
           rfl
          refine pure_ (i := 8) (N := some 41) (v := ?_) (a' := ?_) #[T, T, T, T, T, T, T, T, T, F, F, F, F, F, F, F, F, F] rfl rfl (any_of HT_.out (by kernel_rfl)) (fun _ _ _ h => h) (Or.inl ⟨by rfl, ?_⟩) ?_ ?_
          rotate_left
          ·intro w'
           go_simp
           with_reducible rfl
          rotate_left
          ·simp only [Act.put, Zj, Zk, Zm, i64_w, i32_w]
           rfl
          refine pure_ (i := 9) (N := some 42) (v := ?_) (a' := ?_) #[T, T, T, T, T, T, T, T, T, T, F, F, F, F, F, F, F, F] rfl rfl (any_of HT_.out (by kernel_rfl)) (fun _ _ _ h => h) (Or.inl ⟨by rfl, ?_⟩) ?_ ?_
          rotate_left
          ·intro w'
           go_simp
           with_reducible rfl
          rotate_left
          ·simp only [Act.put, Zj, Zk, Zm, i64_w, i32_w]
           rfl
          refine pure_ (i := 10) (N := some 43) (v := ?_) (a' := ?_) #[T, T, T, T, T, T, T, T, T, T, T, F, F, F, F, F, F, F] rfl rfl (any_of HT_.out (by kernel_rfl)) (fun _ _ _ h => h) (Or.inl ⟨by rfl, ?_⟩) ?_ ?_
          rotate_left
          ·intro w'
           go_simp
           with_reducible rfl
          rotate_left
          ·simp only [Act.put, Zj, Zk, Zm, i64_w, i32_w]
           rfl
          refine pure_ (i := 11) (N := some 44) (v := ?_) (a' := ?_) #[T, T, T, T, T, T, T, T, T, T, T, T, F, F, F, F, F, F] rfl rfl (any_of HT_.out (by kernel_rfl)) (fun _ _ _ h => h) (Or.inl ⟨by rfl, ?_⟩) ?_ ?_
          rotate_left
          ·intro w'
           go_simp
           with_reducible rfl
          rotate_left
          ·simp only [Act.put, Zj, Zk, Zm, i64_w, i32_w]
           rfl
          refine pure_ (i := 12) (N := some 45) (v := ?_) (a' := ?_) #[T, T, T, T, T, T, T, T, T, T, T, T, T, F, F, F, F, F] rfl rfl (any_of HT_.out (by kernel_rfl)) (fun _ _ _ h => h) (Or.inl ⟨by rfl, ?_⟩) ?_ ?_
          rotate_left
          ·intro w'
           go_simp
           with_reducible rfl
          rotate_left
          ·simp only [Act.put, Zj, Zk, Zm, i64_w, i32_w]
           rfl
          refine pure_ (i := 14) (N := some 47) (v := ?_) (a' := ?_) #[T, T, T, T, T, T, T, T, T, T, T, T, T, F, T, F, F, F] rfl rfl (any_of HT_.out (by kernel_rfl)) (fun _ _ _ h => h) (Or.inl ⟨by rfl, ?_⟩) ?_ ?_
          rotate_left
          ·intro w'
           go_simp
           with_reducible rfl
          rotate_left
          ·simp only [Act.put, Zj, Zk, Zm, i64_w, i32_w]
           rfl
          refine take_ (i := 13) (N := some 46) (v := ?_) (a' := ?_) #[T, T, T, T, T, T, T, T, T, T, T, T, T, T, T, F, F, F] rfl rfl (Qbm HT_.out HW_.out (by kernel_rfl)) (fun _ _ _ h => h) (Or.inl ⟨by rfl, ?_⟩) hHeld ?_ ?_
          rotate_left
          ·rintro w' ⟨s0, s1, s2, s3, s4, s5, s6, s7, s8, s9, s10, s11⟩
           go_simp
           with_reducible rfl
          rotate_left
          ·simp only [Act.put, Zj, Zk, Zm, i64_w, i32_w]
           rfl
          refine take_ (i := 15) (N := some 48) (v := ?_) (a' := ?_) #[T, T, T, T, T, T, T, T, T, T, T, T, T, T, T, T, F, F] rfl rfl (Qbm HT_.out HW_.out (by kernel_rfl)) (fun _ _ _ h => h) (Or.inl ⟨by rfl, ?_⟩) hHeld ?_ ?_
          rotate_left
          ·rintro w' ⟨s0, s1, s2, s3, s4, s5, s6, s7, s8, s9, s10, s11⟩
           go_simp
           with_reducible rfl
          rotate_left
          ·simp only [Act.put, Zj, Zk, Zm, i64_w, i32_w]
           rfl
          refine pure_ (i := 16) (N := some 49) (v := ?_) (a' := ?_) #[T, T, T, T, T, T, T, T, T, T, T, T, T, T, T, T, T, F] rfl rfl (any_of HT_.out (by kernel_rfl)) (fun _ _ _ h => h) (Or.inl ⟨by rfl, ?_⟩) ?_ ?_
          rotate_left
          ·intro w'
           go_simp
           with_reducible rfl
          rotate_left
          ·simp only [Act.put, Zj, Zk, Zm, i64_w, i32_w]
           rfl
          refine pure_ (i := 17) (N := some 50) (v := ?_) (a' := ?_) #[T, T, T, T, T, T, T, T, T, T, T, T, T, T, T, T, T, T] rfl rfl (any_of HT_.out (by kernel_rfl)) (fun _ _ _ h => h) (Or.inl ⟨by rfl, ?_⟩) ?_ ?_
          rotate_left
          ·intro w'
           go_simp
           with_reducible rfl
          rotate_left
          ·simp only [Act.put, Zj, Zk, Zm, i64_w, i32_w]
           rfl
          refine done_ (QbJ HT_.out (by kernel_rfl)) ?_
          go_upto_if 50 with (fail)
          by_cases c28 : ((rd_T46 l0 x7_1).f1).toList = a1_2.toList
          ·rw [if_pos c28] at H
           have c28b0 : (((rd_T46 l0 x7_1).f1).toList == a1_2.toList) = T := beq_iff_eq.mpr c28
           have c28b1 : (((rd_T46 l0 x7_1).f1).toList != a1_2.toList) = F := bne_eq_false_iff_eq.mpr c28
           clear c28
           (try simp only [c28b0, c28b1])
           have H' := Aside0.mk H
           clear H
           go_wp2
           go_roundg kj7
           case measure => have := HK1.out; have := HJ7.out; omega
           case rel => exact ⟨(y834), (T), (wrap64 (x7_1 + 1)), (Zs), (Zs), H', ⟨by have := HK1.out; have := HJ7.out; omega⟩, ⟨Zr HO836.out⟩, ⟨Zu BK825.out⟩, ⟨Zc1 GE825.out⟩⟩
          rw [if_neg c28] at H
          have c28b0 : (((rd_T46 l0 x7_1).f1).toList == a1_2.toList) = F := beq_eq_false_iff_ne.mpr c28
          have c28b1 : (((rd_T46 l0 x7_1).f1).toList != a1_2.toList) = T := bne_iff_ne.mpr c28
          (try simp only [c28b0, c28b1])
          by_cases c29 : y834.length < 2513169434916
          ·rw [if_pos c29] at H
           have LMc29 := Aside0.mk c29
           clear c29
           obtain ⟨y844, hy844⟩ : ∃ y_ : List (S46), y_ = (y834 ++ [(⟨(⟨(rd_T46 l0 x7_1).f0.f0, (rd_T46 l0 x7_1).f0.f1⟩ : S44), (rd_T46 l0 x7_1).f1, (rd_T46 l0 x7_1).f2⟩ : S46)]) := ⟨_, rfl⟩
           replace H : (Qan.l0 kj7 l0 y844 T (wrap64 (x7_1 + 1)) a1_0 a1_1 a1_2 a1_3) = some r := by first | (rw [hy844]; with_reducible exact H) | (have H2_ := (Option.bind_some _ _).symm.trans H; rw [hy844]; with_reducible exact H2_) | (have H2_ := (Option.bind_some _ _).symm.trans H; with_reducible exact H2_) | with_reducible exact H | (rw [hy844]; exact H) | exact H
           have Ny844 := Aside0.mk hy844
           clear hy844
           have H' := Aside0.mk H
           clear H
           have p843 : 0 ≤ (x7_1 : Int) := Ze
           have q843 : x7_1 < (l0.length : Int) := Ze
           obtain ⟨ad843, e843, hx843_0, hx843_1, hx843_2, hx843_3⟩ := at_T46 HR0.out x7_1 p843 q843
           obtain rfl : ad837 = ad843 := (by injection e843)
           replace hx843_0 := Zx HB.out hx843_0
           replace hx843_1 := Zx HB.out hx843_1
           replace hx843_2 := Zx HB.out hx843_2
           replace hx843_3 := Zx HB.out hx843_3
           replace p843 := eq_true p843
           replace q843 := eq_true q843
           go_wp2_with (first | ((with_reducible refine Qbv (b := .append) (xs := #[.tmp 51, .tmp 56]) rfl ?_); at_builtin; refine Kd.R_append k46 (w0 := w) w.heap.size rfl (.tmp 51) (.tmp 56) 30 46 (.agg #[(.string ⟨#[]⟩), (.string ⟨#[]⟩), (.string ⟨#[]⟩), (.int .i64 0)]) 56 rfl Try.underlying30 info46 rfl (by decide) (by omega) v835 y834 (⟨(⟨(rd_T46 l0 x7_1).f0.f0, (rd_T46 l0 x7_1).f0.f1⟩ : S44), (rd_T46 l0 x7_1).f1, (rd_T46 l0 x7_1).f2⟩ : S46) [.string ((rd_T46 l0 x7_1).f0.f0), .string ((rd_T46 l0 x7_1).f0.f1), .string ((rd_T46 l0 x7_1).f1), .int .i64 ((rd_T46 l0 x7_1).f2)] (fun k_ => k_ ≠ gb825) (fun _ => False) rfl rfl ?aP (fun _ hk => hk.elim) ?aF ?aO ?aB ?aS ?aL ?_; (case aP => exact QbS _ _ _ (⟨(⟨(rd_T46 l0 x7_1).f0.f0, (rd_T46 l0 x7_1).f0.f1⟩ : S44), (rd_T46 l0 x7_1).f1, (rd_T46 l0 x7_1).f2⟩ : S46)); (case aB => exact (Zc1 GE825.out)); (case aF => exact (fun k_ hk => Kd.freshB (g := gb825) (o := .cells #[.string a1_0, .string a1_1, .string a1_2, .int .i64 a1_3] 46 (0, 0)) (Zu BK825.out) k_ hk)); (case aO => exact (Zr HO836.out)); (case aS => exact (Qam (Zc1 GE825.out))); (case aL => have := LMc29.out; omega); intro v845 w30 ho hb hg hat; rw [← Ny844.out] at ho; have HO846 := Aside0.mk (ho); replace BK825 := Aside0.mk (Qa7 (g := gb825) (o := .cells #[.string a1_0, .string a1_1, .string a1_2, .int .i64 a1_3] 46 (0, 0)) (Zu BK825.out) hg (Kd.R_away HO836.out (fun _ hk => hk))); replace HB := Aside0.mk (hb); clear HO836; clear ho hb hg hat))
           go_roundg kj7
           case measure => have := HK1.out; have := HJ7.out; omega
           case rel => exact ⟨(y844), (T), (wrap64 (x7_1 + 1)), (Zs), (Zs), H', ⟨by have := HK1.out; have := HJ7.out; omega⟩, ⟨Zr HO846.out⟩, ⟨Zu BK825.out⟩, ⟨Zc1 GE825.out⟩⟩
          rw [if_neg c29] at H
          exact absurd H (by simp)
         rw [if_neg c18] at H
         exact absurd H (by simp)
        rw [if_neg c17] at H
        exact absurd H (by simp)
       rw [if_neg c16] at H
       exact absurd H (by simp)
      replace c15 := Bool.eq_false_iff.mpr c15
      subst c15
      have H1 : (if 0 ≤ x7_1 then (if x7_1 < (l0.length : Int) then (if (!((((rd_T46 l0 x7_1).f0.f0).toList) == a1_0.toList) || (!((((rd_T46 l0 x7_1).f0.f1).toList) == a1_1.toList))) = T then (if x5_1.length < 2513169434916 then (Qan.l0 kj7 l0 (x5_1 ++ [(⟨(⟨(rd_T46 l0 x7_1).f0.f0, (rd_T46 l0 x7_1).f0.f1⟩ : S44), (rd_T46 l0 x7_1).f1, (rd_T46 l0 x7_1).f2⟩ : S46)]) x6_1 (wrap64 (x7_1 + 1)) a1_0 a1_1 a1_2 a1_3) else (none)) else (if ((rd_T46 l0 x7_1).f1).toList = a1_2.toList then (Qan.l0 kj7 l0 x5_1 x6_1 (wrap64 (x7_1 + 1)) a1_0 a1_1 a1_2 a1_3) else (if x5_1.length < 2513169434916 then (Qan.l0 kj7 l0 (x5_1 ++ [(⟨(⟨(rd_T46 l0 x7_1).f0.f0, (rd_T46 l0 x7_1).f0.f1⟩ : S44), (rd_T46 l0 x7_1).f1, (rd_T46 l0 x7_1).f2⟩ : S46)]) x6_1 (wrap64 (x7_1 + 1)) a1_0 a1_1 a1_2 a1_3) else (none)))) else (none)) else (none)) = some r := by rw [if_neg (show ¬ (F = T) by decide)] at H; exact H
      clear H
      have H := H1
      clear H1
      by_cases c31 : 0 ≤ x7_1
      ·rw [if_pos c31] at H
       have c31b0 : decide (0 ≤ x7_1) = T := decide_eq_true c31
       clear c31
       by_cases c32 : x7_1 < (l0.length : Int)
       ·rw [if_pos c32] at H
        have c32b0 : decide (x7_1 < (l0.length : Int)) = T := decide_eq_true c32
        clear c32
        by_cases c33 : (!((((rd_T46 l0 x7_1).f0.f0).toList) == a1_0.toList) || (!((((rd_T46 l0 x7_1).f0.f1).toList) == a1_1.toList))) = T
        ·rw [if_pos c33] at H
         have c33b0 : (!((((rd_T46 l0 x7_1).f0.f0).toList) == a1_0.toList) || (!((((rd_T46 l0 x7_1).f0.f1).toList) == a1_1.toList))) = T := c33
         clear c33
         by_cases c34 : x5_1.length < 2513169434916
         ·rw [if_pos c34] at H
          have LMc34 := Aside0.mk c34
          clear c34
          obtain ⟨y849, hy849⟩ : ∃ y_ : List (S46), y_ = (x5_1 ++ [(⟨(⟨(rd_T46 l0 x7_1).f0.f0, (rd_T46 l0 x7_1).f0.f1⟩ : S44), (rd_T46 l0 x7_1).f1, (rd_T46 l0 x7_1).f2⟩ : S46)]) := ⟨_, rfl⟩
          replace H : (Qan.l0 kj7 l0 y849 x6_1 (wrap64 (x7_1 + 1)) a1_0 a1_1 a1_2 a1_3) = some r := by first | (rw [hy849]; with_reducible exact H) | (have H2_ := (Option.bind_some _ _).symm.trans H; rw [hy849]; with_reducible exact H2_) | (have H2_ := (Option.bind_some _ _).symm.trans H; with_reducible exact H2_) | with_reducible exact H | (rw [hy849]; exact H) | exact H
          have Ny849 := Aside0.mk hy849
          clear hy849
          have H' := Aside0.mk H
          clear H
          try go_wp2
          replace HO_5 := Aside0.mk (Kd.R_drew HO_5.out)
          replace BK825 := Aside0.mk (Qad BK825.out)
          replace HB := Aside0.mk (Qag HB.out)
          have p847 : 0 ≤ (x7_1 : Int) := Ze
          have q847 : x7_1 < (l0.length : Int) := Ze
          obtain ⟨ad847, e847, hx847_0, hx847_1, hx847_2, hx847_3⟩ := at_T46 HR0.out x7_1 p847 q847
          have hw847_3 := hx847_3
          have hw847_2 := hx847_2
          have hw847_1 := hx847_1
          have hw847_0 := hx847_0
          cases e847
          replace hx847_0 := Zx HB.out hx847_0
          replace hx847_1 := Zx HB.out hx847_1
          replace hx847_2 := Zx HB.out hx847_2
          replace hx847_3 := Zx HB.out hx847_3
          replace p847 := eq_true p847
          replace q847 := eq_true q847
          refine start_ (n := 18) (S := fun w' => w'.cell? ⟨gb825, 0, none⟩ = some (.string a1_0) ∧ w'.cell? ⟨gb825, 1, none⟩ = some (.string a1_1) ∧ w'.cell? ⟨gb825, 2, none⟩ = some (.string a1_2) ∧ w'.cell? ⟨gb825, 3, none⟩ = some (.int .i64 a1_3) ∧ w'.cell? (ad847.add ((x7_1).toNat * 4)) = some (.string ((rd_T46 l0 x7_1).f0.f0)) ∧ w'.cell? ⟨(ad847.add ((x7_1).toNat * 4)).block, (ad847.add ((x7_1).toNat * 4)).off + 1, none⟩ = some (.string ((rd_T46 l0 x7_1).f0.f1)) ∧ w'.cell? ⟨(ad847.add ((x7_1).toNat * 4)).block, (ad847.add ((x7_1).toNat * 4)).off + 2, none⟩ = some (.string ((rd_T46 l0 x7_1).f1)) ∧ w'.cell? ⟨(ad847.add ((x7_1).toNat * 4)).block, (ad847.add ((x7_1).toNat * 4)).off + 3, none⟩ = some (.int .i64 ((rd_T46 l0 x7_1).f2))) (ds := []) #[F, F, F, F, F, F, F, F, F, F, F, F, F, F, F, F, F, F] (by kernel_rfl) rfl rfl ⟨(Qai BK825.out 0).trans rfl, (Qai BK825.out 1).trans rfl, (Qai BK825.out 2).trans rfl, (Qai BK825.out 3).trans rfl, ((HB.out.cell (World.block_lt_of_cell? w _ hw847_0)).trans hw847_0), ((HB.out.cell (World.block_lt_of_cell? w _ hw847_1)).trans hw847_1), ((HB.out.cell (World.block_lt_of_cell? w _ hw847_2)).trans hw847_2), ((HB.out.cell (World.block_lt_of_cell? w _ hw847_3)).trans hw847_3)⟩ (fun hHeld => ?_); refine Qbz Qan.tab9 Qan.bits9 (fun HT_ HW_ => ?_)
          generalize wc.drew = w35 at HO_5 BK825 HB hx847_0 hx847_1 hx847_2 hx847_3 hHeld ⊢
          refine pure_ (i := 0) (N := some 33) (v := ?_) (a' := ?_) #[T, F, F, F, F, F, F, F, F, F, F, F, F, F, F, F, F, F] rfl rfl (any_of HT_.out (by kernel_rfl)) (fun _ _ _ h => h) (Or.inl ⟨by rfl, ?_⟩) ?_ ?_
          rotate_left
          ·intro w'
           go_simp
           with_reducible rfl
          rotate_left
          ·simp only [Act.put, Zj, Zk, Zm, i64_w, i32_w]
           rfl
          refine pure_ (i := 1) (N := some 34) (v := ?_) (a' := ?_) #[T, T, F, F, F, F, F, F, F, F, F, F, F, F, F, F, F, F] rfl rfl (any_of HT_.out (by kernel_rfl)) (fun _ _ _ h => h) (Or.inl ⟨by rfl, ?_⟩) ?_ ?_
          rotate_left
          ·intro w'
           go_simp
           with_reducible rfl
          rotate_left
          ·simp only [Act.put, Zj, Zk, Zm, i64_w, i32_w]
           rfl
          refine pure_ (i := 2) (N := some 35) (v := ?_) (a' := ?_) #[T, T, T, F, F, F, F, F, F, F, F, F, F, F, F, F, F, F] rfl rfl (any_of HT_.out (by kernel_rfl)) (fun _ _ _ h => h) (Or.inl ⟨by rfl, ?_⟩) ?_ ?_
          rotate_left
          ·intro w'
           go_simp
           with_reducible rfl
          rotate_left
          ·simp only [Act.put, Zj, Zk, Zm, i64_w, i32_w]
           rfl
          refine pure_ (i := 3) (N := some 36) (v := ?_) (a' := ?_) #[T, T, T, T, F, F, F, F, F, F, F, F, F, F, F, F, F, F] rfl rfl (any_of HT_.out (by kernel_rfl)) (fun _ _ _ h => h) (Or.inl ⟨by rfl, ?_⟩) ?_ ?_
          rotate_left
          ·intro w'
           go_simp
           with_reducible rfl
          rotate_left
          ·simp only [Act.put, Zj, Zk, Zm, i64_w, i32_w]
           rfl
          refine pure_ (i := 5) (N := some 38) (v := ?_) (a' := ?_) #[T, T, T, T, F, T, F, F, F, F, F, F, F, F, F, F, F, F] rfl rfl (any_of HT_.out (by kernel_rfl)) (fun _ _ _ h => h) (Or.inl ⟨by rfl, ?_⟩) ?_ ?_
          rotate_left
          ·intro w'
           go_simp
           with_reducible rfl
          rotate_left
          ·simp only [Act.put, Zj, Zk, Zm, i64_w, i32_w]
           rfl
          refine take_ (i := 4) (N := some 37) (v := ?_) (a' := ?_) #[T, T, T, T, T, T, F, F, F, F, F, F, F, F, F, F, F, F] rfl rfl (Qbm HT_.out HW_.out (by kernel_rfl)) (fun _ _ _ h => h) (Or.inl ⟨by rfl, ?_⟩) hHeld ?_ ?_
          rotate_left
          ·rintro w' ⟨s0, s1, s2, s3, s4, s5, s6, s7⟩
           go_simp
           with_reducible rfl
          rotate_left
          ·simp only [Act.put, Zj, Zk, Zm, i64_w, i32_w]
           rfl
          refine take_ (i := 6) (N := some 39) (v := ?_) (a' := ?_) #[T, T, T, T, T, T, T, F, F, F, F, F, F, F, F, F, F, F] rfl rfl (Qbm HT_.out HW_.out (by kernel_rfl)) (fun _ _ _ h => h) (Or.inl ⟨by rfl, ?_⟩) hHeld ?_ ?_
          rotate_left
          ·rintro w' ⟨s0, s1, s2, s3, s4, s5, s6, s7⟩
           go_simp
           with_reducible rfl
          rotate_left
          ·simp only [Act.put, Zj, Zk, Zm, i64_w, i32_w]
           rfl
          refine pure_ (i := 7) (N := some 40) (v := ?_) (a' := ?_) #[T, T, T, T, T, T, T, T, F, F, F, F, F, F, F, F, F, F] rfl rfl (any_of HT_.out (by kernel_rfl)) (fun _ _ _ h => h) (Or.inl ⟨by rfl, ?_⟩) ?_ ?_
          rotate_left
          ·intro w'
           go_simp
           with_reducible rfl
          rotate_left
          ·simp only [Act.put, Zj, Zk, Zm, i64_w, i32_w]
           rfl
          refine pure_ (i := 8) (N := some 41) (v := ?_) (a' := ?_) #[T, T, T, T, T, T, T, T, T, F, F, F, F, F, F, F, F, F] rfl rfl (any_of HT_.out (by kernel_rfl)) (fun _ _ _ h => h) (Or.inl ⟨by rfl, ?_⟩) ?_ ?_
          rotate_left
          ·intro w'
           go_simp
           with_reducible rfl
          rotate_left
          ·simp only [Act.put, Zj, Zk, Zm, i64_w, i32_w]
           rfl
          refine pure_ (i := 9) (N := some 42) (v := undef) (a' := ?_) #[T, T, T, T, T, T, T, T, T, T, F, F, F, F, F, F, F, F] rfl rfl (any_of HT_.out (by kernel_rfl)) (fun _ _ _ h => h) (Or.inr ⟨by rfl, rfl⟩) ?_ ?_
          rotate_left
          ·simp only [Act.put, Zj, Zk, Zm, i64_w, i32_w]
           rfl
          refine pure_ (i := 10) (N := some 43) (v := undef) (a' := ?_) #[T, T, T, T, T, T, T, T, T, T, T, F, F, F, F, F, F, F] rfl rfl (any_of HT_.out (by kernel_rfl)) (fun _ _ _ h => h) (Or.inr ⟨by rfl, rfl⟩) ?_ ?_
          rotate_left
          ·simp only [Act.put, Zj, Zk, Zm, i64_w, i32_w]
           rfl
          refine pure_ (i := 11) (N := some 44) (v := undef) (a' := ?_) #[T, T, T, T, T, T, T, T, T, T, T, T, F, F, F, F, F, F] rfl rfl (any_of HT_.out (by kernel_rfl)) (fun _ _ _ h => h) (Or.inr ⟨by rfl, rfl⟩) ?_ ?_
          rotate_left
          ·simp only [Act.put, Zj, Zk, Zm, i64_w, i32_w]
           rfl
          refine pure_ (i := 12) (N := some 45) (v := undef) (a' := ?_) #[T, T, T, T, T, T, T, T, T, T, T, T, T, F, F, F, F, F] rfl rfl (any_of HT_.out (by kernel_rfl)) (fun _ _ _ h => h) (Or.inr ⟨by rfl, rfl⟩) ?_ ?_
          rotate_left
          ·simp only [Act.put, Zj, Zk, Zm, i64_w, i32_w]
           rfl
          refine pure_ (i := 13) (N := some 46) (v := undef) (a' := ?_) #[T, T, T, T, T, T, T, T, T, T, T, T, T, T, F, F, F, F] rfl rfl (any_of HT_.out (by kernel_rfl)) (fun _ _ _ h => h) (Or.inr ⟨by rfl, rfl⟩) ?_ ?_
          rotate_left
          ·simp only [Act.put, Zj, Zk, Zm, i64_w, i32_w]
           rfl
          refine pure_ (i := 14) (N := some 47) (v := undef) (a' := ?_) #[T, T, T, T, T, T, T, T, T, T, T, T, T, T, T, F, F, F] rfl rfl (any_of HT_.out (by kernel_rfl)) (fun _ _ _ h => h) (Or.inr ⟨by rfl, rfl⟩) ?_ ?_
          rotate_left
          ·simp only [Act.put, Zj, Zk, Zm, i64_w, i32_w]
           rfl
          refine pure_ (i := 15) (N := some 48) (v := undef) (a' := ?_) #[T, T, T, T, T, T, T, T, T, T, T, T, T, T, T, T, F, F] rfl rfl (any_of HT_.out (by kernel_rfl)) (fun _ _ _ h => h) (Or.inr ⟨by rfl, rfl⟩) ?_ ?_
          rotate_left
          ·simp only [Act.put, Zj, Zk, Zm, i64_w, i32_w]
           rfl
          refine pure_ (i := 16) (N := some 49) (v := undef) (a' := ?_) #[T, T, T, T, T, T, T, T, T, T, T, T, T, T, T, T, T, F] rfl rfl (any_of HT_.out (by kernel_rfl)) (fun _ _ _ h => h) (Or.inr ⟨by rfl, rfl⟩) ?_ ?_
          rotate_left
          ·simp only [Act.put, Zj, Zk, Zm, i64_w, i32_w]
           rfl
          refine pure_ (i := 17) (N := some 50) (v := ?_) (a' := ?_) #[T, T, T, T, T, T, T, T, T, T, T, T, T, T, T, T, T, T] rfl rfl (any_of HT_.out (by kernel_rfl)) (fun _ _ _ h => h) (Or.inl ⟨by rfl, ?_⟩) ?_ ?_
          rotate_left
          ·intro w'
           go_simp
           with_reducible rfl
          rotate_left
          ·simp only [Act.put, Zj, Zk, Zm, i64_w, i32_w]
           rfl
          refine done_ (QbJ HT_.out (by kernel_rfl)) ?_
          have p848 : 0 ≤ (x7_1 : Int) := Ze
          have q848 : x7_1 < (l0.length : Int) := Ze
          obtain ⟨ad848, e848, hx848_0, hx848_1, hx848_2, hx848_3⟩ := at_T46 HR0.out x7_1 p848 q848
          obtain rfl : ad847 = ad848 := (by injection e848)
          replace hx848_0 := Zx HB.out hx848_0
          replace hx848_1 := Zx HB.out hx848_1
          replace hx848_2 := Zx HB.out hx848_2
          replace hx848_3 := Zx HB.out hx848_3
          replace p848 := eq_true p848
          replace q848 := eq_true q848
          try go_wp2_with (first | ((with_reducible refine Qbv (b := .append) (xs := #[.tmp 51, .tmp 56]) rfl ?_); at_builtin; refine Kd.R_append k46 (w0 := w) w.heap.size rfl (.tmp 51) (.tmp 56) 30 46 (.agg #[(.string ⟨#[]⟩), (.string ⟨#[]⟩), (.string ⟨#[]⟩), (.int .i64 0)]) 56 rfl Try.underlying30 info46 rfl (by decide) (by omega) u5 x5_1 (⟨(⟨(rd_T46 l0 x7_1).f0.f0, (rd_T46 l0 x7_1).f0.f1⟩ : S44), (rd_T46 l0 x7_1).f1, (rd_T46 l0 x7_1).f2⟩ : S46) [.string ((rd_T46 l0 x7_1).f0.f0), .string ((rd_T46 l0 x7_1).f0.f1), .string ((rd_T46 l0 x7_1).f1), .int .i64 ((rd_T46 l0 x7_1).f2)] (fun k_ => k_ ≠ gb825) (fun _ => False) rfl rfl ?aP (fun _ hk => hk.elim) ?aF ?aO ?aB ?aS ?aL ?_; (case aP => exact QbS _ _ _ (⟨(⟨(rd_T46 l0 x7_1).f0.f0, (rd_T46 l0 x7_1).f0.f1⟩ : S44), (rd_T46 l0 x7_1).f1, (rd_T46 l0 x7_1).f2⟩ : S46)); (case aB => exact (Zc1 GE825.out)); (case aF => exact (fun k_ hk => Kd.freshB (g := gb825) (o := .cells #[.string a1_0, .string a1_1, .string a1_2, .int .i64 a1_3] 46 (0, 0)) (Zu BK825.out) k_ hk)); (case aO => exact (Zr HO_5.out)); (case aS => exact (Qam (Zc1 GE825.out))); (case aL => have := LMc34.out; omega); intro v850 w36 ho hb hg hat; rw [← Ny849.out] at ho; have HO851 := Aside0.mk (ho); replace BK825 := Aside0.mk (Qa7 (g := gb825) (o := .cells #[.string a1_0, .string a1_1, .string a1_2, .int .i64 a1_3] 46 (0, 0)) (Zu BK825.out) hg (Kd.R_away HO_5.out (fun _ hk => hk))); replace HB := Aside0.mk (hb); clear HO_5; clear ho hb hg hat))
          go_roundg kj7
          case measure => have := HK1.out; have := HJ7.out; omega
          case rel => exact ⟨(y849), (x6_1), (wrap64 (x7_1 + 1)), (Zs), (Zs), H', ⟨by have := HK1.out; have := HJ7.out; omega⟩, ⟨Zr HO851.out⟩, ⟨Zu BK825.out⟩, ⟨Zc1 GE825.out⟩⟩
         rw [if_neg c34] at H
         exact absurd H (by simp)
        rw [if_neg c33] at H
        have c33b0 : (!((((rd_T46 l0 x7_1).f0.f0).toList) == a1_0.toList) || (!((((rd_T46 l0 x7_1).f0.f1).toList) == a1_1.toList))) = F := by simpa using c33
        clear c33
        try go_wp2
        replace HO_5 := Aside0.mk (Kd.R_drew HO_5.out)
        replace BK825 := Aside0.mk (Qad BK825.out)
        replace HB := Aside0.mk (Qag HB.out)
        have p847 : 0 ≤ (x7_1 : Int) := Ze
        have q847 : x7_1 < (l0.length : Int) := Ze
        obtain ⟨ad847, e847, hx847_0, hx847_1, hx847_2, hx847_3⟩ := at_T46 HR0.out x7_1 p847 q847
        have hw847_3 := hx847_3
        have hw847_2 := hx847_2
        have hw847_1 := hx847_1
        have hw847_0 := hx847_0
        cases e847
        replace hx847_0 := Zx HB.out hx847_0
        replace hx847_1 := Zx HB.out hx847_1
        replace hx847_2 := Zx HB.out hx847_2
        replace hx847_3 := Zx HB.out hx847_3
        replace p847 := eq_true p847
        replace q847 := eq_true q847
        have p852 : 0 ≤ (x7_1 : Int) := Ze
        have q852 : x7_1 < (l0.length : Int) := Ze
        obtain ⟨ad852, e852, hx852_0, hx852_1, hx852_2, hx852_3⟩ := at_T46 HR0.out x7_1 p852 q852
        have hw852_3 := hx852_3
        have hw852_2 := hx852_2
        have hw852_1 := hx852_1
        have hw852_0 := hx852_0
        obtain rfl : ad847 = ad852 := (by injection e852)
        replace hx852_0 := Zx HB.out hx852_0
        replace hx852_1 := Zx HB.out hx852_1
        replace hx852_2 := Zx HB.out hx852_2
        replace hx852_3 := Zx HB.out hx852_3
        replace p852 := eq_true p852
        replace q852 := eq_true q852
        refine start_ (n := 18) (S := fun w' => w'.cell? ⟨gb825, 0, none⟩ = some (.string a1_0) ∧ w'.cell? ⟨gb825, 1, none⟩ = some (.string a1_1) ∧ w'.cell? ⟨gb825, 2, none⟩ = some (.string a1_2) ∧ w'.cell? ⟨gb825, 3, none⟩ = some (.int .i64 a1_3) ∧ w'.cell? (ad847.add ((x7_1).toNat * 4)) = some (.string ((rd_T46 l0 x7_1).f0.f0)) ∧ w'.cell? ⟨(ad847.add ((x7_1).toNat * 4)).block, (ad847.add ((x7_1).toNat * 4)).off + 1, none⟩ = some (.string ((rd_T46 l0 x7_1).f0.f1)) ∧ w'.cell? ⟨(ad847.add ((x7_1).toNat * 4)).block, (ad847.add ((x7_1).toNat * 4)).off + 2, none⟩ = some (.string ((rd_T46 l0 x7_1).f1)) ∧ w'.cell? ⟨(ad847.add ((x7_1).toNat * 4)).block, (ad847.add ((x7_1).toNat * 4)).off + 3, none⟩ = some (.int .i64 ((rd_T46 l0 x7_1).f2)) ∧ w'.cell? (ad847.add ((x7_1).toNat * 4)) = some (.string ((rd_T46 l0 x7_1).f0.f0)) ∧ w'.cell? ⟨(ad847.add ((x7_1).toNat * 4)).block, (ad847.add ((x7_1).toNat * 4)).off + 1, none⟩ = some (.string ((rd_T46 l0 x7_1).f0.f1)) ∧ w'.cell? ⟨(ad847.add ((x7_1).toNat * 4)).block, (ad847.add ((x7_1).toNat * 4)).off + 2, none⟩ = some (.string ((rd_T46 l0 x7_1).f1)) ∧ w'.cell? ⟨(ad847.add ((x7_1).toNat * 4)).block, (ad847.add ((x7_1).toNat * 4)).off + 3, none⟩ = some (.int .i64 ((rd_T46 l0 x7_1).f2))) (ds := []) #[F, F, F, F, F, F, F, F, F, F, F, F, F, F, F, F, F, F] (by kernel_rfl) rfl rfl ⟨(Qai BK825.out 0).trans rfl, (Qai BK825.out 1).trans rfl, (Qai BK825.out 2).trans rfl, (Qai BK825.out 3).trans rfl, ((HB.out.cell (World.block_lt_of_cell? w _ hw847_0)).trans hw847_0), ((HB.out.cell (World.block_lt_of_cell? w _ hw847_1)).trans hw847_1), ((HB.out.cell (World.block_lt_of_cell? w _ hw847_2)).trans hw847_2), ((HB.out.cell (World.block_lt_of_cell? w _ hw847_3)).trans hw847_3), ((HB.out.cell (World.block_lt_of_cell? w _ hw852_0)).trans hw852_0), ((HB.out.cell (World.block_lt_of_cell? w _ hw852_1)).trans hw852_1), ((HB.out.cell (World.block_lt_of_cell? w _ hw852_2)).trans hw852_2), ((HB.out.cell (World.block_lt_of_cell? w _ hw852_3)).trans hw852_3)⟩ (fun hHeld => ?_); refine Qbz Qan.tab9 Qan.bits9 (fun HT_ HW_ => ?_)
        generalize wc.drew = w37 at HO_5 BK825 HB hx847_0 hx847_1 hx847_2 hx847_3 hx852_0 hx852_1 hx852_2 hx852_3 hHeld ⊢
        refine pure_ (i := 0) (N := some 33) (v := ?_) (a' := ?_) #[T, F, F, F, F, F, F, F, F, F, F, F, F, F, F, F, F, F] rfl rfl (any_of HT_.out (by kernel_rfl)) (fun _ _ _ h => h) (Or.inl ⟨by rfl, ?_⟩) ?_ ?_
        rotate_left
        ·intro w'
         go_simp
         with_reducible rfl
        rotate_left
        ·simp only [Act.put, Zj, Zk, Zm, i64_w, i32_w]
         rfl
        refine pure_ (i := 1) (N := some 34) (v := ?_) (a' := ?_) #[T, T, F, F, F, F, F, F, F, F, F, F, F, F, F, F, F, F] rfl rfl (any_of HT_.out (by kernel_rfl)) (fun _ _ _ h => h) (Or.inl ⟨by rfl, ?_⟩) ?_ ?_
        rotate_left
        ·intro w'
         go_simp
         with_reducible rfl
        rotate_left
        ·simp only [Act.put, Zj, Zk, Zm, i64_w, i32_w]
         rfl
        refine pure_ (i := 2) (N := some 35) (v := ?_) (a' := ?_) #[T, T, T, F, F, F, F, F, F, F, F, F, F, F, F, F, F, F] rfl rfl (any_of HT_.out (by kernel_rfl)) (fun _ _ _ h => h) (Or.inl ⟨by rfl, ?_⟩) ?_ ?_
        rotate_left
        ·intro w'
         go_simp
         with_reducible rfl
        rotate_left
        ·simp only [Act.put, Zj, Zk, Zm, i64_w, i32_w]
         rfl
        refine pure_ (i := 3) (N := some 36) (v := ?_) (a' := ?_) #[T, T, T, T, F, F, F, F, F, F, F, F, F, F, F, F, F, F] rfl rfl (any_of HT_.out (by kernel_rfl)) (fun _ _ _ h => h) (Or.inl ⟨by rfl, ?_⟩) ?_ ?_
        rotate_left
        ·intro w'
         go_simp
         with_reducible rfl
        rotate_left
        ·simp only [Act.put, Zj, Zk, Zm, i64_w, i32_w]
         rfl
        refine pure_ (i := 5) (N := some 38) (v := ?_) (a' := ?_) #[T, T, T, T, F, T, F, F, F, F, F, F, F, F, F, F, F, F] rfl rfl (any_of HT_.out (by kernel_rfl)) (fun _ _ _ h => h) (Or.inl ⟨by rfl, ?_⟩) ?_ ?_
        rotate_left
        ·intro w'
         go_simp
         with_reducible rfl
        rotate_left
        ·simp only [Act.put, Zj, Zk, Zm, i64_w, i32_w]
         rfl
        refine take_ (i := 4) (N := some 37) (v := ?_) (a' := ?_) #[T, T, T, T, T, T, F, F, F, F, F, F, F, F, F, F, F, F] rfl rfl (Qbm HT_.out HW_.out (by kernel_rfl)) (fun _ _ _ h => h) (Or.inl ⟨by rfl, ?_⟩) hHeld ?_ ?_
        rotate_left
        ·rintro w' ⟨s0, s1, s2, s3, s4, s5, s6, s7, s8, s9, s10, s11⟩
         go_simp
         with_reducible rfl
        rotate_left
        ·simp only [Act.put, Zj, Zk, Zm, i64_w, i32_w]
         rfl
        refine take_ (i := 6) (N := some 39) (v := ?_) (a' := ?_) #[T, T, T, T, T, T, T, F, F, F, F, F, F, F, F, F, F, F] rfl rfl (Qbm HT_.out HW_.out (by kernel_rfl)) (fun _ _ _ h => h) (Or.inl ⟨by rfl, ?_⟩) hHeld ?_ ?_
        rotate_left
        ·rintro w' ⟨s0, s1, s2, s3, s4, s5, s6, s7, s8, s9, s10, s11⟩
         go_simp
         with_reducible rfl
        rotate_left
        ·simp only [Act.put, Zj, Zk, Zm, i64_w, i32_w]
         rfl
        refine pure_ (i := 7) (N := some 40) (v := ?_) (a' := ?_) #[T, T, T, T, T, T, T, T, F, F, F, F, F, F, F, F, F, F] rfl rfl (any_of HT_.out (by kernel_rfl)) (fun _ _ _ h => h) (Or.inl ⟨by rfl, ?_⟩) ?_ ?_
        rotate_left
        ·intro w'
         go_simp
         with_reducible rfl
        rotate_left
        ·simp only [Act.put, Zj, Zk, Zm, i64_w, i32_w]
         rfl
        refine pure_ (i := 8) (N := some 41) (v := ?_) (a' := ?_) #[T, T, T, T, T, T, T, T, T, F, F, F, F, F, F, F, F, F] rfl rfl (any_of HT_.out (by kernel_rfl)) (fun _ _ _ h => h) (Or.inl ⟨by rfl, ?_⟩) ?_ ?_
        rotate_left
        ·intro w'
         go_simp
         with_reducible rfl
        rotate_left
        ·simp only [Act.put, Zj, Zk, Zm, i64_w, i32_w]
         rfl
        refine pure_ (i := 9) (N := some 42) (v := ?_) (a' := ?_) #[T, T, T, T, T, T, T, T, T, T, F, F, F, F, F, F, F, F] rfl rfl (any_of HT_.out (by kernel_rfl)) (fun _ _ _ h => h) (Or.inl ⟨by rfl, ?_⟩) ?_ ?_
        rotate_left
        ·intro w'
         go_simp
         with_reducible rfl
        rotate_left
        ·simp only [Act.put, Zj, Zk, Zm, i64_w, i32_w]
         rfl
        refine pure_ (i := 10) (N := some 43) (v := ?_) (a' := ?_) #[T, T, T, T, T, T, T, T, T, T, T, F, F, F, F, F, F, F] rfl rfl (any_of HT_.out (by kernel_rfl)) (fun _ _ _ h => h) (Or.inl ⟨by rfl, ?_⟩) ?_ ?_
        rotate_left
        ·intro w'
         go_simp
         with_reducible rfl
        rotate_left
        ·simp only [Act.put, Zj, Zk, Zm, i64_w, i32_w]
         rfl
        refine pure_ (i := 11) (N := some 44) (v := ?_) (a' := ?_) #[T, T, T, T, T, T, T, T, T, T, T, T, F, F, F, F, F, F] rfl rfl (any_of HT_.out (by kernel_rfl)) (fun _ _ _ h => h) (Or.inl ⟨by rfl, ?_⟩) ?_ ?_
        rotate_left
        ·intro w'
         go_simp
         with_reducible rfl
        rotate_left
        ·simp only [Act.put, Zj, Zk, Zm, i64_w, i32_w]
         rfl
        refine pure_ (i := 12) (N := some 45) (v := ?_) (a' := ?_) #[T, T, T, T, T, T, T, T, T, T, T, T, T, F, F, F, F, F] rfl rfl (any_of HT_.out (by kernel_rfl)) (fun _ _ _ h => h) (Or.inl ⟨by rfl, ?_⟩) ?_ ?_
        rotate_left
        ·intro w'
         go_simp
         with_reducible rfl
        rotate_left
        ·simp only [Act.put, Zj, Zk, Zm, i64_w, i32_w]
         rfl
        refine pure_ (i := 14) (N := some 47) (v := ?_) (a' := ?_) #[T, T, T, T, T, T, T, T, T, T, T, T, T, F, T, F, F, F] rfl rfl (any_of HT_.out (by kernel_rfl)) (fun _ _ _ h => h) (Or.inl ⟨by rfl, ?_⟩) ?_ ?_
        rotate_left
        ·intro w'
         go_simp
         with_reducible rfl
        rotate_left
        ·simp only [Act.put, Zj, Zk, Zm, i64_w, i32_w]
         rfl
        refine take_ (i := 13) (N := some 46) (v := ?_) (a' := ?_) #[T, T, T, T, T, T, T, T, T, T, T, T, T, T, T, F, F, F] rfl rfl (Qbm HT_.out HW_.out (by kernel_rfl)) (fun _ _ _ h => h) (Or.inl ⟨by rfl, ?_⟩) hHeld ?_ ?_
        rotate_left
        ·rintro w' ⟨s0, s1, s2, s3, s4, s5, s6, s7, s8, s9, s10, s11⟩
         go_simp
         with_reducible rfl
        rotate_left
        ·simp only [Act.put, Zj, Zk, Zm, i64_w, i32_w]
         rfl
        refine take_ (i := 15) (N := some 48) (v := ?_) (a' := ?_) #[T, T, T, T, T, T, T, T, T, T, T, T, T, T, T, T, F, F] rfl rfl (Qbm HT_.out HW_.out (by kernel_rfl)) (fun _ _ _ h => h) (Or.inl ⟨by rfl, ?_⟩) hHeld ?_ ?_
        rotate_left
        ·rintro w' ⟨s0, s1, s2, s3, s4, s5, s6, s7, s8, s9, s10, s11⟩
         go_simp
         with_reducible rfl
        rotate_left
        ·simp only [Act.put, Zj, Zk, Zm, i64_w, i32_w]
         rfl
        refine pure_ (i := 16) (N := some 49) (v := ?_) (a' := ?_) #[T, T, T, T, T, T, T, T, T, T, T, T, T, T, T, T, T, F] rfl rfl (any_of HT_.out (by kernel_rfl)) (fun _ _ _ h => h) (Or.inl ⟨by rfl, ?_⟩) ?_ ?_
        rotate_left
        ·intro w'
         go_simp
         with_reducible rfl
        rotate_left
        ·simp only [Act.put, Zj, Zk, Zm, i64_w, i32_w]
         rfl
        refine pure_ (i := 17) (N := some 50) (v := ?_) (a' := ?_) #[T, T, T, T, T, T, T, T, T, T, T, T, T, T, T, T, T, T] rfl rfl (any_of HT_.out (by kernel_rfl)) (fun _ _ _ h => h) (Or.inl ⟨by rfl, ?_⟩) ?_ ?_
        rotate_left
        ·intro w'
         go_simp
         with_reducible rfl
        rotate_left
        ·simp only [Act.put, Zj, Zk, Zm, i64_w, i32_w]
         rfl
        refine done_ (QbJ HT_.out (by kernel_rfl)) ?_
        go_upto_if 50 with (fail)
        by_cases c38 : ((rd_T46 l0 x7_1).f1).toList = a1_2.toList
        ·rw [if_pos c38] at H
         have c38b0 : (((rd_T46 l0 x7_1).f1).toList == a1_2.toList) = T := beq_iff_eq.mpr c38
         have c38b1 : (((rd_T46 l0 x7_1).f1).toList != a1_2.toList) = F := bne_eq_false_iff_eq.mpr c38
         clear c38
         (try simp only [c38b0, c38b1])
         have H' := Aside0.mk H
         clear H
         go_wp2
         go_roundg kj7
         case measure => have := HK1.out; have := HJ7.out; omega
         case rel => exact ⟨(x5_1), (x6_1), (wrap64 (x7_1 + 1)), (Zs), (Zs), H', ⟨by have := HK1.out; have := HJ7.out; omega⟩, ⟨Zr HO_5.out⟩, ⟨Zu BK825.out⟩, ⟨Zc1 GE825.out⟩⟩
        rw [if_neg c38] at H
        have c38b0 : (((rd_T46 l0 x7_1).f1).toList == a1_2.toList) = F := beq_eq_false_iff_ne.mpr c38
        have c38b1 : (((rd_T46 l0 x7_1).f1).toList != a1_2.toList) = T := bne_iff_ne.mpr c38
        (try simp only [c38b0, c38b1])
        by_cases c39 : x5_1.length < 2513169434916
        ·rw [if_pos c39] at H
         have LMc39 := Aside0.mk c39
         clear c39
         obtain ⟨y854, hy854⟩ : ∃ y_ : List (S46), y_ = (x5_1 ++ [(⟨(⟨(rd_T46 l0 x7_1).f0.f0, (rd_T46 l0 x7_1).f0.f1⟩ : S44), (rd_T46 l0 x7_1).f1, (rd_T46 l0 x7_1).f2⟩ : S46)]) := ⟨_, rfl⟩
         replace H : (Qan.l0 kj7 l0 y854 x6_1 (wrap64 (x7_1 + 1)) a1_0 a1_1 a1_2 a1_3) = some r := by first | (rw [hy854]; with_reducible exact H) | (have H2_ := (Option.bind_some _ _).symm.trans H; rw [hy854]; with_reducible exact H2_) | (have H2_ := (Option.bind_some _ _).symm.trans H; with_reducible exact H2_) | with_reducible exact H | (rw [hy854]; exact H) | exact H
         have Ny854 := Aside0.mk hy854
         clear hy854
         have H' := Aside0.mk H
         clear H
         have p853 : 0 ≤ (x7_1 : Int) := Ze
         have q853 : x7_1 < (l0.length : Int) := Ze
         obtain ⟨ad853, e853, hx853_0, hx853_1, hx853_2, hx853_3⟩ := at_T46 HR0.out x7_1 p853 q853
         obtain rfl : ad847 = ad853 := (by injection e853)
         replace hx853_0 := Zx HB.out hx853_0
         replace hx853_1 := Zx HB.out hx853_1
         replace hx853_2 := Zx HB.out hx853_2
         replace hx853_3 := Zx HB.out hx853_3
         replace p853 := eq_true p853
         replace q853 := eq_true q853
         go_wp2_with (first | ((with_reducible refine Qbv (b := .append) (xs := #[.tmp 51, .tmp 56]) rfl ?_); at_builtin; refine Kd.R_append k46 (w0 := w) w.heap.size rfl (.tmp 51) (.tmp 56) 30 46 (.agg #[(.string ⟨#[]⟩), (.string ⟨#[]⟩), (.string ⟨#[]⟩), (.int .i64 0)]) 56 rfl Try.underlying30 info46 rfl (by decide) (by omega) u5 x5_1 (⟨(⟨(rd_T46 l0 x7_1).f0.f0, (rd_T46 l0 x7_1).f0.f1⟩ : S44), (rd_T46 l0 x7_1).f1, (rd_T46 l0 x7_1).f2⟩ : S46) [.string ((rd_T46 l0 x7_1).f0.f0), .string ((rd_T46 l0 x7_1).f0.f1), .string ((rd_T46 l0 x7_1).f1), .int .i64 ((rd_T46 l0 x7_1).f2)] (fun k_ => k_ ≠ gb825) (fun _ => False) rfl rfl ?aP (fun _ hk => hk.elim) ?aF ?aO ?aB ?aS ?aL ?_; (case aP => exact QbS _ _ _ (⟨(⟨(rd_T46 l0 x7_1).f0.f0, (rd_T46 l0 x7_1).f0.f1⟩ : S44), (rd_T46 l0 x7_1).f1, (rd_T46 l0 x7_1).f2⟩ : S46)); (case aB => exact (Zc1 GE825.out)); (case aF => exact (fun k_ hk => Kd.freshB (g := gb825) (o := .cells #[.string a1_0, .string a1_1, .string a1_2, .int .i64 a1_3] 46 (0, 0)) (Zu BK825.out) k_ hk)); (case aO => exact (Zr HO_5.out)); (case aS => exact (Qam (Zc1 GE825.out))); (case aL => have := LMc39.out; omega); intro v855 w40 ho hb hg hat; rw [← Ny854.out] at ho; have HO856 := Aside0.mk (ho); replace BK825 := Aside0.mk (Qa7 (g := gb825) (o := .cells #[.string a1_0, .string a1_1, .string a1_2, .int .i64 a1_3] 46 (0, 0)) (Zu BK825.out) hg (Kd.R_away HO_5.out (fun _ hk => hk))); replace HB := Aside0.mk (hb); clear HO_5; clear ho hb hg hat))
         go_roundg kj7
         case measure => have := HK1.out; have := HJ7.out; omega
         case rel => exact ⟨(y854), (x6_1), (wrap64 (x7_1 + 1)), (Zs), (Zs), H', ⟨by have := HK1.out; have := HJ7.out; omega⟩, ⟨Zr HO856.out⟩, ⟨Zu BK825.out⟩, ⟨Zc1 GE825.out⟩⟩
        rw [if_neg c39] at H
        exact absurd H (by simp)
       rw [if_neg c32] at H
       exact absurd H (by simp)
      rw [if_neg c31] at H
      exact absurd H (by simp)
   rw [if_neg c7] at H
   have c7b0 : decide (x7_1 < (l0.length : Int)) = F := decide_eq_false c7
   clear c7
   (try simp only [c7b0])
   by_cases c41 : x6_1 = T
   ·subst c41
    have H1 : (some x5_1) = some r := by rw [if_pos rfl] at H; exact H
    clear H
    have H := H1
    clear H1
    obtain rfl := Option.some.inj H
    go_wp2
    go_ret
    exact ⟨_, Zq, by (with_reducible repeat (first | apply Kd.R_alloc | apply Kd.R_drewN | apply Kd.R_drew)); exact Kd.R_mono HO_5.out (fun _ hk => trivial), Zc1 GE825.out⟩
   replace c41 := Bool.eq_false_iff.mpr c41
   subst c41
   have H1 : (if x5_1.length < 2513169434916 then (some (x5_1 ++ [(⟨(⟨a1_0, a1_1⟩ : S44), a1_2, a1_3⟩ : S46)])) else (none)) = some r := by rw [if_neg (show ¬ (F = T) by decide)] at H; exact H
   clear H
   have H := H1
   clear H1
   by_cases c42 : x5_1.length < 2513169434916
   ·rw [if_pos c42] at H
    have LMc42 := Aside0.mk c42
    clear c42
    obtain ⟨y829, hy829⟩ : ∃ y_ : List (S46), y_ = (x5_1 ++ [(⟨(⟨a1_0, a1_1⟩ : S44), a1_2, a1_3⟩ : S46)]) := ⟨_, rfl⟩
    replace H : (some y829) = some r := by first | (rw [hy829]; with_reducible exact H) | (have H2_ := (Option.bind_some _ _).symm.trans H; rw [hy829]; with_reducible exact H2_) | (have H2_ := (Option.bind_some _ _).symm.trans H; with_reducible exact H2_) | with_reducible exact H | (rw [hy829]; exact H) | exact H
    have Ny829 := Aside0.mk hy829
    clear hy829
    obtain rfl := Option.some.inj H
    obtain ⟨hcz43_0, hfz43_0⟩ := Zy (v := (.string a1_0)) BK825.out 0
    obtain ⟨hcz43_1, hfz43_1⟩ := Zy (v := (.string a1_1)) BK825.out 1
    obtain ⟨hcz43_2, hfz43_2⟩ := Zy (v := (.string a1_2)) BK825.out 2
    obtain ⟨hcz43_3, hfz43_3⟩ := Zy (v := (.int .i64 a1_3)) BK825.out 3
    go_wp2_with (first | ((with_reducible refine Qbv (b := .append) (xs := #[.tmp 60, .tmp 62]) rfl ?_); at_builtin; refine Kd.R_append k46 (w0 := w) w.heap.size rfl (.tmp 60) (.tmp 62) 30 46 (.agg #[(.string ⟨#[]⟩), (.string ⟨#[]⟩), (.string ⟨#[]⟩), (.int .i64 0)]) 56 rfl Try.underlying30 info46 rfl (by decide) (by omega) u5 x5_1 (⟨(⟨a1_0, a1_1⟩ : S44), a1_2, a1_3⟩ : S46) [.string a1_0, .string a1_1, .string a1_2, .int .i64 a1_3] (fun k_ => k_ ≠ gb825) (fun _ => False) rfl rfl ?aP (fun _ hk => hk.elim) ?aF ?aO ?aB ?aS ?aL ?_; (case aP => exact QbS _ _ _ (⟨(⟨a1_0, a1_1⟩ : S44), a1_2, a1_3⟩ : S46)); (case aB => exact (Zc1 GE825.out)); (case aF => exact (fun k_ hk => Kd.freshB (g := gb825) (o := .cells #[.string a1_0, .string a1_1, .string a1_2, .int .i64 a1_3] 46 (0, 0)) (Zu BK825.out) k_ hk)); (case aO => exact (Zr HO_5.out)); (case aS => exact (Qam (Zc1 GE825.out))); (case aL => have := LMc42.out; omega); intro v830 w44 ho hb hg hat; rw [← Ny829.out] at ho; have HO831 := Aside0.mk (ho); replace BK825 := Aside0.mk (Qa7 (g := gb825) (o := .cells #[.string a1_0, .string a1_1, .string a1_2, .int .i64 a1_3] 46 (0, 0)) (Zu BK825.out) hg (Kd.R_away HO_5.out (fun _ hk => hk))); replace HB := Aside0.mk (hb); clear HO_5; clear ho hb hg hat))
    go_ret
    exact ⟨_, Zq, by (with_reducible repeat (first | apply Kd.R_alloc | apply Kd.R_drewN | apply Kd.R_drew)); exact Kd.R_mono HO831.out (fun _ hk => trivial), Zc1 GE825.out⟩
   rw [if_neg c42] at H
   exact absurd H (by simp)
end Go.Proofs.Ytfcaaefdmabkhaa.Pr
