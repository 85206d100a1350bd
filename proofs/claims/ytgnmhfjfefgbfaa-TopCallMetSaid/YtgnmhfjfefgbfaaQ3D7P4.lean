/- Functions' values and contracts, as the print wrote them. -/
import Derived.Test.YtgnmhfjfefgbfaaQ3D7P0
import Derived.Test.YtgnmhfjfefgbfaaQ3D7P3
import Derived.Test.YtgnmhfjfefgbfaaQ3D7P2
namespace Go.Proofs.Ytgnmhfjfefgbfaa.Pr
open Bool renaming true → T
open Bool renaming false → F
open Go.RowKit Go.Proofs.YtgnmhfjfefgbfaaW.PrintWords Go.Proofs.YtgnmhfjfefgbfaaW.PrintLast Go.Proofs.YtgnmhfjfefgbfaaW.PrintMore
attribute [local go_sem] QaN QaP QaW QaX QaH QaI QaO QaQ   -- for this text's walks alone
set_option linter.unusedVariables false
set_option linter.unusedSimpArgs false
set_option maxRecDepth 100000
mutual
def Qa9.j0 : Nat → List (S213) → Bool → Option (Int)
 | 0, _, _ => none
 | k + 1, x0, x13 => if x13 = T then (some 8) else (if 0 < (x0.length : Int) then (if ((QaR x0 0).f0) = 0 then (Qa9.l0 k x0 (x0.length : Int) 0 (-1) 68719476736) else (some 2)) else (none))
def Qa9.l0 : Nat → List (S213) → Int → Int → Int → Int → Option (Int)
 | 0, _, _, _, _, _ => none
 | k + 1, x20, x21, x22, x885000, x885001 => if x22 < x21 then (if 0 ≤ x22 then (if x22 < (x20.length : Int) then ((Qch.f ((QaR x20 x22).f0) ((QaR x20 x22).f1) x885000 x885001).bind fun t887 => (if t887 = T then (Qa9.l0 k x20 x21 (wrap64 (x22 + 1)) ((QaR x20 x22).f0) ((QaR x20 x22).f1)) else (some 2))) else (none)) else (none)) else (some 0)
end
def Qa9.f (k : Nat) (l0 : List (S213)) : Option (Int) := if (l0.length : Int) = 0 then (Qa9.j0 k l0 T) else (Qa9.j0 k l0 (decide ((l0.length : Int) > 1024)))
theorem Qa9.mono_l : ∀ k, (∀ y0 y1, LeO (Qa9.j0 k y0 y1) (Qa9.j0 (k + 1) y0 y1)) ∧ (∀ y0 y1 y2 y3 y4, LeO (Qa9.l0 k y0 y1 y2 y3 y4) (Qa9.l0 (k + 1) y0 y1 y2 y3 y4))
 | 0 => ⟨fun _ _ r h => by simp [Qa9.j0] at h, fun _ _ _ _ _ r h => by simp [Qa9.l0] at h⟩
 | k + 1 => by
  obtain ⟨ih0, ih1⟩ := Qa9.mono_l k
  refine ⟨?_, ?_⟩
  ·intro y0 y1
   unfold Qa9.j0
   exact ZM2 ih0 ih1
  intro y0 y1 y2 y3 y4
  unfold Qa9.l0
  exact ZM2 ih0 ih1
theorem Qa9.mono : ∀ a0 k, LeO (Qa9.f k a0) (Qa9.f (k + 1) a0) := by
 intro a0 k
 obtain ⟨ih0, ih1⟩ := Qa9.mono_l k
 unfold Qa9.f
 exact ZM2 ih0 ih1
set_option maxHeartbeats 8000000 in
theorem Qa9.calls (k : Nat) (A0 : Option Addr) (c0 : Nat) (l0 : List (S213)) (r : Int) (w : World) (hr0 : Kd.C k213 w A0 l0.length l0) (hc0 : l0.length ≤ c0) (h : Qa9.f k l0 = some r) :
  Calls Try.prog 175 #[.slice A0 l0.length c0] w fun e w' => e = .returned (.int .i64 r) ∧ Below w.heap.size w w' := by
 have hu213 := Try.underlying213
 have HR0 := Aside0.mk hr0
 have HC0 := Aside0.mk hc0
 clear hr0 hc0
 have HB := Aside0.mk (Below.refl w.heap.size w)
 have H : (if (l0.length : Int) = 0 then (Qa9.j0 k l0 T) else (Qa9.j0 k l0 (decide ((l0.length : Int) > 1024)))) = some r := h
 clear h
 have HC2 := Aside0.mk H
 clear H
 go_enter Try.func175, Try.ntmps175
 go_upto_region 1 with (fail)
 go_cut [13] (fun v13 wc => ∃ (kq : Nat) (x13_1 : Bool), v13 = .bool x13_1 ∧ Aside0 (Qa9.j0 kq l0 x13_1 = some r) ∧ Aside0 (kq ≤ k) ∧ Aside0 (Below w.heap.size w wc))
 case first =>
  have H := HC2.out
  clear HC2
  by_cases c3 : (l0.length : Int) = 0
  ·rw [if_pos c3] at H
   have c3b0 : ((l0.length : Int) == 0) = T := beq_iff_eq.mpr c3
   have c3b1 : ((l0.length : Int) != 0) = F := bne_eq_false_iff_eq.mpr c3
   clear c3
   have H' := Aside0.mk H
   clear H
   go_wp2
   go_meet
   case rel => exact ⟨_, (T), (Zs), H', ⟨by first | omega | exact Nat.le_refl _⟩, ⟨Zb⟩⟩
  rw [if_neg c3] at H
  have c3b0 : ((l0.length : Int) == 0) = F := beq_eq_false_iff_ne.mpr c3
  have c3b1 : ((l0.length : Int) != 0) = T := bne_iff_ne.mpr c3
  have c3b2 : ¬ (l0 = []) := fun h_ => c3 (by rw [h_]; rfl)
  have H' := Aside0.mk H
  clear H
  go_wp2
  go_meet
  case rel => exact ⟨_, (decide ((l0.length : Int) > 1024)), (Zs), H', ⟨by first | omega | exact Nat.le_refl _⟩, ⟨Zb⟩⟩
 case rest =>
  clear HC2
  try clear c1
  try clear p2
  try clear c3
  try clear c3b0
  try clear c3b1
  try clear c3b2
  obtain ⟨kq, x13_1, rfl, HA, HJ1, HB⟩ := hcut
  cases kq with
  | zero => exact absurd HA.out (by simp [Qa9.j0])
  | succ kj1 =>
   have H := HA.out
   clear HA
   simp only [Qa9.j0] at H
   by_cases c4 : x13_1 = T
   ·subst c4
    have H1 : (some 8) = some r := by rw [if_pos rfl] at H; exact H
    clear H
    have H := H1
    clear H1
    obtain rfl := Option.some.inj H
    go_wp2
    go_ret
    exact ⟨Zq, Zb⟩
   replace c4 := Bool.eq_false_iff.mpr c4
   subst c4
   have H1 : (if 0 < (l0.length : Int) then (if ((QaR l0 0).f0) = 0 then (Qa9.l0 kj1 l0 (l0.length : Int) 0 (-1) 68719476736) else (some 2)) else (none)) = some r := by rw [if_neg (show ¬ (F = T) by decide)] at H; exact H
   clear H
   have H := H1
   clear H1
   by_cases c5 : 0 < (l0.length : Int)
   ·rw [if_pos c5] at H
    have c5b0 : decide (0 < (l0.length : Int)) = T := decide_eq_true c5
    have c5b1 : decide (0 < l0.length) = T := decide_eq_true (by omega)
    clear c5
    (try simp only [c5b0, c5b1])
    have p883 : 0 ≤ (0 : Int) := (by omega)
    have q883 : 0 < (l0.length : Int) := Ze
    obtain ⟨ad883, e883, hx883_0, hx883_1⟩ := Qc9 HR0.out 0 p883 q883
    cases e883
    have qi883 : (0 < l0.length) = True := eq_true (by omega)
    (try rw [show ((0 : Int)).toNat = 0 from rfl] at hx883_0)
    (try rw [show 0 * 2 = 0 from rfl] at hx883_0)
    (try rw [Addr.add_zero'] at hx883_0)
    (try rw [show ((0 : Int)).toNat = 0 from rfl] at hx883_1)
    (try rw [show 0 * 2 = 0 from rfl] at hx883_1)
    (try rw [Addr.add_zero'] at hx883_1)
    replace hx883_0 := Zx HB.out hx883_0
    replace hx883_1 := Zx HB.out hx883_1
    replace p883 := eq_true p883
    replace q883 := eq_true q883
    go_upto_if 18 with (fail)
    by_cases c6 : ((QaR l0 0).f0) = 0
    ·rw [if_pos c6] at H
     have c6b0 : (((QaR l0 0).f0) == 0) = T := beq_iff_eq.mpr c6
     have c6b1 : (((QaR l0 0).f0) != 0) = F := bne_eq_false_iff_eq.mpr c6
     clear c6
     (try simp only [c6b0, c6b1])
     have H' := Aside0.mk H
     clear H
     go_wp2_with (first | ((with_reducible refine QaT (N := 3) rfl ?_); (try (refine QbN (by rfl) ?_; dsimp only)); refine Zbx (N := 3) (cs := #[.int .i64 0, .int .i64 0]) (t := 213) ?_; intro gb884 hg w7 hbox hb; have BK884 := Aside0.mk (hbox); have GW884 := Aside0.mk (Zt w hg (Zb)); have GE884 := GW884; replace HB := Aside0.mk (Qap (Zb) hb); clear hb hbox hg; obtain ⟨hcz8_0, hfz8_0⟩ := Zy (v := (.int .i64 0)) BK884.out 0; obtain ⟨hcz8_1, hfz8_1⟩ := Zy (v := (.int .i64 0)) BK884.out 1))
     go_loopg [22] kj1 (fun kq v22 w' => ∃ (x22_2 : Int) (x885000_2 : Int) (x885001_2 : Int), v22 = .int .i64 x22_2 ∧ Aside0 (Qa9.l0 kq l0 (l0.length : Int) x22_2 x885000_2 x885001_2 = some r) ∧ Aside0 (kq ≤ kj1) ∧ Aside0 (w'.heap[gb884]? = some (.cells #[.int .i64 x885000_2, .int .i64 x885001_2] 213 (0, 0))) ∧ Aside0 (Below w.heap.size w w'))
     case atStart => exact ⟨(0), ((-1)), (68719476736), (Zs), H', ⟨Nat.le_refl _⟩, ⟨Zp2 BK884.out⟩, ⟨Zc1 GE884.out⟩⟩
     case round =>
      clear H'
      try clear c1
      try clear p2
      try clear c3
      try clear c3b0
      try clear c3b1
      try clear c3b2
      try clear c4
      try clear c5
      try clear c5b0
      try clear c5b1
      try clear c6
      try clear c6b0
      try clear c6b1
      try clear p8
      try clear q8
      try clear hx8
      try clear qi8
      try clear hcz8_0
      try clear hcz8_1
      try clear hfz8_0
      try clear hfz8_1
      try clear hx883_0
      try clear hx883_1
      try clear p2
      try clear p883
      try clear q883
      obtain ⟨x22_2, x885000_2, x885001_2, rfl, HA, HK2, BK884, HB⟩ := hrel
      cases gk with
      | zero => exact absurd HA.out (by simp [Qa9.l0])
      | succ k2 =>
       have H := HA.out
       clear HA
       simp only [Qa9.l0] at H
       by_cases c9 : x22_2 < (l0.length : Int)
       ·rw [if_pos c9] at H
        have c9b0 : decide (x22_2 < (l0.length : Int)) = T := decide_eq_true c9
        clear c9
        (try simp only [c9b0])
        by_cases c10 : 0 ≤ x22_2
        ·rw [if_pos c10] at H
         have c10b0 : decide (0 ≤ x22_2) = T := decide_eq_true c10
         clear c10
         by_cases c11 : x22_2 < (l0.length : Int)
         ·rw [if_pos c11] at H
          have c11b0 : decide (x22_2 < (l0.length : Int)) = T := decide_eq_true c11
          clear c11
          replace H := Option.bind_eq_some_iff.mp H
          obtain ⟨t887, A120, H⟩ := H
          replace H : (if t887 = T then (Qa9.l0 k2 l0 (l0.length : Int) (wrap64 (x22_2 + 1)) ((QaR l0 x22_2).f0) ((QaR l0 x22_2).f1)) else (some 2)) = some r := H
          have A12 := Aside0.mk A120
          clear A120
          have p885 : 0 ≤ (x22_2 : Int) := Ze
          have q885 : x22_2 < (l0.length : Int) := Ze
          obtain ⟨ad885, e885, hx885_0, hx885_1⟩ := Qc9 HR0.out x22_2 p885 q885
          obtain rfl : ad883 = ad885 := (by injection e885)
          replace hx885_0 := Zx HB.out hx885_0
          replace hx885_1 := Zx HB.out hx885_1
          replace p885 := eq_true p885
          replace q885 := eq_true q885
          go_upto_if 29 with (first | ((with_reducible refine QaT (N := 5) rfl ?_); (try (refine QbN (by rfl) ?_; dsimp only)); refine Zbx (N := 5) (cs := #[.int .i64 0, .int .i64 0]) (t := 213) ?_; intro gb886 hg w13 hbox hb; have BK886 := Aside0.mk (hbox); have GW886 := Aside0.mk (Zt w hg (Zc1 GE884.out)); have GE886 := GW886; have NB884_886 := Aside0.mk (Zn hg BK884.out); have NB886_884 := Aside0.mk NB884_886.out.symm; replace BK884 := Aside0.mk (Zi BK884.out hb); replace HB := Aside0.mk (Qap (Zc1 GE884.out) hb); clear hb hbox hg; have hnb14 := NB886_884.out; have hnc14 := NB884_886.out; obtain ⟨hcz15_0, hfz15_0⟩ := Zy (v := (.int .i64 0)) BK886.out 0; obtain ⟨hcz15_1, hfz15_1⟩ := Zy (v := (.int .i64 0)) BK886.out 1; obtain ⟨hcz16_0, hfz16_0⟩ := Zy (v := (.int .i64 x885000_2)) BK884.out 0; obtain ⟨hcz16_1, hfz16_1⟩ := Zy (v := (.int .i64 x885001_2)) BK884.out 1) | ((with_reducible refine Qay (f := 216) rfl ?_); refine goesL_ (some 28) rfl rfl Try.func216 (by kernel_rfl) rfl #[.agg #[.int .i64 ((QaR l0 x22_2).f0), .int .i64 ((QaR l0 x22_2).f1)], .agg #[.int .i64 x885000_2, .int .i64 x885001_2]] rfl (Zl) ?_; (with_reducible refine (Qch.calls ((QaR l0 x22_2).f0) ((QaR l0 x22_2).f1) x885000_2 x885001_2 t887 _ A12.out).mono ?_); rintro e w17 ⟨rfl, hb⟩; refine ⟨_, rfl, ?_⟩; replace BK884 := Aside0.mk (Qam (g := gb884) (o := .cells #[.int .i64 x885000_2, .int .i64 x885001_2] 213 (0, 0)) (Zg2 BK884.out NB884_886.out NB884_886.out) hb); replace BK886 := Aside0.mk (Zpi #[.int .i64 ((QaR l0 x22_2).f0), .int .i64 ((QaR l0 x22_2).f1)] BK886.out hb); replace HB := Aside0.mk (Qap (Zc2 GE884.out GE886.out) hb); (try clear hb); (try clear hb2); (try clear hk); (try clear hi)))
          (try simp only [Act.put, Zj, Zk, Zm])
          by_cases c18 : t887 = T
          ·subst c18
           have H1 : (Qa9.l0 k2 l0 (l0.length : Int) (wrap64 (x22_2 + 1)) ((QaR l0 x22_2).f0) ((QaR l0 x22_2).f1)) = some r := by rw [if_pos rfl] at H; exact H
           clear H
           have H := H1
           clear H1
           have H' := Aside0.mk H
           clear H
           have hnb19 := NB886_884.out
           have hnc19 := NB884_886.out
           obtain ⟨hcz20_0, hfz20_0⟩ := Zy (v := (.int .i64 ((QaR l0 x22_2).f0))) BK886.out 0
           obtain ⟨hcz20_1, hfz20_1⟩ := Zy (v := (.int .i64 ((QaR l0 x22_2).f1))) BK886.out 1
           obtain ⟨hcz21_0, hfz21_0⟩ := Zy (v := (.int .i64 x885000_2)) BK884.out 0
           obtain ⟨hcz21_1, hfz21_1⟩ := Zy (v := (.int .i64 x885001_2)) BK884.out 1
           go_wp2
           go_roundg k2
           case measure => have := HJ1.out; have := HK2.out; omega
           case rel => exact ⟨(wrap64 (x22_2 + 1)), ((QaR l0 x22_2).f0), ((QaR l0 x22_2).f1), (Zs), H', ⟨by have := HJ1.out; have := HK2.out; omega⟩, ⟨Zp2 BK884.out⟩, ⟨Zc2 GE884.out GE886.out⟩⟩
          replace c18 := Bool.eq_false_iff.mpr c18
          subst c18
          have H1 : (some 2) = some r := by rw [if_neg (show ¬ (F = T) by decide)] at H; exact H
          clear H
          have H := H1
          clear H1
          obtain rfl := Option.some.inj H
          go_wp2
          go_ret
          exact ⟨Zq, Zc2 GE884.out GE886.out⟩
         rw [if_neg c11] at H
         exact absurd H (by simp)
        rw [if_neg c10] at H
        exact absurd H (by simp)
       rw [if_neg c9] at H
       have c9b0 : decide (x22_2 < (l0.length : Int)) = F := decide_eq_false c9
       clear c9
       (try simp only [c9b0])
       obtain rfl := Option.some.inj H
       go_wp2
       go_ret
       exact ⟨Zq, Zc1 GE884.out⟩
    rw [if_neg c6] at H
    have c6b0 : (((QaR l0 0).f0) == 0) = F := beq_eq_false_iff_ne.mpr c6
    have c6b1 : (((QaR l0 0).f0) != 0) = T := bne_iff_ne.mpr c6
    (try simp only [c6b0, c6b1])
    obtain rfl := Option.some.inj H
    go_wp2
    go_ret
    exact ⟨Zq, Zb⟩
   rw [if_neg c5] at H
   exact absurd H (by simp)
mutual
def Qa2.j0 : Nat → Int → Int → List (S213) → Bool → Option (Int × Int)
 | 0, _, _, _, _ => none
 | k + 1, x0, x1, x2, x29 => if x29 = T then (some (0, 18)) else (Qa2.l0 k x0 x2 (wrap64 (x0 + x1)) ([] : List Int) x2 (x2.length : Int) 0)
def Qa2.l0 : Nat → Int → List (S213) → Int → List Int → List (S213) → Int → Int → Option (Int × Int)
 | 0, _, _, _, _, _, _, _ => none
 | k + 1, x0, x2, x10, x11, x33, x34, x35 => if x35 < x34 then (if 0 ≤ x35 then (if x35 < (x33.length : Int) then (if (wrap64 (x35 + 1)) < (x2.length : Int) then (if 0 ≤ (wrap64 (x35 + 1)) then ((Qbi.f k ((QaR x33 x35).f0) ((QaR x33 x35).f1) (mx (wrap64 ((mn x10 ((QaR x2 (wrap64 (x35 + 1))).f0)) - (mx ((QaR x33 x35).f0) x0))) 0)).bind fun bt907 => (if bt907.2 = 0 then (if x11.length < 17592186044416 then (Qa2.l0 k x0 x2 x10 (x11 ++ [bt907.1]) x33 x34 (wrap64 (x35 + 1))) else (none)) else (some (0, bt907.2)))) else (none)) else ((Qbi.f k ((QaR x33 x35).f0) ((QaR x33 x35).f1) (mx (wrap64 (x10 - (mx ((QaR x33 x35).f0) x0))) 0)).bind fun bt912 => (if bt912.2 = 0 then (if x11.length < 17592186044416 then (Qa2.l0 k x0 x2 x10 (x11 ++ [bt912.1]) x33 x34 (wrap64 (x35 + 1))) else (none)) else (some (0, bt912.2))))) else (none)) else (none)) else ((Qa1.f k x11).bind fun bt902 => (some (bt902.1, bt902.2)))
end
def Qa2.f (k : Nat) (a0 : Int) (a1 : Int) (l2 : List (S213)) : Option (Int × Int) := (Qa9.f k l2).bind fun t899 => (if t899 = 0 then ((QbO.f a0).bind fun t900 => (if t900 = T then ((QbO.f a1).bind fun t901 => (Qa2.j0 k a0 a1 l2 (!t901))) else (Qa2.j0 k a0 a1 l2 T))) else (some (0, t899)))
theorem Qa2.mono_l : ∀ k, (∀ y0 y1 y2 y3, LeO (Qa2.j0 k y0 y1 y2 y3) (Qa2.j0 (k + 1) y0 y1 y2 y3)) ∧ (∀ y0 y1 y2 y3 y4 y5 y6, LeO (Qa2.l0 k y0 y1 y2 y3 y4 y5 y6) (Qa2.l0 (k + 1) y0 y1 y2 y3 y4 y5 y6))
 | 0 => ⟨fun _ _ _ _ r h => by simp [Qa2.j0] at h, fun _ _ _ _ _ _ _ r h => by simp [Qa2.l0] at h⟩
 | k + 1 => by
  obtain ⟨ih0, ih1⟩ := Qa2.mono_l k
  refine ⟨?_, ?_⟩
  ·intro y0 y1 y2 y3
   unfold Qa2.j0
   exact ZM5 ih0 ih1 Qa1.mono Qbi.mono Qa9.mono
  intro y0 y1 y2 y3 y4 y5 y6
  unfold Qa2.l0
  exact ZM5 ih0 ih1 Qa1.mono Qbi.mono Qa9.mono
theorem Qa2.mono : ∀ a0 a1 a2 k, LeO (Qa2.f k a0 a1 a2) (Qa2.f (k + 1) a0 a1 a2) := by
 intro a0 a1 a2 k
 obtain ⟨ih0, ih1⟩ := Qa2.mono_l k
 unfold Qa2.f
 exact ZM5 ih0 ih1 Qa1.mono Qbi.mono Qa9.mono
set_option maxHeartbeats 8000000 in
theorem Qa2.calls (k : Nat) (a0 : Int) (a1 : Int) (A2 : Option Addr) (c2 : Nat) (l2 : List (S213)) (r1 : Int) (r2 : Int) (w : World) (hr2 : Kd.C k213 w A2 l2.length l2) (hc2 : l2.length ≤ c2) (h : Qa2.f k a0 a1 l2 = some (r1, r2)) :
  Calls Try.prog 107 #[.int .i64 a0, .int .i64 a1, .slice A2 l2.length c2] w fun e w' => e = .returned (.tuple #[.int .i64 r1, .int .i64 r2]) ∧ Below w.heap.size w w' := by
 have hu213 := Try.underlying213
 have HR2 := Aside0.mk hr2
 have HC2 := Aside0.mk hc2
 clear hr2 hc2
 have HB := Aside0.mk (Below.refl w.heap.size w)
 have H : ((Qa9.f k l2).bind fun t899 => (if t899 = 0 then ((QbO.f a0).bind fun t900 => (if t900 = T then ((QbO.f a1).bind fun t901 => (Qa2.j0 k a0 a1 l2 (!t901))) else (Qa2.j0 k a0 a1 l2 T))) else (some (0, t899)))) = some (r1, r2) := h
 clear h
 replace H := Option.bind_eq_some_iff.mp H
 obtain ⟨t899, A40, H⟩ := H
 replace H : (if t899 = 0 then ((QbO.f a0).bind fun t900 => (if t900 = T then ((QbO.f a1).bind fun t901 => (Qa2.j0 k a0 a1 l2 (!t901))) else (Qa2.j0 k a0 a1 l2 T))) else (some (0, t899))) = some (r1, r2) := H
 have A4 := Aside0.mk A40
 clear A40
 go_enter Try.func107, Try.ntmps107
 go_upto_if 20 with (first | ((with_reducible refine Qay (f := 175) rfl ?_); refine goesL_ (some 18) rfl rfl Try.func175 (by kernel_rfl) rfl #[.slice A2 l2.length c2] rfl (Zl) ?_; (with_reducible refine (Qa9.calls k _ _ l2 t899 _ ?side1 ?side2 A4.out).mono ?_); (case side1 => exact Zv HR2.out); (case side2 => exact HC2.out); rintro e w5 ⟨rfl, hb⟩; refine ⟨_, rfl, ?_⟩; replace HB := Aside0.mk (Qap (Zb) hb); (try clear hb); (try clear hb2); (try clear hk); (try clear hi)))
 (try simp only [Act.put, Zj, Zk, Zm])
 by_cases c6 : t899 = 0
 ·rw [if_pos c6] at H
  have c6b0 : (t899 == 0) = T := beq_iff_eq.mpr c6
  have c6b1 : (t899 != 0) = F := bne_eq_false_iff_eq.mpr c6
  clear c6
  (try simp only [c6b0, c6b1])
  have HC7 := Aside0.mk H
  clear H
  go_upto_region 4 with (fail)
  go_cut [29] (fun v29 wc => ∃ (kq : Nat) (x29_6 : Bool), v29 = .bool x29_6 ∧ Aside0 (Qa2.j0 kq a0 a1 l2 x29_6 = some (r1, r2)) ∧ Aside0 (kq ≤ k) ∧ Aside0 (Below w.heap.size w wc))
  case first =>
   have H := HC7.out
   clear HC7
   replace H := Option.bind_eq_some_iff.mp H
   obtain ⟨t900, A80, H⟩ := H
   replace H : (if t900 = T then ((QbO.f a1).bind fun t901 => (Qa2.j0 k a0 a1 l2 (!t901))) else (Qa2.j0 k a0 a1 l2 T)) = some (r1, r2) := H
   have A8 := Aside0.mk A80
   clear A80
   by_cases c9 : t900 = T
   ·subst c9
    have H1 : ((QbO.f a1).bind fun t901 => (Qa2.j0 k a0 a1 l2 (!t901))) = some (r1, r2) := by rw [if_pos rfl] at H; exact H
    clear H
    have H := H1
    clear H1
    replace H := Option.bind_eq_some_iff.mp H
    obtain ⟨t901, A100, H⟩ := H
    replace H : (Qa2.j0 k a0 a1 l2 (!t901)) = some (r1, r2) := H
    have A10 := Aside0.mk A100
    clear A100
    have H' := Aside0.mk H
    clear H
    go_wp2_with (first | ((with_reducible refine Qay (f := 176) rfl ?_); refine goesL_ (some 23) rfl rfl Try.func176 (by kernel_rfl) rfl #[.int .i64 a0] rfl (Zl) ?_; (with_reducible refine (QbO.calls a0 T _ A8.out).mono ?_); rintro e w' ⟨rfl, ⟨nd, rfl⟩⟩; refine ⟨_, rfl, ?_⟩) | (go_at_call 176; (with_reducible refine (QbO.calls a1 t901 _ A10.out).mono ?_); rintro e w' ⟨rfl, ⟨nd, rfl⟩⟩))
    go_meet
    case rel => exact ⟨_, (!t901), (Zs), H', ⟨by first | omega | exact Nat.le_refl _⟩, ⟨Zb⟩⟩
   replace c9 := Bool.eq_false_iff.mpr c9
   subst c9
   have H1 : (Qa2.j0 k a0 a1 l2 T) = some (r1, r2) := by rw [if_neg (show ¬ (F = T) by decide)] at H; exact H
   clear H
   have H := H1
   clear H1
   have H' := Aside0.mk H
   clear H
   go_wp2_with (first | ((with_reducible refine Qay (f := 176) rfl ?_); refine goesL_ (some 23) rfl rfl Try.func176 (by kernel_rfl) rfl #[.int .i64 a0] rfl (Zl) ?_; (with_reducible refine (QbO.calls a0 F _ A8.out).mono ?_); rintro e w' ⟨rfl, ⟨nd, rfl⟩⟩; refine ⟨_, rfl, ?_⟩))
   go_meet
   case rel => exact ⟨_, (T), (Zs), H', ⟨by first | omega | exact Nat.le_refl _⟩, ⟨Zb⟩⟩
  case rest =>
   clear HC7
   try clear c1
   try clear c2
   try clear p2
   try clear c6
   try clear c6b0
   try clear c6b1
   try clear c9
   try clear c10
   obtain ⟨kq, x29_6, rfl, HA, HJ6, HB⟩ := hcut
   cases kq with
   | zero => exact absurd HA.out (by simp [Qa2.j0])
   | succ kj6 =>
    have H := HA.out
    clear HA
    simp only [Qa2.j0] at H
    by_cases c11 : x29_6 = T
    ·subst c11
     have H1 : (some (0, 18)) = some (r1, r2) := by rw [if_pos rfl] at H; exact H
     clear H
     have H := H1
     clear H1
     simp only [Option.some.injEq, Prod.mk.injEq] at H
     obtain ⟨rfl, rfl⟩ := H
     go_wp2
     go_ret2
     exact ⟨Zq, Zb⟩
    replace c11 := Bool.eq_false_iff.mpr c11
    subst c11
    have H1 : (Qa2.l0 kj6 a0 l2 (wrap64 (a0 + a1)) ([] : List Int) l2 (l2.length : Int) 0) = some (r1, r2) := by rw [if_neg (show ¬ (F = T) by decide)] at H; exact H
    clear H
    have H := H1
    clear H1
    have H' := Aside0.mk H
    clear H
    go_wp2
    go_loopg [11, 35] kj6 (fun kq v11 v35 w' => ∃ (x11_2 : List Int) (x35_2 : Int), v35 = .int .i64 x35_2 ∧ Aside0 (Qa2.l0 kq a0 l2 (wrap64 (a0 + a1)) x11_2 l2 (l2.length : Int) x35_2 = some (r1, r2)) ∧ Aside0 (kq ≤ kj6) ∧ Aside0 (Kd.R (Kd.int .i64) 3 w' w.heap.size (fun _ => True) v11 x11_2) ∧ Aside0 (Below w.heap.size w w'))
    case atStart => exact ⟨(([] : List Int)), (0), (Zs), H', ⟨Nat.le_refl _⟩, ⟨by first | exact Kd.R_nil _ _ _ _ _ | exact Kd.N_nil _ _ _ _ _ | exact Kd.V_nil _ _ _ _ _ | exact Kd.Q_nil _ _ _ _ _ | exact Kd.S_nil _ _ _ _ _⟩, ⟨Zb⟩⟩
    case round =>
     clear H'
     try clear c1
     try clear c2
     try clear p2
     try clear c6
     try clear c6b0
     try clear c6b1
     try clear p6
     try clear c9
     try clear c10
     try clear c11
     try clear p2
     obtain ⟨x11_2, x35_2, rfl, HA, HK2, HO_11, HB⟩ := hrel
     cases gk with
     | zero => exact absurd HA.out (by simp [Qa2.l0])
     | succ k2 =>
      have H := HA.out
      clear HA
      simp only [Qa2.l0] at H
      by_cases c12 : x35_2 < (l2.length : Int)
      ·rw [if_pos c12] at H
       have c12b0 : decide (x35_2 < (l2.length : Int)) = T := decide_eq_true c12
       clear c12
       (try simp only [c12b0])
       by_cases c13 : 0 ≤ x35_2
       ·rw [if_pos c13] at H
        have c13b0 : decide (0 ≤ x35_2) = T := decide_eq_true c13
        clear c13
        by_cases c14 : x35_2 < (l2.length : Int)
        ·rw [if_pos c14] at H
         have c14b0 : decide (x35_2 < (l2.length : Int)) = T := decide_eq_true c14
         clear c14
         have p904 : 0 ≤ (x35_2 : Int) := Ze
         have q904 : x35_2 < (l2.length : Int) := Ze
         obtain ⟨ad904, e904, hx904_0, hx904_1⟩ := Qc9 HR2.out x35_2 p904 q904
         cases e904
         replace hx904_0 := Zx HB.out hx904_0
         replace hx904_1 := Zx HB.out hx904_1
         replace p904 := eq_true p904
         replace q904 := eq_true q904
         go_upto_if 45 with (first | ((with_reducible refine QaT (N := 13) rfl ?_); refine Zbx (N := 13) (cs := #[.int .i64 0, .int .i64 0]) (t := 213) ?_; intro gb905 hg w15 hbox hb; have BK905 := Aside0.mk (hbox); have GW905 := Aside0.mk (Zt w hg (Zb)); have GE905 := GW905; replace HO_11 := Aside0.mk (Kd.R_below (Zr HO_11.out) hb); replace HB := Aside0.mk (Qap (Zb) hb); clear hb hbox hg; obtain ⟨hcz16_0, hfz16_0⟩ := Zy (v := (.int .i64 0)) BK905.out 0; obtain ⟨hcz16_1, hfz16_1⟩ := Zy (v := (.int .i64 0)) BK905.out 1))
         (try simp only [Act.put, Zj, Zk, Zm])
         by_cases c17 : (wrap64 (x35_2 + 1)) < (l2.length : Int)
         ·rw [if_pos c17] at H
          have c17b0 : decide ((wrap64 (x35_2 + 1)) < (l2.length : Int)) = T := decide_eq_true c17
          clear c17
          (try simp only [c17b0])
          obtain ⟨ji18, hji18⟩ : ∃ j_ : Int, (wrap64 (x35_2 + 1)) = j_ := ⟨_, rfl⟩
          replace H : (if 0 ≤ (ji18) then ((Qbi.f k2 ((QaR l2 x35_2).f0) ((QaR l2 x35_2).f1) (mx (wrap64 ((mn (wrap64 (a0 + a1)) ((QaR l2 (ji18)).f0)) - (mx ((QaR l2 x35_2).f0) a0))) 0)).bind fun bt907 => (if bt907.2 = 0 then (if x11_2.length < 17592186044416 then (Qa2.l0 k2 a0 l2 (wrap64 (a0 + a1)) (x11_2 ++ [bt907.1]) l2 (l2.length : Int) ji18) else (none)) else (some (0, bt907.2)))) else (none)) = some (r1, r2) := by first | (rw [hji18] at H; exact H) | (simp only [hji18] at H ⊢; exact H)
          (try rw [hji18] at c17b0)
          have hji18w : (IntKind.i64.wrap (x35_2 + 1)) = ji18 := (i64_w _).trans hji18
          by_cases c19 : 0 ≤ (ji18)
          ·rw [if_pos c19] at H
           have c19b0 : decide (0 ≤ (ji18)) = T := decide_eq_true c19
           clear c19
           obtain ⟨ji20, hji20⟩ : ∃ j_ : Int, (mn (wrap64 (a0 + a1)) ((QaR l2 (ji18)).f0)) = j_ := ⟨_, rfl⟩
           replace H : ((Qbi.f k2 ((QaR l2 x35_2).f0) ((QaR l2 x35_2).f1) (mx (wrap64 ((ji20) - (mx ((QaR l2 x35_2).f0) a0))) 0)).bind fun bt907 => (if bt907.2 = 0 then (if x11_2.length < 17592186044416 then (Qa2.l0 k2 a0 l2 (wrap64 (a0 + a1)) (x11_2 ++ [bt907.1]) l2 (l2.length : Int) ji18) else (none)) else (some (0, bt907.2)))) = some (r1, r2) := by first | (rw [hji20] at H; exact H) | (simp only [hji20] at H ⊢; exact H)
           have hji20_ : (if ((QaR l2 (ji18)).f0) < (wrap64 (a0 + a1)) then ((QaR l2 (ji18)).f0) else (wrap64 (a0 + a1))) = ji20 := hji20
           obtain ⟨ji21, hji21⟩ : ∃ j_ : Int, (mx ((QaR l2 x35_2).f0) a0) = j_ := ⟨_, rfl⟩
           replace H : ((Qbi.f k2 ((QaR l2 x35_2).f0) ((QaR l2 x35_2).f1) (mx (wrap64 ((ji20) - (ji21))) 0)).bind fun bt907 => (if bt907.2 = 0 then (if x11_2.length < 17592186044416 then (Qa2.l0 k2 a0 l2 (wrap64 (a0 + a1)) (x11_2 ++ [bt907.1]) l2 (l2.length : Int) ji18) else (none)) else (some (0, bt907.2)))) = some (r1, r2) := by first | (rw [hji21] at H; exact H) | (simp only [hji21] at H ⊢; exact H)
           have hji21_ : (if ((QaR l2 x35_2).f0) < a0 then a0 else ((QaR l2 x35_2).f0)) = ji21 := hji21
           obtain ⟨ji22, hji22⟩ : ∃ j_ : Int, (mx (wrap64 ((ji20) - (ji21))) 0) = j_ := ⟨_, rfl⟩
           replace H : ((Qbi.f k2 ((QaR l2 x35_2).f0) ((QaR l2 x35_2).f1) (ji22)).bind fun bt907 => (if bt907.2 = 0 then (if x11_2.length < 17592186044416 then (Qa2.l0 k2 a0 l2 (wrap64 (a0 + a1)) (x11_2 ++ [bt907.1]) l2 (l2.length : Int) ji18) else (none)) else (some (0, bt907.2)))) = some (r1, r2) := by first | (rw [hji22] at H; exact H) | (simp only [hji22] at H ⊢; exact H)
           have hji22_ : (if (wrap64 ((ji20) - (ji21))) < 0 then 0 else (wrap64 ((ji20) - (ji21)))) = ji22 := hji22
           replace H := Option.bind_eq_some_iff.mp H
           obtain ⟨⟨t907, t908⟩, A230, H⟩ := H
           replace H : (if t908 = 0 then (if x11_2.length < 17592186044416 then (Qa2.l0 k2 a0 l2 (wrap64 (a0 + a1)) (x11_2 ++ [t907]) l2 (l2.length : Int) ji18) else (none)) else (some (0, t908))) = some (r1, r2) := H
           have A23 := Aside0.mk A230
           clear A230
           have p906 : 0 ≤ ((ji18) : Int) := Ze
           have q906 : (ji18) < (l2.length : Int) := Ze
           obtain ⟨ad906, e906, hx906_0, hx906_1⟩ := Qc9 HR2.out (ji18) p906 q906
           obtain rfl : ad904 = ad906 := (by injection e906)
           have hn906_0 : ad904.block ≠ gb905 := Nat.ne_of_lt (Nat.lt_of_lt_of_le (by have := World.block_lt_of_cell? _ _ hx906_0; first | rwa [QbT] at this | exact this) GW905.out)
           have hn906_1 : ad904.block ≠ gb905 := Nat.ne_of_lt (Nat.lt_of_lt_of_le (by have := World.block_lt_of_cell? _ _ hx906_0; first | rwa [QbT] at this | exact this) GW905.out)
           replace hx906_0 := Zx HB.out hx906_0
           replace hx906_1 := Zx HB.out hx906_1
           replace hx906_0 := Zw hn906_0 0 (.int .i64 ((QaR l2 x35_2).f0)) hx906_0
           replace hx906_1 := Zw hn906_0 0 (.int .i64 ((QaR l2 x35_2).f0)) hx906_1
           replace hx906_0 := Zw hn906_1 1 (.int .i64 ((QaR l2 x35_2).f1)) hx906_0
           replace hx906_1 := Zw hn906_1 1 (.int .i64 ((QaR l2 x35_2).f1)) hx906_1
           clear hn906_0
           clear hn906_1
           replace p906 := eq_true p906
           replace q906 := eq_true q906
           obtain ⟨hcz24_0, hfz24_0⟩ := Zy (v := (.int .i64 0)) BK905.out 0
           obtain ⟨hcz24_1, hfz24_1⟩ := Zy (v := (.int .i64 0)) BK905.out 1
           go_upto_if 68 with (first | (go_at_call 177; (with_reducible refine (Qbi.calls k2 ((QaR l2 x35_2).f0) ((QaR l2 x35_2).f1) ji22 t907 t908 _ A23.out).mono ?_); rintro e w25 ⟨rfl, hb⟩; replace HO_11 := Aside0.mk (Kd.R_below (by (with_reducible repeat (first | apply Kd.R_alloc | apply Kd.R_drewN | apply Kd.R_drew)); exact (Kd.R_mono (Zf gb905 1 (Zf gb905 0 (Kd.R_types HO_11.out BK905.out (by decide)) (.int .i64 ((QaR l2 x35_2).f0))) (.int .i64 ((QaR l2 x35_2).f1))) (fun _ h_ => h_.1))) hb); replace BK905 := Aside0.mk (Zpi #[.int .i64 ((QaR l2 x35_2).f0), .int .i64 ((QaR l2 x35_2).f1)] BK905.out hb); replace HB := Aside0.mk (Qap (Zc1 GE905.out) hb); (try clear hb); (try clear hb2); (try clear hk); (try clear hi)))
           (try simp only [Act.put, Zj, Zk, Zm])
           by_cases c26 : t908 = 0
           ·rw [if_pos c26] at H
            have c26b0 : (t908 == 0) = T := beq_iff_eq.mpr c26
            have c26b1 : (t908 != 0) = F := bne_eq_false_iff_eq.mpr c26
            clear c26
            (try simp only [c26b0, c26b1])
            by_cases c27 : x11_2.length < 17592186044416
            ·rw [if_pos c27] at H
             have LMc27 := Aside0.mk c27
             clear c27
             obtain ⟨y909, hy909⟩ : ∃ y_ : List Int, y_ = (x11_2 ++ [t907]) := ⟨_, rfl⟩
             replace H : (Qa2.l0 k2 a0 l2 (wrap64 (a0 + a1)) y909 l2 (l2.length : Int) ji18) = some (r1, r2) := by first | (rw [hy909]; with_reducible exact H) | (have H2_ := (Option.bind_some _ _).symm.trans H; rw [hy909]; with_reducible exact H2_) | (have H2_ := (Option.bind_some _ _).symm.trans H; with_reducible exact H2_) | with_reducible exact H | (rw [hy909]; exact H) | exact H
             have Ny909 := Aside0.mk hy909
             clear hy909
             have H' := Aside0.mk H
             clear H
             go_wp2_with (first | ((with_reducible refine QbK (b := .append) (xs := #[.tmp 70, .tmp 72]) rfl ?_); at_builtin; refine Kd.R_append (Kd.int .i64) (w0 := w) w.heap.size rfl (.tmp 70) (.tmp 72) 32 3 (.int .i64 0) 8 rfl Try.underlying32 info3 rfl (by decide) (by omega) u11 x11_2 t907 [.int .i64 t907] (fun _ => True) (fun _ => False) rfl rfl ?aP (fun _ hk => hk.elim) ?aF ?aO ?aB ?aS ?aL ?_; (case aP => exact rfl); (case aB => exact (Zc1 GE905.out)); (case aF => exact (fun _ _ => trivial)); (case aO => exact (Zr HO_11.out)); (case aS => exact (Qar (Zc1 GE905.out))); (case aL => have := LMc27.out; omega); intro v910 w28 ho hb hg hat; rw [← Ny909.out] at ho; have HO911 := Aside0.mk (ho); replace BK905 := Aside0.mk (Qa7 (g := gb905) (o := .cells #[.int .i64 ((QaR l2 x35_2).f0), .int .i64 ((QaR l2 x35_2).f1)] 213 (0, 0)) (Zu BK905.out) hg (Kd.R_ne HO_11.out BK905.out (by decide))); replace HB := Aside0.mk (hb); clear HO_11; clear ho hb hg hat))
             go_roundg k2
             case measure => have := HJ6.out; have := HK2.out; omega
             case rel => exact ⟨(y909), (ji18), (by first | rfl | (simp; done) | (simp only [← hji18] <;> (first | rfl | simp)) | (simp [*]; done)), H', ⟨by have := HJ6.out; have := HK2.out; omega⟩, ⟨Zr HO911.out⟩, ⟨Zc1 GE905.out⟩⟩
            rw [if_neg c27] at H
            exact absurd H (by simp)
           rw [if_neg c26] at H
           have c26b0 : (t908 == 0) = F := beq_eq_false_iff_ne.mpr c26
           have c26b1 : (t908 != 0) = T := bne_iff_ne.mpr c26
           (try simp only [c26b0, c26b1])
           simp only [Option.some.injEq, Prod.mk.injEq] at H
           obtain ⟨rfl, rfl⟩ := H
           go_wp2
           go_ret2
           exact ⟨by first | rfl | (simp [Qak, Qal] <;> rfl) | (simp only [← hji18, ← hji20, ← hji21, ← hji22]; first | rfl | (simp [Qak, Qal] <;> rfl)) | (simp [*, Qak, Qal] <;> rfl), Zc1 GE905.out⟩
          rw [if_neg c19] at H
          exact absurd H (by simp)
         rw [if_neg c17] at H
         have c17b0 : decide ((wrap64 (x35_2 + 1)) < (l2.length : Int)) = F := decide_eq_false c17
         clear c17
         (try simp only [c17b0])
         obtain ⟨ji29, hji29⟩ : ∃ j_ : Int, (mx ((QaR l2 x35_2).f0) a0) = j_ := ⟨_, rfl⟩
         replace H : ((Qbi.f k2 ((QaR l2 x35_2).f0) ((QaR l2 x35_2).f1) (mx (wrap64 ((wrap64 (a0 + a1)) - (ji29))) 0)).bind fun bt912 => (if bt912.2 = 0 then (if x11_2.length < 17592186044416 then (Qa2.l0 k2 a0 l2 (wrap64 (a0 + a1)) (x11_2 ++ [bt912.1]) l2 (l2.length : Int) (wrap64 (x35_2 + 1))) else (none)) else (some (0, bt912.2)))) = some (r1, r2) := by first | (rw [hji29] at H; exact H) | (simp only [hji29] at H ⊢; exact H)
         have hji29_ : (if ((QaR l2 x35_2).f0) < a0 then a0 else ((QaR l2 x35_2).f0)) = ji29 := hji29
         obtain ⟨ji30, hji30⟩ : ∃ j_ : Int, (mx (wrap64 ((wrap64 (a0 + a1)) - (ji29))) 0) = j_ := ⟨_, rfl⟩
         replace H : ((Qbi.f k2 ((QaR l2 x35_2).f0) ((QaR l2 x35_2).f1) (ji30)).bind fun bt912 => (if bt912.2 = 0 then (if x11_2.length < 17592186044416 then (Qa2.l0 k2 a0 l2 (wrap64 (a0 + a1)) (x11_2 ++ [bt912.1]) l2 (l2.length : Int) (wrap64 (x35_2 + 1))) else (none)) else (some (0, bt912.2)))) = some (r1, r2) := by first | (rw [hji30] at H; exact H) | (simp only [hji30] at H ⊢; exact H)
         have hji30_ : (if (wrap64 ((wrap64 (a0 + a1)) - (ji29))) < 0 then 0 else (wrap64 ((wrap64 (a0 + a1)) - (ji29)))) = ji30 := hji30
         replace H := Option.bind_eq_some_iff.mp H
         obtain ⟨⟨t912, t913⟩, A310, H⟩ := H
         replace H : (if t913 = 0 then (if x11_2.length < 17592186044416 then (Qa2.l0 k2 a0 l2 (wrap64 (a0 + a1)) (x11_2 ++ [t912]) l2 (l2.length : Int) (wrap64 (x35_2 + 1))) else (none)) else (some (0, t913))) = some (r1, r2) := H
         have A31 := Aside0.mk A310
         clear A310
         obtain ⟨hcz32_0, hfz32_0⟩ := Zy (v := (.int .i64 0)) BK905.out 0
         obtain ⟨hcz32_1, hfz32_1⟩ := Zy (v := (.int .i64 0)) BK905.out 1
         go_upto_if 68 with (first | (go_at_call 177; (with_reducible refine (Qbi.calls k2 ((QaR l2 x35_2).f0) ((QaR l2 x35_2).f1) ji30 t912 t913 _ A31.out).mono ?_); rintro e w33 ⟨rfl, hb⟩; replace HO_11 := Aside0.mk (Kd.R_below (by (with_reducible repeat (first | apply Kd.R_alloc | apply Kd.R_drewN | apply Kd.R_drew)); exact (Kd.R_mono (Zf gb905 1 (Zf gb905 0 (Kd.R_types HO_11.out BK905.out (by decide)) (.int .i64 ((QaR l2 x35_2).f0))) (.int .i64 ((QaR l2 x35_2).f1))) (fun _ h_ => h_.1))) hb); replace BK905 := Aside0.mk (Zpi #[.int .i64 ((QaR l2 x35_2).f0), .int .i64 ((QaR l2 x35_2).f1)] BK905.out hb); replace HB := Aside0.mk (Qap (Zc1 GE905.out) hb); (try clear hb); (try clear hb2); (try clear hk); (try clear hi)))
         (try simp only [Act.put, Zj, Zk, Zm])
         by_cases c34 : t913 = 0
         ·rw [if_pos c34] at H
          have c34b0 : (t913 == 0) = T := beq_iff_eq.mpr c34
          have c34b1 : (t913 != 0) = F := bne_eq_false_iff_eq.mpr c34
          clear c34
          (try simp only [c34b0, c34b1])
          by_cases c35 : x11_2.length < 17592186044416
          ·rw [if_pos c35] at H
           have LMc35 := Aside0.mk c35
           clear c35
           obtain ⟨y914, hy914⟩ : ∃ y_ : List Int, y_ = (x11_2 ++ [t912]) := ⟨_, rfl⟩
           replace H : (Qa2.l0 k2 a0 l2 (wrap64 (a0 + a1)) y914 l2 (l2.length : Int) (wrap64 (x35_2 + 1))) = some (r1, r2) := by first | (rw [hy914]; with_reducible exact H) | (have H2_ := (Option.bind_some _ _).symm.trans H; rw [hy914]; with_reducible exact H2_) | (have H2_ := (Option.bind_some _ _).symm.trans H; with_reducible exact H2_) | with_reducible exact H | (rw [hy914]; exact H) | exact H
           have Ny914 := Aside0.mk hy914
           clear hy914
           have H' := Aside0.mk H
           clear H
           go_wp2_with (first | ((with_reducible refine QbK (b := .append) (xs := #[.tmp 70, .tmp 72]) rfl ?_); at_builtin; refine Kd.R_append (Kd.int .i64) (w0 := w) w.heap.size rfl (.tmp 70) (.tmp 72) 32 3 (.int .i64 0) 8 rfl Try.underlying32 info3 rfl (by decide) (by omega) u11 x11_2 t912 [.int .i64 t912] (fun _ => True) (fun _ => False) rfl rfl ?aP (fun _ hk => hk.elim) ?aF ?aO ?aB ?aS ?aL ?_; (case aP => exact rfl); (case aB => exact (Zc1 GE905.out)); (case aF => exact (fun _ _ => trivial)); (case aO => exact (Zr HO_11.out)); (case aS => exact (Qar (Zc1 GE905.out))); (case aL => have := LMc35.out; omega); intro v915 w36 ho hb hg hat; rw [← Ny914.out] at ho; have HO916 := Aside0.mk (ho); replace BK905 := Aside0.mk (Qa7 (g := gb905) (o := .cells #[.int .i64 ((QaR l2 x35_2).f0), .int .i64 ((QaR l2 x35_2).f1)] 213 (0, 0)) (Zu BK905.out) hg (Kd.R_ne HO_11.out BK905.out (by decide))); replace HB := Aside0.mk (hb); clear HO_11; clear ho hb hg hat))
           go_roundg k2
           case measure => have := HJ6.out; have := HK2.out; omega
           case rel => exact ⟨(y914), (wrap64 (x35_2 + 1)), (Zs), H', ⟨by have := HJ6.out; have := HK2.out; omega⟩, ⟨Zr HO916.out⟩, ⟨Zc1 GE905.out⟩⟩
          rw [if_neg c35] at H
          exact absurd H (by simp)
         rw [if_neg c34] at H
         have c34b0 : (t913 == 0) = F := beq_eq_false_iff_ne.mpr c34
         have c34b1 : (t913 != 0) = T := bne_iff_ne.mpr c34
         (try simp only [c34b0, c34b1])
         simp only [Option.some.injEq, Prod.mk.injEq] at H
         obtain ⟨rfl, rfl⟩ := H
         go_wp2
         go_ret2
         exact ⟨by first | rfl | (simp [Qak, Qal] <;> rfl) | (simp only [← hji29, ← hji30]; first | rfl | (simp [Qak, Qal] <;> rfl)) | (simp [*, Qak, Qal] <;> rfl), Zc1 GE905.out⟩
        rw [if_neg c14] at H
        exact absurd H (by simp)
       rw [if_neg c13] at H
       exact absurd H (by simp)
      rw [if_neg c12] at H
      have c12b0 : decide (x35_2 < (l2.length : Int)) = F := decide_eq_false c12
      clear c12
      (try simp only [c12b0])
      replace H := Option.bind_eq_some_iff.mp H
      obtain ⟨⟨t902, t903⟩, A370, H⟩ := H
      replace H : (some (t902, t903)) = some (r1, r2) := H
      have A37 := Aside0.mk A370
      clear A370
      simp only [Option.some.injEq, Prod.mk.injEq] at H
      obtain ⟨rfl, rfl⟩ := H
      obtain ⟨Ao38, co38, eo38⟩ := Kd.R_slice HO_11.out
      subst eo38
      go_wp2_with (first | ((with_reducible refine Qay (f := 56) rfl ?_); refine goesL_ (some 76) rfl rfl Try.func56 (by kernel_rfl) rfl #[.slice Ao38 x11_2.length co38] rfl (Zl) ?_; (with_reducible refine (Qa1.calls k2 _ _ x11_2 t902 t903 _ ?side1 ?side2 A37.out).mono ?_); (case side1 => exact Zv (Kd.R_reads' HO_11.out).2.2); (case side2 => exact (Kd.R_reads' HO_11.out).2.1); rintro e w' ⟨rfl, ⟨nd, rfl⟩⟩; refine ⟨_, rfl, ?_⟩))
      go_ret2
      exact ⟨Zq, Zb⟩
 rw [if_neg c6] at H
 have c6b0 : (t899 == 0) = F := beq_eq_false_iff_ne.mpr c6
 have c6b1 : (t899 != 0) = T := bne_iff_ne.mpr c6
 (try simp only [c6b0, c6b1])
 simp only [Option.some.injEq, Prod.mk.injEq] at H
 obtain ⟨rfl, rfl⟩ := H
 go_wp2
 go_ret2
 exact ⟨Zq, Zb⟩
def QaF.f (k : Nat)  : Option (Bool) := (Qbh.f k ([] : List (S226)) (⟨#[97]⟩ : ByteArray) (⟨#[120]⟩ : ByteArray) 100 9).bind fun bt918 => ((Qbs.f k bt918.1 (⟨#[97]⟩ : ByteArray) (⟨#[120]⟩ : ByteArray) 130).bind fun bt923 => ((Qbc.f k bt923.1).bind fun bt928 => ((Qa2.f k 4 3 (([(⟨0, 10⟩ : S213), (⟨5, 7⟩ : S213)] : List (S213)))).bind fun bt935 => (if bt918.2.1 = 1 then (if bt918.2.2 = 0 then (if bt923.2.1 = 30 then (if bt923.2.2 = 0 then (if (bt928.1.length : Int) = 0 then (if bt928.2 = 0 then (if bt935.1 = 24 then (some (bt935.2 == 0)) else (some F)) else (some F)) else (some F)) else (some F)) else (some F)) else (some F)) else (some F)))))
theorem QaF.mono : ∀ k, LeO (QaF.f k ) (QaF.f (k + 1) ) := by
 intro  k
 unfold QaF.f
 exact ZM4 Qbc.mono Qbh.mono Qbs.mono Qa2.mono
set_option maxHeartbeats 8000000 in
theorem QaF.calls (k : Nat)  (r : Bool) (w : World) (h : QaF.f k  = some r) :
  Calls Try.prog 39 #[] w fun e w' => e = .returned (.bool r) ∧ Below w.heap.size w w' := by
 have hu81 := Try.underlying81
 have hu213 := Try.underlying213
 have HB := Aside0.mk (Below.refl w.heap.size w)
 have H : ((Qbh.f k ([] : List (S226)) (⟨#[97]⟩ : ByteArray) (⟨#[120]⟩ : ByteArray) 100 9).bind fun bt918 => ((Qbs.f k bt918.1 (⟨#[97]⟩ : ByteArray) (⟨#[120]⟩ : ByteArray) 130).bind fun bt923 => ((Qbc.f k bt923.1).bind fun bt928 => ((Qa2.f k 4 3 (([(⟨0, 10⟩ : S213), (⟨5, 7⟩ : S213)] : List (S213)))).bind fun bt935 => (if bt918.2.1 = 1 then (if bt918.2.2 = 0 then (if bt923.2.1 = 30 then (if bt923.2.2 = 0 then (if (bt928.1.length : Int) = 0 then (if bt928.2 = 0 then (if bt935.1 = 24 then (some (bt935.2 == 0)) else (some F)) else (some F)) else (some F)) else (some F)) else (some F)) else (some F)) else (some F)))))) = some r := h
 clear h
 replace H := Option.bind_eq_some_iff.mp H
 obtain ⟨⟨t918, t921, t922⟩, A10, H⟩ := H
 replace H : ((Qbs.f k t918 (⟨#[97]⟩ : ByteArray) (⟨#[120]⟩ : ByteArray) 130).bind fun bt923 => ((Qbc.f k bt923.1).bind fun bt928 => ((Qa2.f k 4 3 (([(⟨0, 10⟩ : S213), (⟨5, 7⟩ : S213)] : List (S213)))).bind fun bt935 => (if t921 = 1 then (if t922 = 0 then (if bt923.2.1 = 30 then (if bt923.2.2 = 0 then (if (bt928.1.length : Int) = 0 then (if bt928.2 = 0 then (if bt935.1 = 24 then (some (bt935.2 == 0)) else (some F)) else (some F)) else (some F)) else (some F)) else (some F)) else (some F)) else (some F))))) = some r := H
 have A1 := Aside0.mk A10
 clear A10
 replace H := Option.bind_eq_some_iff.mp H
 obtain ⟨⟨t923, t926, t927⟩, A20, H⟩ := H
 replace H : ((Qbc.f k t923).bind fun bt928 => ((Qa2.f k 4 3 (([(⟨0, 10⟩ : S213), (⟨5, 7⟩ : S213)] : List (S213)))).bind fun bt935 => (if t921 = 1 then (if t922 = 0 then (if t926 = 30 then (if t927 = 0 then (if (bt928.1.length : Int) = 0 then (if bt928.2 = 0 then (if bt935.1 = 24 then (some (bt935.2 == 0)) else (some F)) else (some F)) else (some F)) else (some F)) else (some F)) else (some F)) else (some F)))) = some r := H
 have A2 := Aside0.mk A20
 clear A20
 replace H := Option.bind_eq_some_iff.mp H
 obtain ⟨⟨t928, t929⟩, A30, H⟩ := H
 replace H : ((Qa2.f k 4 3 (([(⟨0, 10⟩ : S213), (⟨5, 7⟩ : S213)] : List (S213)))).bind fun bt935 => (if t921 = 1 then (if t922 = 0 then (if t926 = 30 then (if t927 = 0 then (if (t928.length : Int) = 0 then (if t929 = 0 then (if bt935.1 = 24 then (some (bt935.2 == 0)) else (some F)) else (some F)) else (some F)) else (some F)) else (some F)) else (some F)) else (some F))) = some r := H
 have A3 := Aside0.mk A30
 clear A30
 obtain ⟨y932, hy932⟩ : ∃ y_ : List (S213), y_ = (([(⟨0, 10⟩ : S213), (⟨5, 7⟩ : S213)] : List (S213))) := ⟨_, rfl⟩
 replace H : ((Qa2.f k 4 3 y932).bind fun bt935 => (if t921 = 1 then (if t922 = 0 then (if t926 = 30 then (if t927 = 0 then (if (t928.length : Int) = 0 then (if t929 = 0 then (if bt935.1 = 24 then (some (bt935.2 == 0)) else (some F)) else (some F)) else (some F)) else (some F)) else (some F)) else (some F)) else (some F))) = some r := by first | (rw [hy932]; with_reducible exact H) | (have H2_ := (Option.bind_some _ _).symm.trans H; rw [hy932]; with_reducible exact H2_) | (have H2_ := (Option.bind_some _ _).symm.trans H; with_reducible exact H2_) | with_reducible exact H | (rw [hy932]; exact H) | exact H
 have Ny932 := Aside0.mk hy932
 clear hy932
 replace H := Option.bind_eq_some_iff.mp H
 obtain ⟨⟨t935, t936⟩, A40, H⟩ := H
 replace H : (if t921 = 1 then (if t922 = 0 then (if t926 = 30 then (if t927 = 0 then (if (t928.length : Int) = 0 then (if t929 = 0 then (if t935 = 24 then (some (t936 == 0)) else (some F)) else (some F)) else (some F)) else (some F)) else (some F)) else (some F)) else (some F)) = some r := H
 have A4 := Aside0.mk A40
 clear A40
 go_enter Try.func39, Try.ntmps39
 go_upto_region 6 with (first | ((with_reducible refine QaT (N := 1) rfl ?_); (try (refine QbN (by rfl) ?_; dsimp only)); refine Zbx (N := 1) (cs := #[.string (⟨#[]⟩ : ByteArray), .string (⟨#[]⟩ : ByteArray)]) (t := 81) ?_; intro gb917 hg w5 hbox hb; have BK917 := Aside0.mk (hbox); have GW917 := Aside0.mk (Zt w hg (Zb)); have GE917 := GW917; replace HB := Aside0.mk (Qap (Zb) hb); clear hb hbox hg; obtain ⟨hcz6_0, hfz6_0⟩ := Zy (v := (.string (⟨#[]⟩ : ByteArray))) BK917.out 0; obtain ⟨hcz6_1, hfz6_1⟩ := Zy (v := (.string (⟨#[]⟩ : ByteArray))) BK917.out 1) | ((with_reducible refine Qay (f := 43) rfl ?_); refine goesL_ (some 15) rfl rfl Try.func43 (by kernel_rfl) rfl #[.slice none 0 0, .agg #[.string (⟨#[97]⟩ : ByteArray), .string (⟨#[120]⟩ : ByteArray)], .int .i64 100, .int .i64 9] rfl (Zl) ?_; (refine (Qbh.calls k _ _ ([] : List (S226)) (⟨#[97]⟩ : ByteArray) (⟨#[120]⟩ : ByteArray) 100 9 t918 t921 t922 _ ?side1 ?side2 A1.out).mono ?_); (case side1 => exact Kd.C_nil _ _); (case side2 => exact Nat.le_refl _); rintro e w7 ⟨v919, rfl, ho0, hb⟩; refine ⟨_, rfl, ?_⟩; have HO920 := Aside0.mk (Kd.R_lower ho0 (Qar (Zc1 GE917.out))); replace BK917 := Aside0.mk (Zpi #[.string (⟨#[97]⟩ : ByteArray), .string (⟨#[120]⟩ : ByteArray)] BK917.out hb); replace HB := Aside0.mk (Qap (Zc1 GE917.out) hb); (try clear hb); (try clear hb2); (try clear hk); (try clear hi); (try clear ho0); obtain ⟨hcz8_0, hfz8_0⟩ := Zy (v := (.string (⟨#[97]⟩ : ByteArray))) BK917.out 0; obtain ⟨hcz8_1, hfz8_1⟩ := Zy (v := (.string (⟨#[120]⟩ : ByteArray))) BK917.out 1; obtain ⟨Ao9, co9, eo9⟩ := Kd.R_slice HO920.out; subst eo9) | ((with_reducible refine Qay (f := 45) rfl ?_); refine goesL_ (some 22) rfl rfl Try.func45 (by kernel_rfl) rfl #[.slice Ao9 t918.length co9, .agg #[.string (⟨#[97]⟩ : ByteArray), .string (⟨#[120]⟩ : ByteArray)], .int .i64 130] rfl (Zl) ?_; (with_reducible refine (Qbs.calls k _ _ t918 (⟨#[97]⟩ : ByteArray) (⟨#[120]⟩ : ByteArray) 130 t923 t926 t927 _ ?side1 ?side2 A2.out).mono ?_); (case side1 => exact Zv (Kd.R_reads' HO920.out).2.2); (case side2 => exact (Kd.R_reads' HO920.out).2.1); rintro e w10 ⟨v924, rfl, ho0, hb⟩; refine ⟨_, rfl, ?_⟩; have HO925 := Aside0.mk (Kd.R_lower (Kd.R_new' ho0 (Kd.R_lt (Zr HO920.out))) (Qar (Zc1 GE917.out))); replace HO920 := Aside0.mk (Kd.R_elder' (Zr HO920.out) (Kd.R_base ho0) hb); replace BK917 := Aside0.mk (Zi BK917.out hb); replace HB := Aside0.mk (Qap (Zc1 GE917.out) hb); (try clear hb); (try clear hb2); (try clear hk); (try clear hi); (try clear ho0); obtain ⟨Ao11, co11, eo11⟩ := Kd.R_slice HO925.out; subst eo11) | ((with_reducible refine Qay (f := 48) rfl ?_); refine goesL_ (some 28) rfl rfl Try.func48 (by kernel_rfl) rfl #[.slice Ao11 t923.length co11] rfl (Zl) ?_; (with_reducible refine (Qbc.calls k _ _ t923 t928 t929 _ ?side1 ?side2 A3.out).mono ?_); (case side1 => exact Zv (Kd.R_reads' HO925.out).2.2); (case side2 => exact (Kd.R_reads' HO925.out).2.1); rintro e w12 ⟨v930, rfl, ho0, hb⟩; refine ⟨_, rfl, ?_⟩; have HO931 := Aside0.mk (Kd.R_lower (Kd.R_new' (Kd.R_new' ho0 (Kd.R_lt (Zr HO920.out))) (Kd.R_lt (Zr HO925.out))) (Qar (Zc1 GE917.out))); replace HO920 := Aside0.mk (Kd.R_elder' (Zr HO920.out) (Kd.R_base ho0) hb); replace HO925 := Aside0.mk (Kd.R_elder' (Zr HO925.out) (Kd.R_base ho0) hb); replace BK917 := Aside0.mk (Zi BK917.out hb); replace HB := Aside0.mk (Qap (Zc1 GE917.out) hb); (try clear hb); (try clear hb2); (try clear hk); (try clear hi); (try clear ho0)) | ((with_reducible refine QaT (N := 34) rfl ?_); (try (refine QbN (by rfl) ?_; dsimp only)); refine Kd.R_lit k213 _ 213 ?hg (N := 34) ?hd (xs := ([(⟨0, 10⟩ : S213), (⟨5, 7⟩ : S213)] : List (S213))) (inner := [.int .i64 0, .int .i64 10, .int .i64 5, .int .i64 7]) (ok := fun _ => True) (okp := fun _ => True) ?hr ?hp (fun _ hk => hk) trivial (Below.refl _ _) (Nat.le_refl _) (by simp) ?_; (case hd => rfl); (case hg => rfl); (case hr => first | (go_simp; done) | (go_simp; rfl)); (case hp => exact (Reps.c2 (show Kd.M k213 _ _ _ (⟨0, 10⟩ : S213) [.int .i64 0, .int .i64 10] from (Qec _ _ _ (⟨0, 10⟩ : S213) )) (Reps.c2 (show Kd.M k213 _ _ _ (⟨5, 7⟩ : S213) [.int .i64 5, .int .i64 7] from (Qec _ _ _ (⟨5, 7⟩ : S213) )) (Reps.none _ _)))); intro v933 w13 ho14 hb hg_ hnew_; clear hg_ hnew_; (first | rw [← Ny932.out] at ho14 | (simp only [Int.reduceToNat] at ho14; rw [← Ny932.out] at ho14)); have HO934 := Aside0.mk (Kd.R_lower ho14 (Qar (Zc1 GE917.out))); replace HO920 := Aside0.mk (Kd.R_below (Zr HO920.out) hb); replace HO925 := Aside0.mk (Kd.R_below (Zr HO925.out) hb); replace HO931 := Aside0.mk (Kd.R_below (Zr HO931.out) hb); replace BK917 := Aside0.mk (Zi BK917.out hb); replace HB := Aside0.mk (Qap (Zc1 GE917.out) hb); clear hb ho14; obtain ⟨Ao15, co15, eo15⟩ := Kd.R_slice HO934.out; subst eo15) | ((with_reducible refine Qay (f := 107) rfl ?_); refine goesL_ (some 35) rfl rfl Try.func107 (by kernel_rfl) rfl #[.int .i64 4, .int .i64 3, .slice Ao15 y932.length co15] rfl (Zl) ?_; (with_reducible refine (Qa2.calls k 4 3 _ _ y932 t935 t936 _ ?side1 ?side2 A4.out).mono ?_); (case side1 => exact Zv (Kd.R_reads' HO934.out).2.2); (case side2 => exact (Kd.R_reads' HO934.out).2.1); rintro e w16 ⟨rfl, hb⟩; refine ⟨_, rfl, ?_⟩; replace HO920 := Aside0.mk (Kd.R_below (Zr HO920.out) hb); replace HO925 := Aside0.mk (Kd.R_below (Zr HO925.out) hb); replace HO931 := Aside0.mk (Kd.R_below (Zr HO931.out) hb); replace HO934 := Aside0.mk (Kd.R_below (Zr HO934.out) hb); replace BK917 := Aside0.mk (Zi BK917.out hb); replace HB := Aside0.mk (Qap (Zc1 GE917.out) hb); (try clear hb); (try clear hb2); (try clear hk); (try clear hi)))
 (try simp only [Act.put, Zj, Zk, Zm])
 by_cases c17 : t921 = 1
 ·rw [if_pos c17] at H
  have c17b0 : (t921 == 1) = T := beq_iff_eq.mpr c17
  have c17b1 : (t921 != 1) = F := bne_eq_false_iff_eq.mpr c17
  clear c17
  (try simp only [c17b0, c17b1])
  by_cases c18 : t922 = 0
  ·rw [if_pos c18] at H
   have c18b0 : (t922 == 0) = T := beq_iff_eq.mpr c18
   have c18b1 : (t922 != 0) = F := bne_eq_false_iff_eq.mpr c18
   clear c18
   by_cases c19 : t926 = 30
   ·rw [if_pos c19] at H
    have c19b0 : (t926 == 30) = T := beq_iff_eq.mpr c19
    have c19b1 : (t926 != 30) = F := bne_eq_false_iff_eq.mpr c19
    clear c19
    by_cases c20 : t927 = 0
    ·rw [if_pos c20] at H
     have c20b0 : (t927 == 0) = T := beq_iff_eq.mpr c20
     have c20b1 : (t927 != 0) = F := bne_eq_false_iff_eq.mpr c20
     clear c20
     by_cases c21 : (t928.length : Int) = 0
     ·rw [if_pos c21] at H
      have c21b0 : ((t928.length : Int) == 0) = T := beq_iff_eq.mpr c21
      have c21b1 : ((t928.length : Int) != 0) = F := bne_eq_false_iff_eq.mpr c21
      clear c21
      by_cases c22 : t929 = 0
      ·rw [if_pos c22] at H
       have c22b0 : (t929 == 0) = T := beq_iff_eq.mpr c22
       have c22b1 : (t929 != 0) = F := bne_eq_false_iff_eq.mpr c22
       clear c22
       by_cases c23 : t935 = 24
       ·rw [if_pos c23] at H
        have c23b0 : (t935 == 24) = T := beq_iff_eq.mpr c23
        have c23b1 : (t935 != 24) = F := bne_eq_false_iff_eq.mpr c23
        clear c23
        obtain rfl := Option.some.inj H
        obtain ⟨Ao24, co24, eo24⟩ := Kd.R_slice HO931.out
        subst eo24
        go_wp2
        go_ret
        exact ⟨Zq, Zc1 GE917.out⟩
       rw [if_neg c23] at H
       have c23b0 : (t935 == 24) = F := beq_eq_false_iff_ne.mpr c23
       have c23b1 : (t935 != 24) = T := bne_iff_ne.mpr c23
       obtain rfl := Option.some.inj H
       obtain ⟨Ao25, co25, eo25⟩ := Kd.R_slice HO931.out
       subst eo25
       go_wp2
       go_ret
       exact ⟨Zq, Zc1 GE917.out⟩
      rw [if_neg c22] at H
      have c22b0 : (t929 == 0) = F := beq_eq_false_iff_ne.mpr c22
      have c22b1 : (t929 != 0) = T := bne_iff_ne.mpr c22
      obtain rfl := Option.some.inj H
      obtain ⟨Ao26, co26, eo26⟩ := Kd.R_slice HO931.out
      subst eo26
      go_wp2
      go_ret
      exact ⟨Zq, Zc1 GE917.out⟩
     rw [if_neg c21] at H
     have c21b0 : ((t928.length : Int) == 0) = F := beq_eq_false_iff_ne.mpr c21
     have c21b1 : ((t928.length : Int) != 0) = T := bne_iff_ne.mpr c21
     have c21b2 : ¬ (t928 = []) := fun h_ => c21 (by rw [h_]; rfl)
     obtain rfl := Option.some.inj H
     obtain ⟨Ao27, co27, eo27⟩ := Kd.R_slice HO931.out
     subst eo27
     go_wp2
     go_ret
     exact ⟨Zq, Zc1 GE917.out⟩
    rw [if_neg c20] at H
    have c20b0 : (t927 == 0) = F := beq_eq_false_iff_ne.mpr c20
    have c20b1 : (t927 != 0) = T := bne_iff_ne.mpr c20
    obtain rfl := Option.some.inj H
    go_wp2
    go_ret
    exact ⟨Zq, Zc1 GE917.out⟩
   rw [if_neg c19] at H
   have c19b0 : (t926 == 30) = F := beq_eq_false_iff_ne.mpr c19
   have c19b1 : (t926 != 30) = T := bne_iff_ne.mpr c19
   obtain rfl := Option.some.inj H
   go_wp2
   go_ret
   exact ⟨Zq, Zc1 GE917.out⟩
  rw [if_neg c18] at H
  have c18b0 : (t922 == 0) = F := beq_eq_false_iff_ne.mpr c18
  have c18b1 : (t922 != 0) = T := bne_iff_ne.mpr c18
  obtain rfl := Option.some.inj H
  go_wp2
  go_ret
  exact ⟨Zq, Zc1 GE917.out⟩
 rw [if_neg c17] at H
 have c17b0 : (t921 == 1) = F := beq_eq_false_iff_ne.mpr c17
 have c17b1 : (t921 != 1) = T := bne_iff_ne.mpr c17
 (try simp only [c17b0, c17b1])
 obtain rfl := Option.some.inj H
 go_wp2
 go_ret
 exact ⟨Zq, Zc1 GE917.out⟩
def Qb4.f (s a0 : ByteArray) : Option Bool := some (decide (a0.toList = s.toList))
set_option maxHeartbeats 1000000 in
theorem Qb4.calls (D : Addr) (s : ByteArray) (a0_0 : ByteArray) (a0_1 : Int) (r : Bool) (w : World) (hd : w.cell? D = some (.string s)) (h : Qb4.f s a0_0 = some r) :
  Calls Try.prog 219 #[.agg #[.string a0_0, .int .i64 a0_1], .pointer (some D)] w fun e w' => e = .returned (.bool r) ∧ Below w.heap.size w w' := by
 have hu87 := Try.underlying279
 have hd1 := hd
 have ld : D.block < w.heap.size := World.block_lt_of_cell? _ _ (by rw [hd])
 have H := Aside0.mk (Option.some.inj h)
 clear h
 by_cases c : a0_0.toList = s.toList
 all_goals
  go_enter Try.func219, Try.ntmps219
  go_wp2
  go_ret
  refine ⟨congrArg Ending.returned (congrArg Value.bool ?_), by repeat (first | exact Below.refl _ _ | apply Qag | apply Qaa | apply Qbg)⟩
  rw [← H.out]
  simp [c]
def Qbe.l0 : Nat → List (S279) → ByteArray → Int → Int → Option (Int)
 | 0, _, _, _, _ => none
 | k + 1, x0, s, x7, x8 => if x8 < x7 then (if 0 ≤ x8 then (if x8 < (x0.length : Int) then ((Qb4.f s ((Qa0 x0 x8).f0)).bind fun t109 => (if t109 = T then (some x8) else (Qbe.l0 k x0 s x7 (wrap64 (x8 + 1))))) else (none)) else (none)) else (some (-1))
def Qbe.f (k : Nat) (l0 : List (S279)) (s : ByteArray) : Option (Int) := Qbe.l0 k l0 s (l0.length : Int) 0
theorem Qbe.mono_l : ∀ k, (∀ y0 y1 y2 y3, LeO (Qbe.l0 k y0 y1 y2 y3) (Qbe.l0 (k + 1) y0 y1 y2 y3))
 | 0 => fun _ _ _ _ r h => by simp [Qbe.l0] at h
 | k + 1 => by
  have ih0 := Qbe.mono_l k
  intro y0 y1 y2 y3
  unfold Qbe.l0
  exact ZM1 ih0
theorem Qbe.mono : ∀ a0 a1 k, LeO (Qbe.f k a0 a1) (Qbe.f (k + 1) a0 a1) := by
 intro a0 a1 k
 have ih0 := Qbe.mono_l k
 unfold Qbe.f
 exact ZM1 ih0
set_option maxHeartbeats 8000000 in
theorem Qbe.calls (k : Nat) (D : Addr) (s : ByteArray) (A0 : Option Addr) (c0 : Nat) (l0 : List (S279)) (r : Int) (w : World) (hD : Aside0 (w.cell? D = some (.string s))) (hr0 : Kd.C k279 w A0 l0.length l0) (hc0 : l0.length ≤ c0) (h : Qbe.f k l0 s = some r) :
  Calls Try.prog 218 #[.slice A0 l0.length c0, .func (.func 219) #[] #[.pointer (some D)]] w fun e w' => e = .returned (.int .i64 r) ∧ Below w.heap.size w w' := by
 have hu87 := Try.underlying279
 have HR0 := Aside0.mk hr0
 have HC0 := Aside0.mk hc0
 clear hr0 hc0
 have HB := Aside0.mk (Below.refl w.heap.size w)
 have H : (Qbe.l0 k l0 s (l0.length : Int) 0) = some r := h
 clear h
 have H' := Aside0.mk H
 clear H
 go_enter Try.func218, Try.ntmps218
 go_wp2
 go_loopg [8] k (fun kq v8 w' => ∃ (x8_1 : Int), v8 = .int .i64 x8_1 ∧ Aside0 (Qbe.l0 kq l0 s (l0.length : Int) x8_1 = some r) ∧ Aside0 (kq ≤ k) ∧ Aside0 (Below w.heap.size w w'))
 case atStart => exact ⟨(0), (Zs), H', ⟨Nat.le_refl _⟩, ⟨Zb⟩⟩
 case round =>
  clear H'
  try clear p2
  obtain ⟨x8_1, rfl, HA, HK1, HB⟩ := hrel
  cases gk with
  | zero => exact absurd HA.out (by simp [Qbe.l0])
  | succ k1 =>
   have H := HA.out
   clear HA
   simp only [Qbe.l0] at H
   by_cases c3 : x8_1 < (l0.length : Int)
   ·rw [if_pos c3] at H
    have c3b0 : decide (x8_1 < (l0.length : Int)) = T := decide_eq_true c3
    clear c3
    by_cases c4 : 0 ≤ x8_1
    ·rw [if_pos c4] at H
     have c4b0 : decide (0 ≤ x8_1) = T := decide_eq_true c4
     clear c4
     by_cases c5 : x8_1 < (l0.length : Int)
     ·rw [if_pos c5] at H
      have c5b0 : decide (x8_1 < (l0.length : Int)) = T := decide_eq_true c5
      clear c5
      replace H := Option.bind_eq_some_iff.mp H
      obtain ⟨t109, A60, H⟩ := H
      replace H : (if t109 = T then (some x8_1) else (Qbe.l0 k1 l0 s (l0.length : Int) (wrap64 (x8_1 + 1)))) = some r := H
      have A6 := Aside0.mk A60
      clear A60
      by_cases c7 : t109 = T
      ·subst c7
       have H1 : (some x8_1) = some r := by rw [if_pos rfl] at H; exact H
       clear H
       have H := H1
       clear H1
       obtain rfl := Option.some.inj H
       have p108 : 0 ≤ (x8_1 : Int) := Ze
       have q108 : x8_1 < (l0.length : Int) := Ze
       obtain ⟨ad108, e108, hx108_0, hx108_1⟩ := Qb8 HR0.out x8_1 p108 q108
       cases e108
       replace hx108_0 := Zx HB.out hx108_0
       replace hx108_1 := Zx HB.out hx108_1
       replace p108 := eq_true p108
       replace q108 := eq_true q108
       go_wp2_with (first | (go_at_call 219; refine (Qb4.calls D s ((Qa0 l0 x8_1).f0) ((Qa0 l0 x8_1).f1) T _ ((HB.out.cell (World.block_lt_of_cell? w _ hD.out)).trans hD.out) A6.out).mono ?_; rintro e w8 ⟨rfl, hb⟩; replace HB := Aside0.mk (Qap (Zb) hb); (try clear hb); (try clear hb2); (try clear hk); (try clear hi)))
       go_ret
       exact ⟨Zq, Zb⟩
      replace c7 := Bool.eq_false_iff.mpr c7
      subst c7
      have H1 : (Qbe.l0 k1 l0 s (l0.length : Int) (wrap64 (x8_1 + 1))) = some r := by rw [if_neg (show ¬ (F = T) by decide)] at H; exact H
      clear H
      have H := H1
      clear H1
      have H' := Aside0.mk H
      clear H
      have p108 : 0 ≤ (x8_1 : Int) := Ze
      have q108 : x8_1 < (l0.length : Int) := Ze
      obtain ⟨ad108, e108, hx108_0, hx108_1⟩ := Qb8 HR0.out x8_1 p108 q108
      cases e108
      replace hx108_0 := Zx HB.out hx108_0
      replace hx108_1 := Zx HB.out hx108_1
      replace p108 := eq_true p108
      replace q108 := eq_true q108
      go_wp2_with (first | (go_at_call 219; refine (Qb4.calls D s ((Qa0 l0 x8_1).f0) ((Qa0 l0 x8_1).f1) F _ ((HB.out.cell (World.block_lt_of_cell? w _ hD.out)).trans hD.out) A6.out).mono ?_; rintro e w9 ⟨rfl, hb⟩; replace HB := Aside0.mk (Qap (Zb) hb); (try clear hb); (try clear hb2); (try clear hk); (try clear hi)))
      go_roundg k1
      case measure => have := HK1.out; omega
      case rel => exact ⟨(wrap64 (x8_1 + 1)), (Zs), H', ⟨by have := HK1.out; omega⟩, ⟨Zb⟩⟩
     rw [if_neg c5] at H
     exact absurd H (by simp)
    rw [if_neg c4] at H
    exact absurd H (by simp)
   rw [if_neg c3] at H
   have c3b0 : decide (x8_1 < (l0.length : Int)) = F := decide_eq_false c3
   clear c3
   obtain rfl := Option.some.inj H
   go_wp2
   go_ret
   exact ⟨Zq, Zb⟩
def QbF.f (k : Nat) (l0 : List S279) (a1 : ByteArray) : Option (Int × Bool) := (Qbe.f k l0 a1).bind fun t => some (mx t 0, decide (t ≥ 0))
theorem QbF.mono : ∀ a0 a1 k, LeO (QbF.f k a0 a1) (QbF.f (k + 1) a0 a1) := by
 intro a0 a1 k
 unfold QbF.f
 exact LeO.bind (Qbe.mono _ _ _) (fun _ => LeO.refl _)
set_option maxHeartbeats 8000000 in
theorem QbF.calls (k : Nat) (A0 : Option Addr) (c0 : Nat) (l0 : List S279) (a1 : ByteArray) (r1 : Int) (r2 : Bool) (w : World) (hr0 : Kd.C k279 w A0 l0.length l0) (hc0 : l0.length ≤ c0) (h : QbF.f k l0 a1 = some (r1, r2)) :
  Calls Try.prog 185 #[.slice A0 l0.length c0, .string a1] w fun e w' => e = .returned (.tuple #[.int .i64 r1, .bool r2]) ∧ Below w.heap.size w w' := by
 have HR := Aside0.mk hr0
 have HC := Aside0.mk hc0
 clear hr0 hc0
 obtain ⟨t, ht, h⟩ := Option.bind_eq_some_iff.1 h
 have HT := Aside0.mk ht
 clear ht
 simp only [Option.some.injEq, Prod.mk.injEq] at h
 obtain ⟨rfl, rfl⟩ := h
 go_enter Try.func185, Try.ntmps185
 go_wp2_with fail
 refine (Qbe.calls k ⟨w.heap.size, 0, none⟩ a1 A0 c0 l0 t _ ⟨?_⟩ (Kd.C_below HR.out ?_) HC.out HT.out).mono ?_
 ·go_simp
 ·repeat (first | exact Below.refl _ _ | apply Qag)
 rintro e w1 ⟨rfl, hb⟩
 have HB := Aside0.mk ((Qag (Below.refl w.heap.size w) (.cells #[.string a1] 9 (0, 0))).trans (hb.mono (by simp)))
 clear hb
 by_cases ht0 : t < 0
 ·go_wp2
  go_ret2
  refine ⟨?_, by repeat (first | exact HB.out | apply Qag | apply Qaa | apply Qbg)⟩
  have h1 : mx t 0 = 0 := by unfold mx; rw [if_pos ht0]
  have h2 : ¬ t ≥ 0 := by omega
  simp [h1, h2]
 have ht1 : 0 ≤ t := by omega
 have h1 : mx t 0 = t := by unfold mx; rw [if_neg ht0]
 have h2 : t ≥ 0 := by omega
 go_wp2
 go_ret2
 refine ⟨?_, by repeat (first | exact HB.out | apply Qag | apply Qaa | apply Qbg)⟩
 simp [h1, h2]
def QbB.f (k : Nat) (a0_0 : ByteArray) (a0_1 : Int) : Option (Bool) := (QaB.f k a0_0).bind fun t964 => (some (!t964))
theorem QbB.mono : ∀ a0 a1 k, LeO (QbB.f k a0 a1) (QbB.f (k + 1) a0 a1) := by
 intro a0 a1 k
 unfold QbB.f
 exact ZM1 QaB.mono
set_option maxHeartbeats 8000000 in
theorem QbB.calls (k : Nat) (a0_0 : ByteArray) (a0_1 : Int) (r : Bool) (w : World) (h : QbB.f k a0_0 a0_1 = some r) :
  Calls Try.prog 184 #[.agg #[.string a0_0, .int .i64 a0_1]] w fun e w' => e = .returned (.bool r) ∧ Below w.heap.size w w' := by
 have hu279 := Try.underlying279
 have HB := Aside0.mk (Below.refl w.heap.size w)
 have H : ((QaB.f k a0_0).bind fun t964 => (some (!t964))) = some r := h
 clear h
 replace H := Option.bind_eq_some_iff.mp H
 obtain ⟨t964, A20, H⟩ := H
 replace H : (some (!t964)) = some r := H
 have A2 := Aside0.mk A20
 clear A20
 obtain rfl := Option.some.inj H
 go_enter Try.func184, Try.ntmps184
 go_wp2_with (first | ((with_reducible refine QaT (N := 1) rfl ?_); refine Zbx (N := 1) (cs := #[.string a0_0, .int .i64 a0_1]) (t := 279) ?_; intro gb963 hg w3 hbox hb; have BK963 := Aside0.mk (hbox); have GW963 := Aside0.mk (Zt w hg (Zb)); have GE963 := GW963; replace HB := Aside0.mk (Qap (Zb) hb); clear hb hbox hg; obtain ⟨hcz4_0, hfz4_0⟩ := Zy (v := (.string a0_0)) BK963.out 0; obtain ⟨hcz4_1, hfz4_1⟩ := Zy (v := (.int .i64 a0_1)) BK963.out 1) | ((with_reducible refine Qay (f := 146) rfl ?_); refine goesL_ (some 5) rfl rfl Try.func146 (by kernel_rfl) rfl #[.string a0_0] rfl (Zl) ?_; (with_reducible refine (QaB.calls k a0_0 t964 _ A2.out).mono ?_); rintro e w' ⟨rfl, ⟨nd, rfl⟩⟩; refine ⟨_, rfl, ?_⟩))
 go_ret
 exact ⟨Zq, Zc1 GE963.out⟩
def Qat.l0 : Nat → List (S279) → Int → Int → Option (Int)
 | 0, _, _, _ => none
 | k + 1, x0, x7, x8 => if x8 < x7 then (if 0 ≤ x8 then (if x8 < (x0.length : Int) then ((QbB.f k ((Qa0 x0 x8).f0) ((Qa0 x0 x8).f1)).bind fun t966 => (if t966 = T then (some x8) else (Qat.l0 k x0 x7 (wrap64 (x8 + 1))))) else (none)) else (none)) else (some (-1))
def Qat.f (k : Nat) (l0 : List (S279))  : Option (Int) := Qat.l0 k l0 (l0.length : Int) 0
theorem Qat.mono_l : ∀ k, (∀ y0 y1 y2, LeO (Qat.l0 k y0 y1 y2) (Qat.l0 (k + 1) y0 y1 y2))
 | 0 => fun _ _ _ r h => by simp [Qat.l0] at h
 | k + 1 => by
  have ih0 := Qat.mono_l k
  intro y0 y1 y2
  unfold Qat.l0
  exact ZM2 ih0 QbB.mono
theorem Qat.mono : ∀ a0 k, LeO (Qat.f k a0) (Qat.f (k + 1) a0) := by
 intro a0 k
 have ih0 := Qat.mono_l k
 unfold Qat.f
 exact ZM2 ih0 QbB.mono
set_option maxHeartbeats 8000000 in
theorem Qat.calls (k : Nat) (A0 : Option Addr) (c0 : Nat) (l0 : List (S279))  (r : Int) (w : World) (hr0 : Kd.C k279 w A0 l0.length l0) (hc0 : l0.length ≤ c0) (h : Qat.f k l0 = some r) :
  Calls Try.prog 218 #[.slice A0 l0.length c0, .func (.func 184) #[] #[]] w fun e w' => e = .returned (.int .i64 r) ∧ Below w.heap.size w w' := by
 have hu279 := Try.underlying279
 have HR0 := Aside0.mk hr0
 have HC0 := Aside0.mk hc0
 clear hr0 hc0
 have HB := Aside0.mk (Below.refl w.heap.size w)
 have H : (Qat.l0 k l0 (l0.length : Int) 0) = some r := h
 clear h
 have H' := Aside0.mk H
 clear H
 go_enter Try.func218, Try.ntmps218
 go_wp2
 go_loopg [8] k (fun kq v8 w' => ∃ (x8_1 : Int), v8 = .int .i64 x8_1 ∧ Aside0 (Qat.l0 kq l0 (l0.length : Int) x8_1 = some r) ∧ Aside0 (kq ≤ k) ∧ Aside0 (Below w.heap.size w w'))
 case atStart => exact ⟨(0), (Zs), H', ⟨Nat.le_refl _⟩, ⟨Zb⟩⟩
 case round =>
  clear H'
  try clear p2
  obtain ⟨x8_1, rfl, HA, HK1, HB⟩ := hrel
  cases gk with
  | zero => exact absurd HA.out (by simp [Qat.l0])
  | succ k1 =>
   have H := HA.out
   clear HA
   simp only [Qat.l0] at H
   by_cases c3 : x8_1 < (l0.length : Int)
   ·rw [if_pos c3] at H
    have c3b0 : decide (x8_1 < (l0.length : Int)) = T := decide_eq_true c3
    clear c3
    (try simp only [c3b0])
    by_cases c4 : 0 ≤ x8_1
    ·rw [if_pos c4] at H
     have c4b0 : decide (0 ≤ x8_1) = T := decide_eq_true c4
     clear c4
     by_cases c5 : x8_1 < (l0.length : Int)
     ·rw [if_pos c5] at H
      have c5b0 : decide (x8_1 < (l0.length : Int)) = T := decide_eq_true c5
      clear c5
      replace H := Option.bind_eq_some_iff.mp H
      obtain ⟨t966, A60, H⟩ := H
      replace H : (if t966 = T then (some x8_1) else (Qat.l0 k1 l0 (l0.length : Int) (wrap64 (x8_1 + 1)))) = some r := H
      have A6 := Aside0.mk A60
      clear A60
      have p965 : 0 ≤ (x8_1 : Int) := Ze
      have q965 : x8_1 < (l0.length : Int) := Ze
      obtain ⟨ad965, e965, hx965_0, hx965_1⟩ := Qb8 HR0.out x8_1 p965 q965
      cases e965
      replace hx965_0 := Zx HB.out hx965_0
      replace hx965_1 := Zx HB.out hx965_1
      replace p965 := eq_true p965
      replace q965 := eq_true q965
      go_upto_if 16 with (first | (go_at_call 184; (with_reducible refine (QbB.calls k1 ((Qa0 l0 x8_1).f0) ((Qa0 l0 x8_1).f1) t966 _ A6.out).mono ?_); rintro e w7 ⟨rfl, hb⟩; replace HB := Aside0.mk (Qap (Zb) hb); (try clear hb); (try clear hb2); (try clear hk); (try clear hi)))
      (try simp only [Act.put, Zj, Zk, Zm])
      by_cases c8 : t966 = T
      ·subst c8
       have H1 : (some x8_1) = some r := by rw [if_pos rfl] at H; exact H
       clear H
       have H := H1
       clear H1
       obtain rfl := Option.some.inj H
       go_wp2
       go_ret
       exact ⟨Zq, Zb⟩
      replace c8 := Bool.eq_false_iff.mpr c8
      subst c8
      have H1 : (Qat.l0 k1 l0 (l0.length : Int) (wrap64 (x8_1 + 1))) = some r := by rw [if_neg (show ¬ (F = T) by decide)] at H; exact H
      clear H
      have H := H1
      clear H1
      have H' := Aside0.mk H
      clear H
      go_wp2
      go_roundg k1
      case measure => have := HK1.out; omega
      case rel => exact ⟨(wrap64 (x8_1 + 1)), (Zs), H', ⟨by have := HK1.out; omega⟩, ⟨Zb⟩⟩
     rw [if_neg c5] at H
     exact absurd H (by simp)
    rw [if_neg c4] at H
    exact absurd H (by simp)
   rw [if_neg c3] at H
   have c3b0 : decide (x8_1 < (l0.length : Int)) = F := decide_eq_false c3
   clear c3
   (try simp only [c3b0])
   obtain rfl := Option.some.inj H
   go_wp2
   go_ret
   exact ⟨Zq, Zb⟩
def Qaz.f (k : Nat) (l0 : List (S279))  : Option (Bool) := (Qat.f k l0).bind fun t967 => (some (decide (t967 ≥ 0)))
theorem Qaz.mono : ∀ a0 k, LeO (Qaz.f k a0) (Qaz.f (k + 1) a0) := by
 intro a0 k
 unfold Qaz.f
 exact ZM1 Qat.mono
set_option maxHeartbeats 8000000 in
theorem Qaz.calls (k : Nat) (A0 : Option Addr) (c0 : Nat) (l0 : List (S279))  (r : Bool) (w : World) (hr0 : Kd.C k279 w A0 l0.length l0) (hc0 : l0.length ≤ c0) (h : Qaz.f k l0 = some r) :
  Calls Try.prog 183 #[.slice A0 l0.length c0, .func (.func 184) #[] #[]] w fun e w' => e = .returned (.bool r) ∧ Below w.heap.size w w' := by
 have HR0 := Aside0.mk hr0
 have HC0 := Aside0.mk hc0
 clear hr0 hc0
 have HB := Aside0.mk (Below.refl w.heap.size w)
 have H : ((Qat.f k l0).bind fun t967 => (some (decide (t967 ≥ 0)))) = some r := h
 clear h
 replace H := Option.bind_eq_some_iff.mp H
 obtain ⟨t967, A30, H⟩ := H
 replace H : (some (decide (t967 ≥ 0))) = some r := H
 have A3 := Aside0.mk A30
 clear A30
 obtain rfl := Option.some.inj H
 go_enter Try.func183, Try.ntmps183
 go_wp2_with (first | ((with_reducible refine Qay (f := 218) rfl ?_); refine goesL_ (some 7) rfl rfl Try.func218 (by kernel_rfl) rfl #[.slice A0 l0.length c0, .func (.func 184) #[] #[]] rfl (Zl) ?_; (with_reducible refine (Qat.calls k _ _ l0  t967 _ ?side1 ?side2 A3.out).mono ?_); (case side1 => exact Zv HR0.out); (case side2 => exact HC0.out); rintro e w4 ⟨rfl, hb⟩; refine ⟨_, rfl, ?_⟩; replace HB := Aside0.mk (Qap (Zb) hb); (try clear hb); (try clear hb2); (try clear hk); (try clear hi)))
 go_ret
 exact ⟨Zq, Zb⟩
def Qb7.f (a0_0 : ByteArray) (a0_1 : Int) : Option (Bool) := if a0_1 < 1 then (some T) else (some (decide (a0_1 > 1000000000000)))
set_option maxHeartbeats 8000000 in
theorem Qb7.calls (a0_0 : ByteArray) (a0_1 : Int) (r : Bool) (w : World) (h : Qb7.f a0_0 a0_1 = some r) :
  Calls Try.prog 186 #[.agg #[.string a0_0, .int .i64 a0_1]] w fun e w' => e = .returned (.bool r) ∧ Below w.heap.size w w' := by
 have hu279 := Try.underlying279
 have HB := Aside0.mk (Below.refl w.heap.size w)
 have H : (if a0_1 < 1 then (some T) else (some (decide (a0_1 > 1000000000000)))) = some r := h
 clear h
 go_enter Try.func186, Try.ntmps186
 go_upto_region 1 with (first | ((with_reducible refine QaT (N := 1) rfl ?_); refine Zbx (N := 1) (cs := #[.string a0_0, .int .i64 a0_1]) (t := 279) ?_; intro gb968 hg w2 hbox hb; have BK968 := Aside0.mk (hbox); have GW968 := Aside0.mk (Zt w hg (Zb)); have GE968 := GW968; replace HB := Aside0.mk (Qap (Zb) hb); clear hb hbox hg))
 (try simp only [Act.put, Zj, Zk, Zm])
 by_cases c3 : a0_1 < 1
 ·rw [if_pos c3] at H
  have c3b0 : decide (a0_1 < 1) = T := decide_eq_true c3
  clear c3
  (try simp only [c3b0])
  obtain rfl := Option.some.inj H
  obtain ⟨hcz4_0, hfz4_0⟩ := Zy (v := (.string a0_0)) BK968.out 0
  obtain ⟨hcz4_1, hfz4_1⟩ := Zy (v := (.int .i64 a0_1)) BK968.out 1
  go_wp2
  go_ret
  exact ⟨Zq, Zc1 GE968.out⟩
 rw [if_neg c3] at H
 have c3b0 : decide (a0_1 < 1) = F := decide_eq_false c3
 clear c3
 (try simp only [c3b0])
 obtain rfl := Option.some.inj H
 obtain ⟨hcz5_0, hfz5_0⟩ := Zy (v := (.string a0_0)) BK968.out 0
 obtain ⟨hcz5_1, hfz5_1⟩ := Zy (v := (.int .i64 a0_1)) BK968.out 1
 go_wp2
 go_ret
 exact ⟨Zq, Zc1 GE968.out⟩
def Qau.l0 : Nat → List (S279) → Int → Int → Option (Int)
 | 0, _, _, _ => none
 | k + 1, x0, x7, x8 => if x8 < x7 then (if 0 ≤ x8 then (if x8 < (x0.length : Int) then ((Qb7.f ((Qa0 x0 x8).f0) ((Qa0 x0 x8).f1)).bind fun t970 => (if t970 = T then (some x8) else (Qau.l0 k x0 x7 (wrap64 (x8 + 1))))) else (none)) else (none)) else (some (-1))
def Qau.f (k : Nat) (l0 : List (S279))  : Option (Int) := Qau.l0 k l0 (l0.length : Int) 0
theorem Qau.mono_l : ∀ k, (∀ y0 y1 y2, LeO (Qau.l0 k y0 y1 y2) (Qau.l0 (k + 1) y0 y1 y2))
 | 0 => fun _ _ _ r h => by simp [Qau.l0] at h
 | k + 1 => by
  have ih0 := Qau.mono_l k
  intro y0 y1 y2
  unfold Qau.l0
  exact ZM1 ih0
theorem Qau.mono : ∀ a0 k, LeO (Qau.f k a0) (Qau.f (k + 1) a0) := by
 intro a0 k
 have ih0 := Qau.mono_l k
 unfold Qau.f
 exact ZM1 ih0
set_option maxHeartbeats 8000000 in
theorem Qau.calls (k : Nat) (A0 : Option Addr) (c0 : Nat) (l0 : List (S279))  (r : Int) (w : World) (hr0 : Kd.C k279 w A0 l0.length l0) (hc0 : l0.length ≤ c0) (h : Qau.f k l0 = some r) :
  Calls Try.prog 218 #[.slice A0 l0.length c0, .func (.func 186) #[] #[]] w fun e w' => e = .returned (.int .i64 r) ∧ Below w.heap.size w w' := by
 have hu279 := Try.underlying279
 have HR0 := Aside0.mk hr0
 have HC0 := Aside0.mk hc0
 clear hr0 hc0
 have HB := Aside0.mk (Below.refl w.heap.size w)
 have H : (Qau.l0 k l0 (l0.length : Int) 0) = some r := h
 clear h
 have H' := Aside0.mk H
 clear H
 go_enter Try.func218, Try.ntmps218
 go_wp2
 go_loopg [8] k (fun kq v8 w' => ∃ (x8_1 : Int), v8 = .int .i64 x8_1 ∧ Aside0 (Qau.l0 kq l0 (l0.length : Int) x8_1 = some r) ∧ Aside0 (kq ≤ k) ∧ Aside0 (Below w.heap.size w w'))
 case atStart => exact ⟨(0), (Zs), H', ⟨Nat.le_refl _⟩, ⟨Zb⟩⟩
 case round =>
  clear H'
  try clear p2
  obtain ⟨x8_1, rfl, HA, HK1, HB⟩ := hrel
  cases gk with
  | zero => exact absurd HA.out (by simp [Qau.l0])
  | succ k1 =>
   have H := HA.out
   clear HA
   simp only [Qau.l0] at H
   by_cases c3 : x8_1 < (l0.length : Int)
   ·rw [if_pos c3] at H
    have c3b0 : decide (x8_1 < (l0.length : Int)) = T := decide_eq_true c3
    clear c3
    (try simp only [c3b0])
    by_cases c4 : 0 ≤ x8_1
    ·rw [if_pos c4] at H
     have c4b0 : decide (0 ≤ x8_1) = T := decide_eq_true c4
     clear c4
     by_cases c5 : x8_1 < (l0.length : Int)
     ·rw [if_pos c5] at H
      have c5b0 : decide (x8_1 < (l0.length : Int)) = T := decide_eq_true c5
      clear c5
      replace H := Option.bind_eq_some_iff.mp H
      obtain ⟨t970, A60, H⟩ := H
      replace H : (if t970 = T then (some x8_1) else (Qau.l0 k1 l0 (l0.length : Int) (wrap64 (x8_1 + 1)))) = some r := H
      have A6 := Aside0.mk A60
      clear A60
      have p969 : 0 ≤ (x8_1 : Int) := Ze
      have q969 : x8_1 < (l0.length : Int) := Ze
      obtain ⟨ad969, e969, hx969_0, hx969_1⟩ := Qb8 HR0.out x8_1 p969 q969
      cases e969
      replace hx969_0 := Zx HB.out hx969_0
      replace hx969_1 := Zx HB.out hx969_1
      replace p969 := eq_true p969
      replace q969 := eq_true q969
      go_upto_if 16 with (first | (go_at_call 186; (with_reducible refine (Qb7.calls ((Qa0 l0 x8_1).f0) ((Qa0 l0 x8_1).f1) t970 _ A6.out).mono ?_); rintro e w7 ⟨rfl, hb⟩; replace HB := Aside0.mk (Qap (Zb) hb); (try clear hb); (try clear hb2); (try clear hk); (try clear hi)))
      (try simp only [Act.put, Zj, Zk, Zm])
      by_cases c8 : t970 = T
      ·subst c8
       have H1 : (some x8_1) = some r := by rw [if_pos rfl] at H; exact H
       clear H
       have H := H1
       clear H1
       obtain rfl := Option.some.inj H
       go_wp2
       go_ret
       exact ⟨Zq, Zb⟩
      replace c8 := Bool.eq_false_iff.mpr c8
      subst c8
      have H1 : (Qau.l0 k1 l0 (l0.length : Int) (wrap64 (x8_1 + 1))) = some r := by rw [if_neg (show ¬ (F = T) by decide)] at H; exact H
      clear H
      have H := H1
      clear H1
      have H' := Aside0.mk H
      clear H
      go_wp2
      go_roundg k1
      case measure => have := HK1.out; omega
      case rel => exact ⟨(wrap64 (x8_1 + 1)), (Zs), H', ⟨by have := HK1.out; omega⟩, ⟨Zb⟩⟩
     rw [if_neg c5] at H
     exact absurd H (by simp)
    rw [if_neg c4] at H
    exact absurd H (by simp)
   rw [if_neg c3] at H
   have c3b0 : decide (x8_1 < (l0.length : Int)) = F := decide_eq_false c3
   clear c3
   (try simp only [c3b0])
   obtain rfl := Option.some.inj H
   go_wp2
   go_ret
   exact ⟨Zq, Zb⟩
def QaC.f (k : Nat) (l0 : List (S279))  : Option (Bool) := (Qau.f k l0).bind fun t971 => (some (decide (t971 ≥ 0)))
theorem QaC.mono : ∀ a0 k, LeO (QaC.f k a0) (QaC.f (k + 1) a0) := by
 intro a0 k
 unfold QaC.f
 exact ZM1 Qau.mono
set_option maxHeartbeats 8000000 in
theorem QaC.calls (k : Nat) (A0 : Option Addr) (c0 : Nat) (l0 : List (S279))  (r : Bool) (w : World) (hr0 : Kd.C k279 w A0 l0.length l0) (hc0 : l0.length ≤ c0) (h : QaC.f k l0 = some r) :
  Calls Try.prog 183 #[.slice A0 l0.length c0, .func (.func 186) #[] #[]] w fun e w' => e = .returned (.bool r) ∧ Below w.heap.size w w' := by
 have HR0 := Aside0.mk hr0
 have HC0 := Aside0.mk hc0
 clear hr0 hc0
 have HB := Aside0.mk (Below.refl w.heap.size w)
 have H : ((Qau.f k l0).bind fun t971 => (some (decide (t971 ≥ 0)))) = some r := h
 clear h
 replace H := Option.bind_eq_some_iff.mp H
 obtain ⟨t971, A30, H⟩ := H
 replace H : (some (decide (t971 ≥ 0))) = some r := H
 have A3 := Aside0.mk A30
 clear A30
 obtain rfl := Option.some.inj H
 go_enter Try.func183, Try.ntmps183
 go_wp2_with (first | ((with_reducible refine Qay (f := 218) rfl ?_); refine goesL_ (some 7) rfl rfl Try.func218 (by kernel_rfl) rfl #[.slice A0 l0.length c0, .func (.func 186) #[] #[]] rfl (Zl) ?_; (with_reducible refine (Qau.calls k _ _ l0  t971 _ ?side1 ?side2 A3.out).mono ?_); (case side1 => exact Zv HR0.out); (case side2 => exact HC0.out); rintro e w4 ⟨rfl, hb⟩; refine ⟨_, rfl, ?_⟩; replace HB := Aside0.mk (Qap (Zb) hb); (try clear hb); (try clear hb2); (try clear hk); (try clear hi)))
 go_ret
 exact ⟨Zq, Zb⟩
mutual
def QaY.j0 : Nat → List (S279) → Bool → Option (Int)
 | 0, _, _ => none
 | k + 1, x0, x14 => if x14 = T then (some 8) else ((Qaz.f k x0).bind fun t972 => (if t972 = T then (some 10) else (QaY.l0 k x0 x0 (x0.length : Int) 0)))
def QaY.l0 : Nat → List (S279) → List (S279) → Int → Int → Option (Int)
 | 0, _, _, _, _ => none
 | k + 1, x0, x17, x18, x19 => if x19 < x18 then (if 0 ≤ x19 then (if x19 < (x17.length : Int) then ((QbF.f k x0 ((Qa0 x17 x19).f0)).bind fun bt975 => (if bt975.1 = x19 then (QaY.l0 k x0 x17 x18 (wrap64 (x19 + 1))) else (some 12))) else (none)) else (none)) else (if 0 < (x0.length : Int) then (if ((Qa0 x0 0).f1) = 1000000 then ((QaC.f k x0).bind fun t978 => (if t978 = T then (some 25) else (some 0))) else (some 25)) else (none))
end
def QaY.f (k : Nat) (l0 : List (S279)) : Option (Int) := if (l0.length : Int) = 0 then (QaY.j0 k l0 T) else (QaY.j0 k l0 (decide ((l0.length : Int) > 8)))
theorem QaY.mono_l : ∀ k, (∀ y0 y1, LeO (QaY.j0 k y0 y1) (QaY.j0 (k + 1) y0 y1)) ∧ (∀ y0 y1 y2 y3, LeO (QaY.l0 k y0 y1 y2 y3) (QaY.l0 (k + 1) y0 y1 y2 y3))
 | 0 => ⟨fun _ _ r h => by simp [QaY.j0] at h, fun _ _ _ _ r h => by simp [QaY.l0] at h⟩
 | k + 1 => by
  obtain ⟨ih0, ih1⟩ := QaY.mono_l k
  refine ⟨?_, ?_⟩
  ·intro y0 y1
   unfold QaY.j0
   exact ZM5 ih0 ih1 QbF.mono Qaz.mono QaC.mono
  intro y0 y1 y2 y3
  unfold QaY.l0
  exact ZM5 ih0 ih1 QbF.mono Qaz.mono QaC.mono
theorem QaY.mono : ∀ a0 k, LeO (QaY.f k a0) (QaY.f (k + 1) a0) := by
 intro a0 k
 obtain ⟨ih0, ih1⟩ := QaY.mono_l k
 unfold QaY.f
 exact ZM5 ih0 ih1 QbF.mono Qaz.mono QaC.mono
set_option maxHeartbeats 8000000 in
theorem QaY.calls (k : Nat) (A0 : Option Addr) (c0 : Nat) (l0 : List (S279)) (r : Int) (w : World) (hr0 : Kd.C k279 w A0 l0.length l0) (hc0 : l0.length ≤ c0) (h : QaY.f k l0 = some r) :
  Calls Try.prog 112 #[.slice A0 l0.length c0] w fun e w' => e = .returned (.int .i64 r) ∧ Below w.heap.size w w' := by
 have hu279 := Try.underlying279
 have HR0 := Aside0.mk hr0
 have HC0 := Aside0.mk hc0
 clear hr0 hc0
 have HB := Aside0.mk (Below.refl w.heap.size w)
 have H : (if (l0.length : Int) = 0 then (QaY.j0 k l0 T) else (QaY.j0 k l0 (decide ((l0.length : Int) > 8)))) = some r := h
 clear h
 have HC2 := Aside0.mk H
 clear H
 go_enter Try.func112, Try.ntmps112
 go_upto_region 1 with (fail)
 go_cut [14] (fun v14 wc => ∃ (kq : Nat) (x14_1 : Bool), v14 = .bool x14_1 ∧ Aside0 (QaY.j0 kq l0 x14_1 = some r) ∧ Aside0 (kq ≤ k) ∧ Aside0 (Below w.heap.size w wc))
 case first =>
  have H := HC2.out
  clear HC2
  by_cases c3 : (l0.length : Int) = 0
  ·rw [if_pos c3] at H
   have c3b0 : ((l0.length : Int) == 0) = T := beq_iff_eq.mpr c3
   have c3b1 : ((l0.length : Int) != 0) = F := bne_eq_false_iff_eq.mpr c3
   clear c3
   have H' := Aside0.mk H
   clear H
   go_wp2
   go_meet
   case rel => exact ⟨_, (T), (Zs), H', ⟨by first | omega | exact Nat.le_refl _⟩, ⟨Zb⟩⟩
  rw [if_neg c3] at H
  have c3b0 : ((l0.length : Int) == 0) = F := beq_eq_false_iff_ne.mpr c3
  have c3b1 : ((l0.length : Int) != 0) = T := bne_iff_ne.mpr c3
  have c3b2 : ¬ (l0 = []) := fun h_ => c3 (by rw [h_]; rfl)
  have H' := Aside0.mk H
  clear H
  go_wp2
  go_meet
  case rel => exact ⟨_, (decide ((l0.length : Int) > 8)), (Zs), H', ⟨by first | omega | exact Nat.le_refl _⟩, ⟨Zb⟩⟩
 case rest =>
  clear HC2
  try clear c1
  try clear p2
  try clear c3
  try clear c3b0
  try clear c3b1
  try clear c3b2
  obtain ⟨kq, x14_1, rfl, HA, HJ1, HB⟩ := hcut
  cases kq with
  | zero => exact absurd HA.out (by simp [QaY.j0])
  | succ kj1 =>
   have H := HA.out
   clear HA
   simp only [QaY.j0] at H
   by_cases c4 : x14_1 = T
   ·subst c4
    have H1 : (some 8) = some r := by rw [if_pos rfl] at H; exact H
    clear H
    have H := H1
    clear H1
    obtain rfl := Option.some.inj H
    go_wp2
    go_ret
    exact ⟨Zq, Zb⟩
   replace c4 := Bool.eq_false_iff.mpr c4
   subst c4
   have H1 : ((Qaz.f kj1 l0).bind fun t972 => (if t972 = T then (some 10) else (QaY.l0 kj1 l0 l0 (l0.length : Int) 0))) = some r := by rw [if_neg (show ¬ (F = T) by decide)] at H; exact H
   clear H
   have H := H1
   clear H1
   replace H := Option.bind_eq_some_iff.mp H
   obtain ⟨t972, A50, H⟩ := H
   replace H : (if t972 = T then (some 10) else (QaY.l0 kj1 l0 l0 (l0.length : Int) 0)) = some r := H
   have A5 := Aside0.mk A50
   clear A50
   go_upto_if 16 with (first | ((with_reducible refine Qay (f := 183) rfl ?_); refine goesL_ (some 16) rfl rfl Try.func183 (by kernel_rfl) rfl #[.slice A0 l0.length c0, .func (.func 184) #[] #[]] rfl (Zl) ?_; (with_reducible refine (Qaz.calls kj1 _ _ l0  t972 _ ?side1 ?side2 A5.out).mono ?_); (case side1 => exact Zv (Kd.C_below HR0.out HB.out)); (case side2 => exact HC0.out); rintro e w6 ⟨rfl, hb⟩; refine ⟨_, rfl, ?_⟩; replace HB := Aside0.mk (Qap (Zb) hb); (try clear hb); (try clear hb2); (try clear hk); (try clear hi)))
   (try simp only [Act.put, Zj, Zk, Zm])
   by_cases c7 : t972 = T
   ·subst c7
    have H1 : (some 10) = some r := by rw [if_pos rfl] at H; exact H
    clear H
    have H := H1
    clear H1
    obtain rfl := Option.some.inj H
    go_wp2
    go_ret
    exact ⟨Zq, Zb⟩
   replace c7 := Bool.eq_false_iff.mpr c7
   subst c7
   have H1 : (QaY.l0 kj1 l0 l0 (l0.length : Int) 0) = some r := by rw [if_neg (show ¬ (F = T) by decide)] at H; exact H
   clear H
   have H := H1
   clear H1
   have H' := Aside0.mk H
   clear H
   go_wp2
   go_loopg [19] kj1 (fun kq v19 w' => ∃ (x19_2 : Int), v19 = .int .i64 x19_2 ∧ Aside0 (QaY.l0 kq l0 l0 (l0.length : Int) x19_2 = some r) ∧ Aside0 (kq ≤ kj1) ∧ Aside0 (Below w.heap.size w w'))
   case atStart => exact ⟨(0), (Zs), H', ⟨Nat.le_refl _⟩, ⟨Zb⟩⟩
   case round =>
    clear H'
    try clear c1
    try clear p2
    try clear c3
    try clear c3b0
    try clear c3b1
    try clear c3b2
    try clear c4
    try clear c7
    try clear p2
    obtain ⟨x19_2, rfl, HA, HK2, HB⟩ := hrel
    cases gk with
    | zero => exact absurd HA.out (by simp [QaY.l0])
    | succ k2 =>
     have H := HA.out
     clear HA
     simp only [QaY.l0] at H
     by_cases c8 : x19_2 < (l0.length : Int)
     ·rw [if_pos c8] at H
      have c8b0 : decide (x19_2 < (l0.length : Int)) = T := decide_eq_true c8
      clear c8
      (try simp only [c8b0])
      by_cases c9 : 0 ≤ x19_2
      ·rw [if_pos c9] at H
       have c9b0 : decide (0 ≤ x19_2) = T := decide_eq_true c9
       clear c9
       by_cases c10 : x19_2 < (l0.length : Int)
       ·rw [if_pos c10] at H
        have c10b0 : decide (x19_2 < (l0.length : Int)) = T := decide_eq_true c10
        clear c10
        replace H := Option.bind_eq_some_iff.mp H
        obtain ⟨⟨t975, t976⟩, A110, H⟩ := H
        replace H : (if t975 = x19_2 then (QaY.l0 k2 l0 l0 (l0.length : Int) (wrap64 (x19_2 + 1))) else (some 12)) = some r := H
        have A11 := Aside0.mk A110
        clear A110
        have p973 : 0 ≤ (x19_2 : Int) := Ze
        have q973 : x19_2 < (l0.length : Int) := Ze
        obtain ⟨ad973, e973, hx973_0, hx973_1⟩ := Qb8 HR0.out x19_2 p973 q973
        cases e973
        replace hx973_0 := Zx HB.out hx973_0
        replace hx973_1 := Zx HB.out hx973_1
        replace p973 := eq_true p973
        replace q973 := eq_true q973
        go_upto_if 33 with (first | ((with_reducible refine QaT (N := 4) rfl ?_); (try (refine QbN (by rfl) ?_; dsimp only)); refine Zbx (N := 4) (cs := #[.string (⟨#[]⟩ : ByteArray), .int .i64 0]) (t := 279) ?_; intro gb974 hg w12 hbox hb; have BK974 := Aside0.mk (hbox); have GW974 := Aside0.mk (Zt w hg (Zb)); have GE974 := GW974; replace HB := Aside0.mk (Qap (Zb) hb); clear hb hbox hg; obtain ⟨hcz13_0, hfz13_0⟩ := Zy (v := (.string (⟨#[]⟩ : ByteArray))) BK974.out 0; obtain ⟨hcz13_1, hfz13_1⟩ := Zy (v := (.int .i64 0)) BK974.out 1) | ((with_reducible refine Qay (f := 185) rfl ?_); refine goesL_ (some 28) rfl rfl Try.func185 (by kernel_rfl) rfl #[.slice (some ad973) l0.length c0, .string ((Qa0 l0 x19_2).f0)] rfl (Zl) ?_; (with_reducible refine (QbF.calls k2 _ _ l0 ((Qa0 l0 x19_2).f0) t975 t976 _ ?side1 ?side2 A11.out).mono ?_); (case side1 => exact Kd.C_below HR0.out (Zc1 GE974.out)); (case side2 => exact HC0.out); rintro e w14 ⟨rfl, hb⟩; refine ⟨_, rfl, ?_⟩; replace BK974 := Aside0.mk (Zpi #[.string ((Qa0 l0 x19_2).f0), .int .i64 ((Qa0 l0 x19_2).f1)] BK974.out hb); replace HB := Aside0.mk (Qap (Zc1 GE974.out) hb); (try clear hb); (try clear hb2); (try clear hk); (try clear hi)))
        (try simp only [Act.put, Zj, Zk, Zm])
        by_cases c15 : t975 = x19_2
        ·rw [if_pos c15] at H
         have c15b0 : (t975 == x19_2) = T := beq_iff_eq.mpr c15
         have c15b1 : (t975 != x19_2) = F := bne_eq_false_iff_eq.mpr c15
         clear c15
         (try simp only [c15b0, c15b1])
         have H' := Aside0.mk H
         clear H
         go_wp2
         go_roundg k2
         case measure => have := HJ1.out; have := HK2.out; omega
         case rel => exact ⟨(wrap64 (x19_2 + 1)), (Zs), H', ⟨by have := HJ1.out; have := HK2.out; omega⟩, ⟨Zc1 GE974.out⟩⟩
        rw [if_neg c15] at H
        have c15b0 : (t975 == x19_2) = F := beq_eq_false_iff_ne.mpr c15
        have c15b1 : (t975 != x19_2) = T := bne_iff_ne.mpr c15
        (try simp only [c15b0, c15b1])
        obtain rfl := Option.some.inj H
        go_wp2
        go_ret
        exact ⟨Zq, Zc1 GE974.out⟩
       rw [if_neg c10] at H
       exact absurd H (by simp)
      rw [if_neg c9] at H
      exact absurd H (by simp)
     rw [if_neg c8] at H
     have c8b0 : decide (x19_2 < (l0.length : Int)) = F := decide_eq_false c8
     clear c8
     (try simp only [c8b0])
     by_cases c16 : 0 < (l0.length : Int)
     ·rw [if_pos c16] at H
      have c16b0 : decide (0 < (l0.length : Int)) = T := decide_eq_true c16
      have c16b1 : decide (0 < l0.length) = T := decide_eq_true (by omega)
      clear c16
      by_cases c17 : ((Qa0 l0 0).f1) = 1000000
      ·rw [if_pos c17] at H
       have c17b0 : (((Qa0 l0 0).f1) == 1000000) = T := beq_iff_eq.mpr c17
       have c17b1 : (((Qa0 l0 0).f1) != 1000000) = F := bne_eq_false_iff_eq.mpr c17
       clear c17
       replace H := Option.bind_eq_some_iff.mp H
       obtain ⟨t978, A180, H⟩ := H
       replace H : (if t978 = T then (some 25) else (some 0)) = some r := H
       have A18 := Aside0.mk A180
       clear A180
       have p977 : 0 ≤ (0 : Int) := (by omega)
       have q977 : 0 < (l0.length : Int) := Ze
       obtain ⟨ad977, e977, hx977_0, hx977_1⟩ := Qb8 HR0.out 0 p977 q977
       cases e977
       have qi977 : (0 < l0.length) = True := eq_true (by omega)
       (try rw [show ((0 : Int)).toNat = 0 from rfl] at hx977_0)
       (try rw [show 0 * 2 = 0 from rfl] at hx977_0)
       (try rw [Addr.add_zero'] at hx977_0)
       (try rw [show ((0 : Int)).toNat = 0 from rfl] at hx977_1)
       (try rw [show 0 * 2 = 0 from rfl] at hx977_1)
       (try rw [Addr.add_zero'] at hx977_1)
       replace hx977_0 := Zx HB.out hx977_0
       replace hx977_1 := Zx HB.out hx977_1
       replace p977 := eq_true p977
       replace q977 := eq_true q977
       go_upto_if 43 with (first | (go_at_call 183; (with_reducible refine (QaC.calls k2 _ _ l0  t978 _ ?side1 ?side2 A18.out).mono ?_); (case side1 => exact Zv (Kd.C_below HR0.out HB.out)); (case side2 => exact HC0.out); rintro e w19 ⟨rfl, hb⟩; replace HB := Aside0.mk (Qap (Zb) hb); (try clear hb); (try clear hb2); (try clear hk); (try clear hi)))
       (try simp only [Act.put, Zj, Zk, Zm])
       by_cases c20 : t978 = T
       ·subst c20
        have H1 : (some 25) = some r := by rw [if_pos rfl] at H; exact H
        clear H
        have H := H1
        clear H1
        obtain rfl := Option.some.inj H
        go_wp2
        go_ret
        exact ⟨Zq, Zb⟩
       replace c20 := Bool.eq_false_iff.mpr c20
       subst c20
       have H1 : (some 0) = some r := by rw [if_neg (show ¬ (F = T) by decide)] at H; exact H
       clear H
       have H := H1
       clear H1
       obtain rfl := Option.some.inj H
       go_wp2
       go_ret
       exact ⟨Zq, Zb⟩
      rw [if_neg c17] at H
      have c17b0 : (((Qa0 l0 0).f1) == 1000000) = F := beq_eq_false_iff_ne.mpr c17
      have c17b1 : (((Qa0 l0 0).f1) != 1000000) = T := bne_iff_ne.mpr c17
      obtain rfl := Option.some.inj H
      have p977 : 0 ≤ (0 : Int) := (by omega)
      have q977 : 0 < (l0.length : Int) := Ze
      obtain ⟨ad977, e977, hx977_0, hx977_1⟩ := Qb8 HR0.out 0 p977 q977
      cases e977
      have qi977 : (0 < l0.length) = True := eq_true (by omega)
      (try rw [show ((0 : Int)).toNat = 0 from rfl] at hx977_0)
      (try rw [show 0 * 2 = 0 from rfl] at hx977_0)
      (try rw [Addr.add_zero'] at hx977_0)
      (try rw [show ((0 : Int)).toNat = 0 from rfl] at hx977_1)
      (try rw [show 0 * 2 = 0 from rfl] at hx977_1)
      (try rw [Addr.add_zero'] at hx977_1)
      replace hx977_0 := Zx HB.out hx977_0
      replace hx977_1 := Zx HB.out hx977_1
      replace p977 := eq_true p977
      replace q977 := eq_true q977
      go_wp2
      go_ret
      exact ⟨Zq, Zb⟩
     rw [if_neg c16] at H
     exact absurd H (by simp)
def Qbm.f (k : Nat) (l0 : List (S279)) (a1 : Int) (a2 : Int) (a3 : Int) (a4 : Int) : Option (Int × Int) := (QaY.f k l0).bind fun t979 => (if t979 = 0 then (if a2 < 0 then (some (0, 25)) else (if a2 ≥ (l0.length : Int) then (some (0, 25)) else (if a3 < 0 then (some (0, 25)) else (if a3 ≥ (l0.length : Int) then (some (0, 25)) else (if 0 ≤ a2 then (if a2 < (l0.length : Int) then (if 0 ≤ a3 then (if a3 < (l0.length : Int) then ((QaU.f a1 ((Qa0 l0 a2).f1) ((Qa0 l0 a3).f1) a4).bind fun bt982 => (some (bt982.1, bt982.2))) else (none)) else (none)) else (none)) else (none)))))) else (some (0, t979)))
theorem Qbm.mono : ∀ a0 a1 a2 a3 a4 k, LeO (Qbm.f k a0 a1 a2 a3 a4) (Qbm.f (k + 1) a0 a1 a2 a3 a4) := by
 intro a0 a1 a2 a3 a4 k
 unfold Qbm.f
 exact ZM1 QaY.mono
def Qbm.T6 : Bool × List (List Nat × List Nat) := (T, [([], []), ([], []), ([], []), ([1, 2], [1, 2]), ([3], [3]), ([4], [4]), ([], []), ([], []), ([6, 7], [6, 7]), ([8], [8]), ([9], [9]), ([], []), ([0, 5, 10, 11], [0, 5, 10, 11]), ([12], [12]), ([12], [12]), ([13, 12, 0, 1, 2, 3, 4, 5, 6, 7, 8, 9, 10, 11, 12, 13, 14], [13]), ([14, 15, 0, 1, 2, 3, 4, 5, 6, 7, 8, 9, 10, 11, 12, 13, 14, 15], [14])])
def Qbm.B6 : List Nat := [0, 0, 0, 6, 14, 30, 0, 0, 192, 448, 960, 0, 4095, 8191, 8191, 32767, 65535]
theorem Qbm.tab6 : rtab .any (opsOf Try.f188 6) = Qbm.T6 := by kernel_rfl
theorem Qbm.bits6 : Qcc Qbm.T6.2 Qbm.B6 = T := by kernel_rfl
set_option maxHeartbeats 8000000 in
theorem Qbm.calls (k : Nat) (A0 : Option Addr) (c0 : Nat) (l0 : List (S279)) (a1 : Int) (a2 : Int) (a3 : Int) (a4 : Int) (r1 : Int) (r2 : Int) (w : World) (hr0 : Kd.C k279 w A0 l0.length l0) (hc0 : l0.length ≤ c0) (h : Qbm.f k l0 a1 a2 a3 a4 = some (r1, r2)) :
  Calls Try.prog 188 #[.slice A0 l0.length c0, .int .i64 a1, .int .i64 a2, .int .i64 a3, .int .i64 a4] w fun e w' => e = .returned (.tuple #[.int .i64 r1, .int .i64 r2]) ∧ Below w.heap.size w w' := by
 have HR0 := Aside0.mk hr0
 have HC0 := Aside0.mk hc0
 clear hr0 hc0
 have HB := Aside0.mk (Below.refl w.heap.size w)
 have H : ((QaY.f k l0).bind fun t979 => (if t979 = 0 then (if a2 < 0 then (some (0, 25)) else (if a2 ≥ (l0.length : Int) then (some (0, 25)) else (if a3 < 0 then (some (0, 25)) else (if a3 ≥ (l0.length : Int) then (some (0, 25)) else (if 0 ≤ a2 then (if a2 < (l0.length : Int) then (if 0 ≤ a3 then (if a3 < (l0.length : Int) then ((QaU.f a1 ((Qa0 l0 a2).f1) ((Qa0 l0 a3).f1) a4).bind fun bt982 => (some (bt982.1, bt982.2))) else (none)) else (none)) else (none)) else (none)))))) else (some (0, t979)))) = some (r1, r2) := h
 clear h
 replace H := Option.bind_eq_some_iff.mp H
 obtain ⟨t979, A60, H⟩ := H
 replace H : (if t979 = 0 then (if a2 < 0 then (some (0, 25)) else (if a2 ≥ (l0.length : Int) then (some (0, 25)) else (if a3 < 0 then (some (0, 25)) else (if a3 ≥ (l0.length : Int) then (some (0, 25)) else (if 0 ≤ a2 then (if a2 < (l0.length : Int) then (if 0 ≤ a3 then (if a3 < (l0.length : Int) then ((QaU.f a1 ((Qa0 l0 a2).f1) ((Qa0 l0 a3).f1) a4).bind fun bt982 => (some (bt982.1, bt982.2))) else (none)) else (none)) else (none)) else (none)))))) else (some (0, t979))) = some (r1, r2) := H
 have A6 := Aside0.mk A60
 clear A60
 go_enter Try.func188, Try.ntmps188
 go_upto_if 15 with (first | ((with_reducible refine Qay (f := 112) rfl ?_); refine goesL_ (some 13) rfl rfl Try.func112 (by kernel_rfl) rfl #[.slice A0 l0.length c0] rfl (Zl) ?_; (with_reducible refine (QaY.calls k _ _ l0 t979 _ ?side1 ?side2 A6.out).mono ?_); (case side1 => exact Zv HR0.out); (case side2 => exact HC0.out); rintro e w7 ⟨rfl, hb⟩; refine ⟨_, rfl, ?_⟩; replace HB := Aside0.mk (Qap (Zb) hb); (try clear hb); (try clear hb2); (try clear hk); (try clear hi)))
 (try simp only [Act.put, Zj, Zk, Zm])
 by_cases c8 : t979 = 0
 ·rw [if_pos c8] at H
  have c8b0 : (t979 == 0) = T := beq_iff_eq.mpr c8
  have c8b1 : (t979 != 0) = F := bne_eq_false_iff_eq.mpr c8
  clear c8
  (try simp only [c8b0, c8b1])
  by_cases c9 : a2 < 0
  ·rw [if_pos c9] at H
   have c9b0 : decide (a2 < 0) = T := decide_eq_true c9
   clear c9
   simp only [Option.some.injEq, Prod.mk.injEq] at H
   obtain ⟨rfl, rfl⟩ := H
   go_wp2
   go_ret2
   exact ⟨Zq, Zb⟩
  rw [if_neg c9] at H
  have c9b0 : decide (a2 < 0) = F := decide_eq_false c9
  clear c9
  by_cases c10 : a2 ≥ (l0.length : Int)
  ·rw [if_pos c10] at H
   have c10b0 : decide ((l0.length : Int) ≤ a2) = T := decide_eq_true c10
   clear c10
   simp only [Option.some.injEq, Prod.mk.injEq] at H
   obtain ⟨rfl, rfl⟩ := H
   go_wp2
   go_ret2
   exact ⟨Zq, Zb⟩
  rw [if_neg c10] at H
  have c10b0 : decide ((l0.length : Int) ≤ a2) = F := decide_eq_false c10
  clear c10
  by_cases c11 : a3 < 0
  ·rw [if_pos c11] at H
   have c11b0 : decide (a3 < 0) = T := decide_eq_true c11
   clear c11
   simp only [Option.some.injEq, Prod.mk.injEq] at H
   obtain ⟨rfl, rfl⟩ := H
   go_wp2
   go_ret2
   exact ⟨Zq, Zb⟩
  rw [if_neg c11] at H
  have c11b0 : decide (a3 < 0) = F := decide_eq_false c11
  clear c11
  by_cases c12 : a3 ≥ (l0.length : Int)
  ·rw [if_pos c12] at H
   have c12b0 : decide ((l0.length : Int) ≤ a3) = T := decide_eq_true c12
   clear c12
   (try simp only [c12b0])
   simp only [Option.some.injEq, Prod.mk.injEq] at H
   obtain ⟨rfl, rfl⟩ := H
   go_wp2
   go_ret2
   exact ⟨Zq, Zb⟩
  rw [if_neg c12] at H
  have c12b0 : decide ((l0.length : Int) ≤ a3) = F := decide_eq_false c12
  clear c12
  (try simp only [c12b0])
  by_cases c13 : 0 ≤ a2
  ·rw [if_pos c13] at H
   have c13b0 : decide (0 ≤ a2) = T := decide_eq_true c13
   clear c13
   by_cases c14 : a2 < (l0.length : Int)
   ·rw [if_pos c14] at H
    have c14b0 : decide (a2 < (l0.length : Int)) = T := decide_eq_true c14
    clear c14
    by_cases c15 : 0 ≤ a3
    ·rw [if_pos c15] at H
     have c15b0 : decide (0 ≤ a3) = T := decide_eq_true c15
     clear c15
     by_cases c16 : a3 < (l0.length : Int)
     ·rw [if_pos c16] at H
      have c16b0 : decide (a3 < (l0.length : Int)) = T := decide_eq_true c16
      clear c16
      replace H := Option.bind_eq_some_iff.mp H
      obtain ⟨⟨t982, t983⟩, A170, H⟩ := H
      replace H : (some (t982, t983)) = some (r1, r2) := H
      have A17 := Aside0.mk A170
      clear A170
      simp only [Option.some.injEq, Prod.mk.injEq] at H
      obtain ⟨rfl, rfl⟩ := H
      try go_wp2
      replace HB := Aside0.mk (Qai HB.out)
      have p980 : 0 ≤ (a2 : Int) := Ze
      have q980 : a2 < (l0.length : Int) := Ze
      obtain ⟨ad980, e980, hx980_0, hx980_1⟩ := Qb8 HR0.out a2 p980 q980
      have hw980_1 := hx980_1
      have hw980_0 := hx980_0
      cases e980
      replace hx980_0 := Zx HB.out hx980_0
      replace hx980_1 := Zx HB.out hx980_1
      replace p980 := eq_true p980
      replace q980 := eq_true q980
      have p981 : 0 ≤ (a3 : Int) := Ze
      have q981 : a3 < (l0.length : Int) := Ze
      obtain ⟨ad981, e981, hx981_0, hx981_1⟩ := Qb8 HR0.out a3 p981 q981
      have hw981_1 := hx981_1
      have hw981_0 := hx981_0
      obtain rfl : ad980 = ad981 := (by injection e981)
      replace hx981_0 := Zx HB.out hx981_0
      replace hx981_1 := Zx HB.out hx981_1
      replace p981 := eq_true p981
      replace q981 := eq_true q981
      refine start_ (n := 17) (S := fun w' => w'.cell? (ad980.add ((a2).toNat * 2)) = some (.string ((Qa0 l0 a2).f0)) ∧ w'.cell? ⟨(ad980.add ((a2).toNat * 2)).block, (ad980.add ((a2).toNat * 2)).off + 1, none⟩ = some (.int .i64 ((Qa0 l0 a2).f1)) ∧ w'.cell? (ad980.add ((a3).toNat * 2)) = some (.string ((Qa0 l0 a3).f0)) ∧ w'.cell? ⟨(ad980.add ((a3).toNat * 2)).block, (ad980.add ((a3).toNat * 2)).off + 1, none⟩ = some (.int .i64 ((Qa0 l0 a3).f1))) (ds := []) #[F, F, F, F, F, F, F, F, F, F, F, F, F, F, F, F, F] (by kernel_rfl) rfl rfl ⟨((HB.out.cell (World.block_lt_of_cell? w _ hw980_0)).trans hw980_0), ((HB.out.cell (World.block_lt_of_cell? w _ hw980_1)).trans hw980_1), ((HB.out.cell (World.block_lt_of_cell? w _ hw981_0)).trans hw981_0), ((HB.out.cell (World.block_lt_of_cell? w _ hw981_1)).trans hw981_1)⟩ (fun hHeld => ?_); refine Qcf Qbm.tab6 Qbm.bits6 (fun HT_ HW_ => ?_)
      generalize w7.drew = w18 at HB hx980_0 hx980_1 hx981_0 hx981_1 hHeld ⊢
      refine Zsp (i := 0) (N := some 35) (pm 17 1) HT_ ?_
      refine Zsp (i := 1) (N := some 36) (pm 17 2) HT_ ?_
      refine Zsp (i := 2) (N := some 37) (pm 17 3) HT_ ?_
      refine Zsp (i := 3) (N := some 38) (pm 17 4) HT_ ?_
      refine Zsp (i := 4) (N := some 39) (pm 17 5) HT_ ?_
      refine Zsp (i := 6) (N := some 41) #[T, T, T, T, T, F, T, F, F, F, F, F, F, F, F, F, F] HT_ ?_
      refine Zsp (i := 7) (N := some 42) #[T, T, T, T, T, F, T, T, F, F, F, F, F, F, F, F, F] HT_ ?_
      refine Zsp (i := 8) (N := some 43) #[T, T, T, T, T, F, T, T, T, F, F, F, F, F, F, F, F] HT_ ?_
      refine Zsp (i := 9) (N := some 44) #[T, T, T, T, T, F, T, T, T, T, F, F, F, F, F, F, F] HT_ ?_
      refine Zsp (i := 11) (N := some 46) #[T, T, T, T, T, F, T, T, T, T, F, T, F, F, F, F, F] HT_ ?_
      refine Zst (i := 5) (N := some 40) #[T, T, T, T, T, T, T, T, T, T, F, T, F, F, F, F, F] HT_ HW_ hHeld ?_ (hy := by (refine Or.inl ⟨by rfl, ?_⟩; rintro w' ⟨s0, s1, s2, s3⟩; go_simp; with_reducible rfl))
      refine Zst (i := 10) (N := some 45) (pm 17 12) HT_ HW_ hHeld ?_ (hy := by (refine Or.inl ⟨by rfl, ?_⟩; rintro w' ⟨s0, s1, s2, s3⟩; go_simp; with_reducible rfl))
      refine one_ (i := 12) (N := some 47) #[T, T, T, T, T, T, T, T, T, T, T, T, T, F, F, F, F] rfl rfl (one_of HT_.out (by kernel_rfl)) (by decide) (fun K hK => ?_)
      refine goes_ Try.func120 (by kernel_rfl) rfl #[.int .i64 a1, .int .i64 ((Qa0 l0 a2).f1), .int .i64 ((Qa0 l0 a3).f1), .int .i64 a4] (by rfl) rfl rfl (Zl) ?_
      with_reducible refine (QaU.calls a1 ((Qa0 l0 a2).f1) ((Qa0 l0 a3).f1) a4 t982 t983 _ A17.out).mono ?_
      rintro e w19 ⟨rfl, hb⟩
      refine ⟨_, rfl, ?_⟩
      replace HB := Aside0.mk (Qap (Zb) hb)
      (try clear hb)
      (try clear hb2)
      (try clear hk)
      (try clear hi)
      refine hK.out _ _ ⟨((HB.out.cell (World.block_lt_of_cell? w _ hw980_0)).trans hw980_0), ((HB.out.cell (World.block_lt_of_cell? w _ hw980_1)).trans hw980_1), ((HB.out.cell (World.block_lt_of_cell? w _ hw981_0)).trans hw981_0), ((HB.out.cell (World.block_lt_of_cell? w _ hw981_1)).trans hw981_1)⟩ (fun hHeld => ?_)
      clear hK K
      refine norm_ (a' := ?_) ?_ ?_
      rotate_left
      ·show Act.put _ (some 47) _ = _
       simp only [Act.put, Zj, Zk, Zm, i64_w, i32_w]
       rfl
      refine Zsp (i := 13) (N := some 48) (pm 17 14) HT_ ?_
      refine Zsp (i := 14) (N := some 49) (pm 17 15) HT_ ?_
      refine Zsp (i := 15) (N := some 10) (pm 17 16) HT_ ?_
      refine Zsp (i := 16) (N := some 11) (pm 17 17) HT_ ?_
      refine done_ (Qcu HT_.out (by kernel_rfl)) ?_
      try go_wp2
      go_ret2
      exact ⟨Zq, Zb⟩
     rw [if_neg c16] at H
     exact absurd H (by simp)
    rw [if_neg c15] at H
    exact absurd H (by simp)
   rw [if_neg c14] at H
   exact absurd H (by simp)
  rw [if_neg c13] at H
  exact absurd H (by simp)
 rw [if_neg c8] at H
 have c8b0 : (t979 == 0) = F := beq_eq_false_iff_ne.mpr c8
 have c8b1 : (t979 != 0) = T := bne_iff_ne.mpr c8
 (try simp only [c8b0, c8b1])
 simp only [Option.some.injEq, Prod.mk.injEq] at H
 obtain ⟨rfl, rfl⟩ := H
 go_wp2
 go_ret2
 exact ⟨Zq, Zb⟩
def QbJ.f (k : Nat) (l0 : List (S279)) (a1 : Int) (a2 : Int) (a3 : Int) : Option (Int × Int) := (Qbm.f k l0 a1 a2 0 a3).bind fun bt984 => (some (bt984.1, bt984.2))
theorem QbJ.mono : ∀ a0 a1 a2 a3 k, LeO (QbJ.f k a0 a1 a2 a3) (QbJ.f (k + 1) a0 a1 a2 a3) := by
 intro a0 a1 a2 a3 k
 unfold QbJ.f
 exact ZM1 Qbm.mono
set_option maxHeartbeats 8000000 in
theorem QbJ.calls (k : Nat) (A0 : Option Addr) (c0 : Nat) (l0 : List (S279)) (a1 : Int) (a2 : Int) (a3 : Int) (r1 : Int) (r2 : Int) (w : World) (hr0 : Kd.C k279 w A0 l0.length l0) (hc0 : l0.length ≤ c0) (h : QbJ.f k l0 a1 a2 a3 = some (r1, r2)) :
  Calls Try.prog 119 #[.slice A0 l0.length c0, .int .i64 a1, .int .i64 a2, .int .i64 a3] w fun e w' => e = .returned (.tuple #[.int .i64 r1, .int .i64 r2]) ∧ Below w.heap.size w w' := by
 have HR0 := Aside0.mk hr0
 have HC0 := Aside0.mk hc0
 clear hr0 hc0
 have HB := Aside0.mk (Below.refl w.heap.size w)
 have H : ((Qbm.f k l0 a1 a2 0 a3).bind fun bt984 => (some (bt984.1, bt984.2))) = some (r1, r2) := h
 clear h
 replace H := Option.bind_eq_some_iff.mp H
 obtain ⟨⟨t984, t985⟩, A50, H⟩ := H
 replace H : (some (t984, t985)) = some (r1, r2) := H
 have A5 := Aside0.mk A50
 clear A50
 simp only [Option.some.injEq, Prod.mk.injEq] at H
 obtain ⟨rfl, rfl⟩ := H
 go_enter Try.func119, Try.ntmps119
 go_wp2_with (first | ((with_reducible refine Qay (f := 188) rfl ?_); refine goesL_ (some 14) rfl rfl Try.func188 (by kernel_rfl) rfl #[.slice A0 l0.length c0, .int .i64 a1, .int .i64 a2, .int .i64 0, .int .i64 a3] rfl (Zl) ?_; (with_reducible refine (Qbm.calls k _ _ l0 a1 a2 0 a3 t984 t985 _ ?side1 ?side2 A5.out).mono ?_); (case side1 => exact Zv HR0.out); (case side2 => exact HC0.out); rintro e w6 ⟨rfl, hb⟩; refine ⟨_, rfl, ?_⟩; replace HB := Aside0.mk (Qap (Zb) hb); (try clear hb); (try clear hb2); (try clear hk); (try clear hi)))
 go_ret2
 exact ⟨Zq, Zb⟩
def QaZ.f (k : Nat) (a0_0 : ByteArray) (a0_1 : Int) (a0_2 : Int) (a0_3 : Int) (a0_4 : Int) (a0_5 : Int) (a1 : Int) (l2 : List (S279)) : Option (Int × Int) := (QbC.f k a0_0 a0_1 a0_2 a0_3 a0_4 a0_5 a1).bind fun bt987 => (if bt987.2 = 0 then ((QbJ.f k l2 bt987.1 a0_2 3).bind fun bt989 => (if bt989.2 = 0 then ((QaU.f bt989.1 (wrap64 (1000 - a0_4)) 1000 3).bind fun bt991 => (some (bt991.1, bt991.2))) else (some (0, bt989.2)))) else (some (0, bt987.2)))
theorem QaZ.mono : ∀ a0 a1 a2 a3 a4 a5 a6 a7 k, LeO (QaZ.f k a0 a1 a2 a3 a4 a5 a6 a7) (QaZ.f (k + 1) a0 a1 a2 a3 a4 a5 a6 a7) := by
 intro a0 a1 a2 a3 a4 a5 a6 a7 k
 unfold QaZ.f
 exact ZM2 QbC.mono QbJ.mono
set_option maxHeartbeats 8000000 in
theorem QaZ.calls (k : Nat) (a0_0 : ByteArray) (a0_1 : Int) (a0_2 : Int) (a0_3 : Int) (a0_4 : Int) (a0_5 : Int) (a1 : Int) (A2 : Option Addr) (c2 : Nat) (l2 : List (S279)) (r1 : Int) (r2 : Int) (w : World) (hr2 : Kd.C k279 w A2 l2.length l2) (hc2 : l2.length ≤ c2) (h : QaZ.f k a0_0 a0_1 a0_2 a0_3 a0_4 a0_5 a1 l2 = some (r1, r2)) :
  Calls Try.prog 44 #[.agg #[.string a0_0, .int .i64 a0_1, .int .i64 a0_2, .int .i64 a0_3, .int .i64 a0_4, .int .i64 a0_5], .int .i64 a1, .slice A2 l2.length c2] w fun e w' => e = .returned (.tuple #[.int .i64 r1, .int .i64 r2]) ∧ Below w.heap.size w w' := by
 have hu112 := Try.underlying112
 have HR2 := Aside0.mk hr2
 have HC2 := Aside0.mk hc2
 clear hr2 hc2
 have HB := Aside0.mk (Below.refl w.heap.size w)
 have H : ((QbC.f k a0_0 a0_1 a0_2 a0_3 a0_4 a0_5 a1).bind fun bt987 => (if bt987.2 = 0 then ((QbJ.f k l2 bt987.1 a0_2 3).bind fun bt989 => (if bt989.2 = 0 then ((QaU.f bt989.1 (wrap64 (1000 - a0_4)) 1000 3).bind fun bt991 => (some (bt991.1, bt991.2))) else (some (0, bt989.2)))) else (some (0, bt987.2)))) = some (r1, r2) := h
 clear h
 replace H := Option.bind_eq_some_iff.mp H
 obtain ⟨⟨t987, t988⟩, A40, H⟩ := H
 replace H : (if t988 = 0 then ((QbJ.f k l2 t987 a0_2 3).bind fun bt989 => (if bt989.2 = 0 then ((QaU.f bt989.1 (wrap64 (1000 - a0_4)) 1000 3).bind fun bt991 => (some (bt991.1, bt991.2))) else (some (0, bt989.2)))) else (some (0, t988))) = some (r1, r2) := H
 have A4 := Aside0.mk A40
 clear A40
 go_enter Try.func44, Try.ntmps44
 go_upto_if 17 with (first | ((with_reducible refine QaT (N := 3) rfl ?_); refine Zbx (N := 3) (cs := #[.string a0_0, .int .i64 a0_1, .int .i64 a0_2, .int .i64 a0_3, .int .i64 a0_4, .int .i64 a0_5]) (t := 112) ?_; intro gb986 hg w5 hbox hb; have BK986 := Aside0.mk (hbox); have GW986 := Aside0.mk (Zt w hg (Zb)); have GE986 := GW986; replace HB := Aside0.mk (Qap (Zb) hb); clear hb hbox hg; obtain ⟨hcz6_0, hfz6_0⟩ := Zy (v := (.string a0_0)) BK986.out 0; obtain ⟨hcz6_1, hfz6_1⟩ := Zy (v := (.int .i64 a0_1)) BK986.out 1; obtain ⟨hcz6_2, hfz6_2⟩ := Zy (v := (.int .i64 a0_2)) BK986.out 2; obtain ⟨hcz6_3, hfz6_3⟩ := Zy (v := (.int .i64 a0_3)) BK986.out 3; obtain ⟨hcz6_4, hfz6_4⟩ := Zy (v := (.int .i64 a0_4)) BK986.out 4; obtain ⟨hcz6_5, hfz6_5⟩ := Zy (v := (.int .i64 a0_5)) BK986.out 5) | ((with_reducible refine Qay (f := 118) rfl ?_); refine goesL_ (some 13) rfl rfl Try.func118 (by kernel_rfl) rfl #[.agg #[.string a0_0, .int .i64 a0_1, .int .i64 a0_2, .int .i64 a0_3, .int .i64 a0_4, .int .i64 a0_5], .int .i64 a1] rfl (Zl) ?_; (with_reducible refine (QbC.calls k a0_0 a0_1 a0_2 a0_3 a0_4 a0_5 a1 t987 t988 _ A4.out).mono ?_); rintro e w7 ⟨rfl, hb⟩; refine ⟨_, rfl, ?_⟩; replace BK986 := Aside0.mk (Zi BK986.out hb); replace HB := Aside0.mk (Qap (Zc1 GE986.out) hb); (try clear hb); (try clear hb2); (try clear hk); (try clear hi)))
 (try simp only [Act.put, Zj, Zk, Zm])
 by_cases c8 : t988 = 0
 ·rw [if_pos c8] at H
  have c8b0 : (t988 == 0) = T := beq_iff_eq.mpr c8
  have c8b1 : (t988 != 0) = F := bne_eq_false_iff_eq.mpr c8
  clear c8
  (try simp only [c8b0, c8b1])
  replace H := Option.bind_eq_some_iff.mp H
  obtain ⟨⟨t989, t990⟩, A90, H⟩ := H
  replace H : (if t990 = 0 then ((QaU.f t989 (wrap64 (1000 - a0_4)) 1000 3).bind fun bt991 => (some (bt991.1, bt991.2))) else (some (0, t990))) = some (r1, r2) := H
  have A9 := Aside0.mk A90
  clear A90
  obtain ⟨hcz10_0, hfz10_0⟩ := Zy (v := (.string a0_0)) BK986.out 0
  obtain ⟨hcz10_1, hfz10_1⟩ := Zy (v := (.int .i64 a0_1)) BK986.out 1
  obtain ⟨hcz10_2, hfz10_2⟩ := Zy (v := (.int .i64 a0_2)) BK986.out 2
  obtain ⟨hcz10_3, hfz10_3⟩ := Zy (v := (.int .i64 a0_3)) BK986.out 3
  obtain ⟨hcz10_4, hfz10_4⟩ := Zy (v := (.int .i64 a0_4)) BK986.out 4
  obtain ⟨hcz10_5, hfz10_5⟩ := Zy (v := (.int .i64 a0_5)) BK986.out 5
  go_upto_if 28 with (first | ((with_reducible refine Qay (f := 119) rfl ?_); refine goesL_ (some 24) rfl rfl Try.func119 (by kernel_rfl) rfl #[.slice A2 l2.length c2, .int .i64 t987, .int .i64 a0_2, .int .i64 3] rfl (Zl) ?_; (with_reducible refine (QbJ.calls k _ _ l2 t987 a0_2 3 t989 t990 _ ?side1 ?side2 A9.out).mono ?_); (case side1 => exact Zv (Kd.C_below HR2.out HB.out)); (case side2 => exact HC2.out); rintro e w11 ⟨rfl, hb⟩; refine ⟨_, rfl, ?_⟩; replace BK986 := Aside0.mk (Zi BK986.out hb); replace HB := Aside0.mk (Qap (Zc1 GE986.out) hb); (try clear hb); (try clear hb2); (try clear hk); (try clear hi)))
  (try simp only [Act.put, Zj, Zk, Zm])
  by_cases c12 : t990 = 0
  ·rw [if_pos c12] at H
   have c12b0 : (t990 == 0) = T := beq_iff_eq.mpr c12
   have c12b1 : (t990 != 0) = F := bne_eq_false_iff_eq.mpr c12
   clear c12
   (try simp only [c12b0, c12b1])
   replace H := Option.bind_eq_some_iff.mp H
   obtain ⟨⟨t991, t992⟩, A130, H⟩ := H
   replace H : (some (t991, t992)) = some (r1, r2) := H
   have A13 := Aside0.mk A130
   clear A130
   simp only [Option.some.injEq, Prod.mk.injEq] at H
   obtain ⟨rfl, rfl⟩ := H
   obtain ⟨hcz14_0, hfz14_0⟩ := Zy (v := (.string a0_0)) BK986.out 0
   obtain ⟨hcz14_1, hfz14_1⟩ := Zy (v := (.int .i64 a0_1)) BK986.out 1
   obtain ⟨hcz14_2, hfz14_2⟩ := Zy (v := (.int .i64 a0_2)) BK986.out 2
   obtain ⟨hcz14_3, hfz14_3⟩ := Zy (v := (.int .i64 a0_3)) BK986.out 3
   obtain ⟨hcz14_4, hfz14_4⟩ := Zy (v := (.int .i64 a0_4)) BK986.out 4
   obtain ⟨hcz14_5, hfz14_5⟩ := Zy (v := (.int .i64 a0_5)) BK986.out 5
   go_wp2_with (first | ((with_reducible refine Qay (f := 120) rfl ?_); refine goesL_ (some 34) rfl rfl Try.func120 (by kernel_rfl) rfl #[.int .i64 t989, .int .i64 (wrap64 (1000 - a0_4)), .int .i64 1000, .int .i64 3] rfl (Zl) ?_; (with_reducible refine (QaU.calls t989 (wrap64 (1000 - a0_4)) 1000 3 t991 t992 _ A13.out).mono ?_); rintro e w15 ⟨rfl, hb⟩; refine ⟨_, rfl, ?_⟩; replace BK986 := Aside0.mk (Zi BK986.out hb); replace HB := Aside0.mk (Qap (Zc1 GE986.out) hb); (try clear hb); (try clear hb2); (try clear hk); (try clear hi)))
   go_ret2
   exact ⟨Zq, Zc1 GE986.out⟩
  rw [if_neg c12] at H
  have c12b0 : (t990 == 0) = F := beq_eq_false_iff_ne.mpr c12
  have c12b1 : (t990 != 0) = T := bne_iff_ne.mpr c12
  (try simp only [c12b0, c12b1])
  simp only [Option.some.injEq, Prod.mk.injEq] at H
  obtain ⟨rfl, rfl⟩ := H
  go_wp2
  go_ret2
  exact ⟨Zq, Zc1 GE986.out⟩
 rw [if_neg c8] at H
 have c8b0 : (t988 == 0) = F := beq_eq_false_iff_ne.mpr c8
 have c8b1 : (t988 != 0) = T := bne_iff_ne.mpr c8
 (try simp only [c8b0, c8b1])
 simp only [Option.some.injEq, Prod.mk.injEq] at H
 obtain ⟨rfl, rfl⟩ := H
 go_wp2
 go_ret2
 exact ⟨Zq, Zc1 GE986.out⟩
def Qa4.l0 : Nat → List ByteArray → Int → Int → Option (Bool)
 | 0, _, _, _ => none
 | k + 1, x5, x6, x7 => if x7 < x6 then (if 0 ≤ x7 then (if x7 < (x5.length : Int) then ((QaB.f k (rdOf ByteArray.empty x5 x7)).bind fun t1000 => (if t1000 = T then (Qa4.l0 k x5 x6 (wrap64 (x7 + 1))) else (some F))) else (none)) else (none)) else (some T)
def Qa4.f (k : Nat) (l0 : List ByteArray) : Option (Bool) := Qa4.l0 k l0 (l0.length : Int) 0
theorem Qa4.mono_l : ∀ k, (∀ y0 y1 y2, LeO (Qa4.l0 k y0 y1 y2) (Qa4.l0 (k + 1) y0 y1 y2))
 | 0 => fun _ _ _ r h => by simp [Qa4.l0] at h
 | k + 1 => by
  have ih0 := Qa4.mono_l k
  intro y0 y1 y2
  unfold Qa4.l0
  exact ZM2 ih0 QaB.mono
theorem Qa4.mono : ∀ a0 k, LeO (Qa4.f k a0) (Qa4.f (k + 1) a0) := by
 intro a0 k
 have ih0 := Qa4.mono_l k
 unfold Qa4.f
 exact ZM2 ih0 QaB.mono
set_option maxHeartbeats 8000000 in
theorem Qa4.calls (k : Nat) (A0 : Option Addr) (c0 : Nat) (l0 : List ByteArray) (r : Bool) (w : World) (hr0 : Kd.C Kd.string w A0 l0.length l0) (hc0 : l0.length ≤ c0) (h : Qa4.f k l0 = some r) :
  Calls Try.prog 272 #[.slice A0 l0.length c0] w fun e w' => e = .returned (.bool r) ∧ Drawn0 w w' := by
 have HR0 := Aside0.mk hr0
 have HC0 := Aside0.mk hc0
 clear hr0 hc0
 have H : (Qa4.l0 k l0 (l0.length : Int) 0) = some r := h
 clear h
 have H' := Aside0.mk H
 clear H
 go_enter Try.func272, Try.ntmps272
 go_wp2
 go_loopg [7] k (fun kq v7 w' => ∃ (x7_1 : Int), v7 = .int .i64 x7_1 ∧ Aside0 (Qa4.l0 kq l0 (l0.length : Int) x7_1 = some r) ∧ Aside0 (kq ≤ k) ∧ Drawn0 w w')
 case atStart => exact ⟨(0), (Zs), H', ⟨Nat.le_refl _⟩, Zd⟩
 case round =>
  clear H'
  obtain ⟨x7_1, rfl, HA, HK1, ⟨m1, rfl⟩⟩ := hrel
  cases gk with
  | zero => exact absurd HA.out (by simp [Qa4.l0])
  | succ k1 =>
   have H := HA.out
   clear HA
   simp only [Qa4.l0] at H
   by_cases c2 : x7_1 < (l0.length : Int)
   ·rw [if_pos c2] at H
    have c2b0 : decide (x7_1 < (l0.length : Int)) = T := decide_eq_true c2
    clear c2
    (try simp only [c2b0])
    by_cases c3 : 0 ≤ x7_1
    ·rw [if_pos c3] at H
     have c3b0 : decide (0 ≤ x7_1) = T := decide_eq_true c3
     clear c3
     by_cases c4 : x7_1 < (l0.length : Int)
     ·rw [if_pos c4] at H
      have c4b0 : decide (x7_1 < (l0.length : Int)) = T := decide_eq_true c4
      clear c4
      replace H := Option.bind_eq_some_iff.mp H
      obtain ⟨t1000, A50, H⟩ := H
      replace H : (if t1000 = T then (Qa4.l0 k1 l0 (l0.length : Int) (wrap64 (x7_1 + 1))) else (some F)) = some r := H
      have A5 := Aside0.mk A50
      clear A50
      have p999 : 0 ≤ (x7_1 : Int) := Ze
      have q999 : x7_1 < (l0.length : Int) := Ze
      obtain ⟨ad999, e999, hx999_0⟩ := Kd.at_string HR0.out x7_1 p999 q999
      cases e999
      replace p999 := eq_true p999
      replace q999 := eq_true q999
      go_upto_if 13 with (first | ((with_reducible refine Qay (f := 146) rfl ?_); refine goesL_ (some 12) rfl rfl Try.func146 (by kernel_rfl) rfl #[.string (rdOf ByteArray.empty l0 x7_1)] rfl (Zl) ?_; (with_reducible refine (QaB.calls k1 (rdOf ByteArray.empty l0 x7_1) t1000 _ A5.out).mono ?_); rintro e w' ⟨rfl, ⟨nd, rfl⟩⟩; refine ⟨_, rfl, ?_⟩))
      (try simp only [Act.put, Zj, Zk, Zm])
      by_cases c6 : t1000 = T
      ·subst c6
       have H1 : (Qa4.l0 k1 l0 (l0.length : Int) (wrap64 (x7_1 + 1))) = some r := by rw [if_pos rfl] at H; exact H
       clear H
       have H := H1
       clear H1
       have H' := Aside0.mk H
       clear H
       go_wp2
       go_roundg k1
       case measure => have := HK1.out; omega
       case rel => exact ⟨(wrap64 (x7_1 + 1)), (Zs), H', ⟨by have := HK1.out; omega⟩, Zd⟩
      replace c6 := Bool.eq_false_iff.mpr c6
      subst c6
      have H1 : (some F) = some r := by rw [if_neg (show ¬ (F = T) by decide)] at H; exact H
      clear H
      have H := H1
      clear H1
      obtain rfl := Option.some.inj H
      go_wp2
      go_ret
      exact ⟨Zs, Zd⟩
     rw [if_neg c4] at H
     exact absurd H (by simp)
    rw [if_neg c3] at H
    exact absurd H (by simp)
   rw [if_neg c2] at H
   have c2b0 : decide (x7_1 < (l0.length : Int)) = F := decide_eq_false c2
   clear c2
   (try simp only [c2b0])
   obtain rfl := Option.some.inj H
   go_wp2
   go_ret
   exact ⟨Zs, Zd⟩
def Qbj.f (a0 : ByteArray) (a1 : ByteArray) : Option (Int) := (Qby.f a0).bind fun t101 => ((Qby.f a1).bind fun t102 => (if t101 = T then (if t102 = T then (some 0) else (some (-1))) else (if t102 = T then (some 1) else (if (Op.bytesLess a0.toList a1.toList) = T then (some (-1)) else (if a0.toList = a1.toList then (some 0) else (some 1))))))
set_option maxHeartbeats 8000000 in
theorem Qbj.calls (a0 : ByteArray) (a1 : ByteArray) (r : Int) (w : World) (h : Qbj.f a0 a1 = some r) :
  Calls Try.prog 130 #[.string a0, .string a1] w fun e w' => e = .returned (.int .i64 r) ∧ Drawn0 w w' := by
 have H : ((Qby.f a0).bind fun t101 => ((Qby.f a1).bind fun t102 => (if t101 = T then (if t102 = T then (some 0) else (some (-1))) else (if t102 = T then (some 1) else (if (Op.bytesLess a0.toList a1.toList) = T then (some (-1)) else (if a0.toList = a1.toList then (some 0) else (some 1))))))) = some r := h
 clear h
 replace H := Option.bind_eq_some_iff.mp H
 obtain ⟨t101, A30, H⟩ := H
 replace H : ((Qby.f a1).bind fun t102 => (if t101 = T then (if t102 = T then (some 0) else (some (-1))) else (if t102 = T then (some 1) else (if (Op.bytesLess a0.toList a1.toList) = T then (some (-1)) else (if a0.toList = a1.toList then (some 0) else (some 1)))))) = some r := H
 have A3 := Aside0.mk A30
 clear A30
 replace H := Option.bind_eq_some_iff.mp H
 obtain ⟨t102, A40, H⟩ := H
 replace H : (if t101 = T then (if t102 = T then (some 0) else (some (-1))) else (if t102 = T then (some 1) else (if (Op.bytesLess a0.toList a1.toList) = T then (some (-1)) else (if a0.toList = a1.toList then (some 0) else (some 1))))) = some r := H
 have A4 := Aside0.mk A40
 clear A40
 go_enter Try.func130, Try.ntmps130
 go_upto_if 11 with (first | ((with_reducible refine Qay (f := 197) rfl ?_); refine goesL_ (some 8) rfl rfl Try.func197 (by kernel_rfl) rfl #[.string a0] rfl (Zl) ?_; (with_reducible refine (Qby.calls a0 t101 _ A3.out).mono ?_); rintro e w' ⟨rfl, ⟨nd, rfl⟩⟩; refine ⟨_, rfl, ?_⟩) | ((with_reducible refine Qay (f := 197) rfl ?_); refine goesL_ (some 10) rfl rfl Try.func197 (by kernel_rfl) rfl #[.string a1] rfl (Zl) ?_; (with_reducible refine (Qby.calls a1 t102 _ A4.out).mono ?_); rintro e w' ⟨rfl, ⟨nd, rfl⟩⟩; refine ⟨_, rfl, ?_⟩))
 (try simp only [Act.put, Zj, Zk, Zm])
 by_cases c5 : t101 = T
 ·subst c5
  have H1 : (if t102 = T then (some 0) else (some (-1))) = some r := by rw [if_pos rfl] at H; exact H
  clear H
  have H := H1
  clear H1
  by_cases c6 : t102 = T
  ·subst c6
   have H1 : (some 0) = some r := by rw [if_pos rfl] at H; exact H
   clear H
   have H := H1
   clear H1
   obtain rfl := Option.some.inj H
   go_wp2
   go_ret
   exact ⟨Zs, Zd⟩
  replace c6 := Bool.eq_false_iff.mpr c6
  subst c6
  have H1 : (some (-1)) = some r := by rw [if_neg (show ¬ (F = T) by decide)] at H; exact H
  clear H
  have H := H1
  clear H1
  obtain rfl := Option.some.inj H
  go_wp2
  go_ret
  exact ⟨Zs, Zd⟩
 replace c5 := Bool.eq_false_iff.mpr c5
 subst c5
 have H1 : (if t102 = T then (some 1) else (if (Op.bytesLess a0.toList a1.toList) = T then (some (-1)) else (if a0.toList = a1.toList then (some 0) else (some 1)))) = some r := by rw [if_neg (show ¬ (F = T) by decide)] at H; exact H
 clear H
 have H := H1
 clear H1
 by_cases c7 : t102 = T
 ·subst c7
  have H1 : (some 1) = some r := by rw [if_pos rfl] at H; exact H
  clear H
  have H := H1
  clear H1
  obtain rfl := Option.some.inj H
  go_wp2
  go_ret
  exact ⟨Zs, Zd⟩
 replace c7 := Bool.eq_false_iff.mpr c7
 subst c7
 have H1 : (if (Op.bytesLess a0.toList a1.toList) = T then (some (-1)) else (if a0.toList = a1.toList then (some 0) else (some 1))) = some r := by rw [if_neg (show ¬ (F = T) by decide)] at H; exact H
 clear H
 have H := H1
 clear H1
 by_cases c8 : (Op.bytesLess a0.toList a1.toList) = T
 ·rw [if_pos c8] at H
  have c8b0 : (Op.bytesLess a0.toList a1.toList) = T := c8
  clear c8
  (try simp only [c8b0])
  obtain rfl := Option.some.inj H
  go_wp2
  go_ret
  exact ⟨Zs, Zd⟩
 rw [if_neg c8] at H
 have c8b0 : (Op.bytesLess a0.toList a1.toList) = F := by simpa using c8
 clear c8
 (try simp only [c8b0])
 by_cases c9 : a0.toList = a1.toList
 ·rw [if_pos c9] at H
  have c9b0 : (a0.toList == a1.toList) = T := beq_iff_eq.mpr c9
  have c9b1 : (a0.toList != a1.toList) = F := bne_eq_false_iff_eq.mpr c9
  clear c9
  obtain rfl := Option.some.inj H
  go_wp2
  go_ret
  exact ⟨Zs, Zd⟩
 rw [if_neg c9] at H
 have c9b0 : (a0.toList == a1.toList) = F := beq_eq_false_iff_ne.mpr c9
 have c9b1 : (a0.toList != a1.toList) = T := bne_iff_ne.mpr c9
 obtain rfl := Option.some.inj H
 go_wp2
 go_ret
 exact ⟨Zs, Zd⟩
def QbD.f (a0_0 : ByteArray) (a0_1 : ByteArray) (a0_2 : ByteArray) (a0_3 : Int) (a1_0 : ByteArray) (a1_1 : ByteArray) (a1_2 : ByteArray) (a1_3 : Int) : Option (Int) := (Qbj.f a0_0 a1_0).bind fun t1003 => (if t1003 = 0 then ((Qbj.f a0_1 a1_1).bind fun t1004 => (if t1004 = 0 then ((Qbj.f a0_2 a1_2).bind fun t1005 => (some t1005)) else (some t1004))) else (some t1003))
set_option maxHeartbeats 8000000 in
theorem QbD.calls (a0_0 : ByteArray) (a0_1 : ByteArray) (a0_2 : ByteArray) (a0_3 : Int) (a1_0 : ByteArray) (a1_1 : ByteArray) (a1_2 : ByteArray) (a1_3 : Int) (r : Int) (w : World) (h : QbD.f a0_0 a0_1 a0_2 a0_3 a1_0 a1_1 a1_2 a1_3 = some r) :
  Calls Try.prog 273 #[.agg #[.string a0_0, .string a0_1, .string a0_2, .int .i64 a0_3], .agg #[.string a1_0, .string a1_1, .string a1_2, .int .i64 a1_3]] w fun e w' => e = .returned (.int .i64 r) ∧ Below w.heap.size w w' := by
 have hu346 := Try.underlying346
 have HB := Aside0.mk (Below.refl w.heap.size w)
 have H : ((Qbj.f a0_0 a1_0).bind fun t1003 => (if t1003 = 0 then ((Qbj.f a0_1 a1_1).bind fun t1004 => (if t1004 = 0 then ((Qbj.f a0_2 a1_2).bind fun t1005 => (some t1005)) else (some t1004))) else (some t1003))) = some r := h
 clear h
 replace H := Option.bind_eq_some_iff.mp H
 obtain ⟨t1003, A30, H⟩ := H
 replace H : (if t1003 = 0 then ((Qbj.f a0_1 a1_1).bind fun t1004 => (if t1004 = 0 then ((Qbj.f a0_2 a1_2).bind fun t1005 => (some t1005)) else (some t1004))) else (some t1003)) = some r := H
 have A3 := Aside0.mk A30
 clear A30
 go_enter Try.func273, Try.ntmps273
 go_upto_if 15 with (first | ((with_reducible refine QaT (N := 2) rfl ?_); refine Zbx (N := 2) (cs := #[.string a0_0, .string a0_1, .string a0_2, .int .i64 a0_3]) (t := 346) ?_; intro gb1001 hg w4 hbox hb; have BK1001 := Aside0.mk (hbox); have GW1001 := Aside0.mk (Zt w hg (Zb)); have GE1001 := GW1001; replace HB := Aside0.mk (Qap (Zb) hb); clear hb hbox hg) | ((with_reducible refine QaT (N := 3) rfl ?_); refine Zbx (N := 3) (cs := #[.string a1_0, .string a1_1, .string a1_2, .int .i64 a1_3]) (t := 346) ?_; intro gb1002 hg w5 hbox hb; have BK1002 := Aside0.mk (hbox); have GW1002 := Aside0.mk (Zt w hg (Zc1 GE1001.out)); have GE1002 := GW1002; have NB1001_1002 := Aside0.mk (Zn hg BK1001.out); have NB1002_1001 := Aside0.mk NB1001_1002.out.symm; replace BK1001 := Aside0.mk (Zi BK1001.out hb); replace HB := Aside0.mk (Qap (Zc1 GE1001.out) hb); clear hb hbox hg; have hnb6 := NB1001_1002.out; have hnc6 := NB1002_1001.out; obtain ⟨hcz7_0, hfz7_0⟩ := Zy (v := (.string a0_0)) BK1001.out 0; obtain ⟨hcz7_1, hfz7_1⟩ := Zy (v := (.string a0_1)) BK1001.out 1; obtain ⟨hcz7_2, hfz7_2⟩ := Zy (v := (.string a0_2)) BK1001.out 2; obtain ⟨hcz7_3, hfz7_3⟩ := Zy (v := (.int .i64 a0_3)) BK1001.out 3; obtain ⟨hcz8_0, hfz8_0⟩ := Zy (v := (.string a1_0)) BK1002.out 0; obtain ⟨hcz8_1, hfz8_1⟩ := Zy (v := (.string a1_1)) BK1002.out 1; obtain ⟨hcz8_2, hfz8_2⟩ := Zy (v := (.string a1_2)) BK1002.out 2; obtain ⟨hcz8_3, hfz8_3⟩ := Zy (v := (.int .i64 a1_3)) BK1002.out 3) | ((with_reducible refine Qay (f := 130) rfl ?_); refine goesL_ (some 13) rfl rfl Try.func130 (by kernel_rfl) rfl #[.string a0_0, .string a1_0] rfl (Zl) ?_; (with_reducible refine (Qbj.calls a0_0 a1_0 t1003 _ A3.out).mono ?_); rintro e w' ⟨rfl, ⟨nd, rfl⟩⟩; refine ⟨_, rfl, ?_⟩))
 (try simp only [Act.put, Zj, Zk, Zm])
 by_cases c9 : t1003 = 0
 ·rw [if_pos c9] at H
  have c9b0 : (t1003 == 0) = T := beq_iff_eq.mpr c9
  have c9b1 : (t1003 != 0) = F := bne_eq_false_iff_eq.mpr c9
  clear c9
  (try simp only [c9b0, c9b1])
  replace H := Option.bind_eq_some_iff.mp H
  obtain ⟨t1004, A100, H⟩ := H
  replace H : (if t1004 = 0 then ((Qbj.f a0_2 a1_2).bind fun t1005 => (some t1005)) else (some t1004)) = some r := H
  have A10 := Aside0.mk A100
  clear A100
  have hnb11 := NB1001_1002.out
  have hnc11 := NB1002_1001.out
  obtain ⟨hcz12_0, hfz12_0⟩ := Zy (v := (.string a0_0)) BK1001.out 0
  obtain ⟨hcz12_1, hfz12_1⟩ := Zy (v := (.string a0_1)) BK1001.out 1
  obtain ⟨hcz12_2, hfz12_2⟩ := Zy (v := (.string a0_2)) BK1001.out 2
  obtain ⟨hcz12_3, hfz12_3⟩ := Zy (v := (.int .i64 a0_3)) BK1001.out 3
  obtain ⟨hcz13_0, hfz13_0⟩ := Zy (v := (.string a1_0)) BK1002.out 0
  obtain ⟨hcz13_1, hfz13_1⟩ := Zy (v := (.string a1_1)) BK1002.out 1
  obtain ⟨hcz13_2, hfz13_2⟩ := Zy (v := (.string a1_2)) BK1002.out 2
  obtain ⟨hcz13_3, hfz13_3⟩ := Zy (v := (.int .i64 a1_3)) BK1002.out 3
  go_upto_if 25 with (first | ((with_reducible refine Qay (f := 130) rfl ?_); refine goesL_ (some 23) rfl rfl Try.func130 (by kernel_rfl) rfl #[.string a0_1, .string a1_1] rfl (Zl) ?_; (with_reducible refine (Qbj.calls a0_1 a1_1 t1004 _ A10.out).mono ?_); rintro e w' ⟨rfl, ⟨nd, rfl⟩⟩; refine ⟨_, rfl, ?_⟩))
  (try simp only [Act.put, Zj, Zk, Zm])
  by_cases c14 : t1004 = 0
  ·rw [if_pos c14] at H
   have c14b0 : (t1004 == 0) = T := beq_iff_eq.mpr c14
   have c14b1 : (t1004 != 0) = F := bne_eq_false_iff_eq.mpr c14
   clear c14
   (try simp only [c14b0, c14b1])
   replace H := Option.bind_eq_some_iff.mp H
   obtain ⟨t1005, A150, H⟩ := H
   replace H : (some t1005) = some r := H
   have A15 := Aside0.mk A150
   clear A150
   obtain rfl := Option.some.inj H
   have hnb16 := NB1001_1002.out
   have hnc16 := NB1002_1001.out
   obtain ⟨hcz17_0, hfz17_0⟩ := Zy (v := (.string a0_0)) BK1001.out 0
   obtain ⟨hcz17_1, hfz17_1⟩ := Zy (v := (.string a0_1)) BK1001.out 1
   obtain ⟨hcz17_2, hfz17_2⟩ := Zy (v := (.string a0_2)) BK1001.out 2
   obtain ⟨hcz17_3, hfz17_3⟩ := Zy (v := (.int .i64 a0_3)) BK1001.out 3
   obtain ⟨hcz18_0, hfz18_0⟩ := Zy (v := (.string a1_0)) BK1002.out 0
   obtain ⟨hcz18_1, hfz18_1⟩ := Zy (v := (.string a1_1)) BK1002.out 1
   obtain ⟨hcz18_2, hfz18_2⟩ := Zy (v := (.string a1_2)) BK1002.out 2
   obtain ⟨hcz18_3, hfz18_3⟩ := Zy (v := (.int .i64 a1_3)) BK1002.out 3
   go_wp2_with (first | ((with_reducible refine Qay (f := 130) rfl ?_); refine goesL_ (some 31) rfl rfl Try.func130 (by kernel_rfl) rfl #[.string a0_2, .string a1_2] rfl (Zl) ?_; (with_reducible refine (Qbj.calls a0_2 a1_2 t1005 _ A15.out).mono ?_); rintro e w' ⟨rfl, ⟨nd, rfl⟩⟩; refine ⟨_, rfl, ?_⟩))
   go_ret
   exact ⟨Zq, Zc2 GE1001.out GE1002.out⟩
  rw [if_neg c14] at H
  have c14b0 : (t1004 == 0) = F := beq_eq_false_iff_ne.mpr c14
  have c14b1 : (t1004 != 0) = T := bne_iff_ne.mpr c14
  (try simp only [c14b0, c14b1])
  obtain rfl := Option.some.inj H
  go_wp2
  go_ret
  exact ⟨Zq, Zc2 GE1001.out GE1002.out⟩
 rw [if_neg c9] at H
 have c9b0 : (t1003 == 0) = F := beq_eq_false_iff_ne.mpr c9
 have c9b1 : (t1003 != 0) = T := bne_iff_ne.mpr c9
 (try simp only [c9b0, c9b1])
 obtain rfl := Option.some.inj H
 go_wp2
 go_ret
 exact ⟨Zq, Zc2 GE1001.out GE1002.out⟩
def Qbz.f (a0 : Int) : Option (Bool) := if a0 ≥ 0 then (some (decide (a0 ≤ 1152921504606846976))) else (some F)
set_option maxHeartbeats 8000000 in
theorem Qbz.calls (a0 : Int) (r : Bool) (w : World) (h : Qbz.f a0 = some r) :
  Calls Try.prog 180 #[.int .i64 a0] w fun e w' => e = .returned (.bool r) ∧ Drawn0 w w' := by
 have H : (if a0 ≥ 0 then (some (decide (a0 ≤ 1152921504606846976))) else (some F)) = some r := h
 clear h
 by_cases c2 : a0 ≥ 0
 ·rw [if_pos c2] at H
  have c2b0 : decide (0 ≤ a0) = T := decide_eq_true c2
  clear c2
  obtain rfl := Option.some.inj H
  go_enter Try.func180, Try.ntmps180
  go_wp2
  go_ret
  exact ⟨Zs, Zd⟩
 rw [if_neg c2] at H
 have c2b0 : decide (0 ≤ a0) = F := decide_eq_false c2
 clear c2
 obtain rfl := Option.some.inj H
 go_enter Try.func180, Try.ntmps180
 go_wp2
 go_ret
 exact ⟨Zs, Zd⟩
def QbS.f (a0 : Int) (a1 : Int) : Option (Int × Int) := (Qbz.f a0).bind fun t1090 => (if t1090 = T then ((Qbz.f a1).bind fun t1091 => (if t1091 = T then (some (mx (wrap64 (a0 - a1)) 0, 0)) else (some (0, 2)))) else (some (0, 2)))
set_option maxHeartbeats 8000000 in
theorem QbS.calls (a0 : Int) (a1 : Int) (r1 : Int) (r2 : Int) (w : World) (h : QbS.f a0 a1 = some (r1, r2)) :
  Calls Try.prog 181 #[.int .i64 a0, .int .i64 a1] w fun e w' => e = .returned (.tuple #[.int .i64 r1, .int .i64 r2]) ∧ Below w.heap.size w w' := by
 have HB := Aside0.mk (Below.refl w.heap.size w)
 have H : ((Qbz.f a0).bind fun t1090 => (if t1090 = T then ((Qbz.f a1).bind fun t1091 => (if t1091 = T then (some (mx (wrap64 (a0 - a1)) 0, 0)) else (some (0, 2)))) else (some (0, 2)))) = some (r1, r2) := h
 clear h
 replace H := Option.bind_eq_some_iff.mp H
 obtain ⟨t1090, A30, H⟩ := H
 replace H : (if t1090 = T then ((Qbz.f a1).bind fun t1091 => (if t1091 = T then (some (mx (wrap64 (a0 - a1)) 0, 0)) else (some (0, 2)))) else (some (0, 2))) = some (r1, r2) := H
 have A3 := Aside0.mk A30
 clear A30
 by_cases c4 : t1090 = T
 ·subst c4
  have H1 : ((Qbz.f a1).bind fun t1091 => (if t1091 = T then (some (mx (wrap64 (a0 - a1)) 0, 0)) else (some (0, 2)))) = some (r1, r2) := by rw [if_pos rfl] at H; exact H
  clear H
  have H := H1
  clear H1
  replace H := Option.bind_eq_some_iff.mp H
  obtain ⟨t1091, A50, H⟩ := H
  replace H : (if t1091 = T then (some (mx (wrap64 (a0 - a1)) 0, 0)) else (some (0, 2))) = some (r1, r2) := H
  have A5 := Aside0.mk A50
  clear A50
  go_enter Try.func181, Try.ntmps181
  go_upto_if 13 with (first | ((with_reducible refine Qay (f := 180) rfl ?_); refine goesL_ (some 7) rfl rfl Try.func180 (by kernel_rfl) rfl #[.int .i64 a0] rfl (Zl) ?_; (with_reducible refine (Qbz.calls a0 T _ A3.out).mono ?_); rintro e w' ⟨rfl, ⟨nd, rfl⟩⟩; refine ⟨_, rfl, ?_⟩) | (go_at_call 180; (with_reducible refine (Qbz.calls a1 t1091 _ A5.out).mono ?_); rintro e w' ⟨rfl, ⟨nd, rfl⟩⟩))
  (try simp only [Act.put, Zj, Zk, Zm])
  by_cases c6 : t1091 = T
  ·subst c6
   have H1 : (some (mx (wrap64 (a0 - a1)) 0, 0)) = some (r1, r2) := by rw [if_pos rfl] at H; exact H
   clear H
   have H := H1
   clear H1
   obtain ⟨ji7, hji7⟩ : ∃ j_ : Int, (mx (wrap64 (a0 - a1)) 0) = j_ := ⟨_, rfl⟩
   replace H : (some (ji7, 0)) = some (r1, r2) := by first | (rw [hji7] at H; exact H) | (simp only [hji7] at H ⊢; exact H)
   (try (have hji7l : 0 ≤ ji7 := by (rw [← hji7]; unfold mx; (repeat' split) <;> omega)))
   (try (have hji7m : 0 ≤ ji7 := by omega))
   have hji7_ : (if (wrap64 (a0 - a1)) < 0 then 0 else (wrap64 (a0 - a1))) = ji7 := hji7
   simp only [Option.some.injEq, Prod.mk.injEq] at H
   obtain ⟨rfl, rfl⟩ := H
   go_wp2
   go_ret2
   exact ⟨by first | rfl | (simp [Qak, Qal] <;> rfl) | (simp only [← hji7]; first | rfl | (simp [Qak, Qal] <;> rfl)) | (simp [*, Qak, Qal] <;> rfl), Zb⟩
  replace c6 := Bool.eq_false_iff.mpr c6
  subst c6
  have H1 : (some (0, 2)) = some (r1, r2) := by rw [if_neg (show ¬ (F = T) by decide)] at H; exact H
  clear H
  have H := H1
  clear H1
  simp only [Option.some.injEq, Prod.mk.injEq] at H
  obtain ⟨rfl, rfl⟩ := H
  go_wp2
  go_ret2
  exact ⟨Zq, Zb⟩
 replace c4 := Bool.eq_false_iff.mpr c4
 subst c4
 have H1 : (some (0, 2)) = some (r1, r2) := by rw [if_neg (show ¬ (F = T) by decide)] at H; exact H
 clear H
 have H := H1
 clear H1
 simp only [Option.some.injEq, Prod.mk.injEq] at H
 obtain ⟨rfl, rfl⟩ := H
 go_enter Try.func181, Try.ntmps181
 go_wp2_with (first | ((with_reducible refine Qay (f := 180) rfl ?_); refine goesL_ (some 7) rfl rfl Try.func180 (by kernel_rfl) rfl #[.int .i64 a0] rfl (Zl) ?_; (with_reducible refine (Qbz.calls a0 F _ A3.out).mono ?_); rintro e w' ⟨rfl, ⟨nd, rfl⟩⟩; refine ⟨_, rfl, ?_⟩))
 go_ret2
 exact ⟨Zq, Zb⟩
end Go.Proofs.Ytgnmhfjfefgbfaa.Pr
