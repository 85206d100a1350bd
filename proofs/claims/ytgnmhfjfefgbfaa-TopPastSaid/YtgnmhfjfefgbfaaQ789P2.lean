/- Functions' values and contracts, as the print wrote them. -/
import Derived.Test.YtgnmhfjfefgbfaaQ789P0
import Derived.Test.YtgnmhfjfefgbfaaQ789P1
namespace Go.Proofs.Ytgnmhfjfefgbfaa.Pr
open Bool renaming true → T
open Bool renaming false → F
open Go.RowKit Go.Proofs.YtgnmhfjfefgbfaaW.PrintWords Go.Proofs.YtgnmhfjfefgbfaaW.PrintLast Go.Proofs.YtgnmhfjfefgbfaaW.PrintMore
attribute [local go_sem] QaL QaN QaT QaU QaJ QaK QaM QaO   -- for this text's walks alone
set_option linter.unusedVariables false
set_option linter.unusedSimpArgs false
set_option maxRecDepth 100000
set_option maxHeartbeats 8000000
mutual
def Qaz.j0 : Nat → List (S71) → List (S128) → List Int → Int → List (S128) → Bool → Option (List Int × Int)
 | 0, _, _, _, _, _, _ => none
 | k + 1, x0, x1, x4, x5, x6, x25 => if x25 = T then (some (([] : List Int), x5)) else (if 0 < (x1.length : Int) then (Qaz.l0 k x0 x4 x6 (((Qad x1 0).f1).length : Int) 0) else (none))
def Qaz.l0 : Nat → List (S71) → List Int → List (S128) → Int → Int → Option (List Int × Int)
 | 0, _, _, _, _, _ => none
 | k + 1, x0, x4, x6, x31, x32 => if x32 < x31 then (Qaz.l1 k x0 x4 x6 x32 ([] : List Int) x31 x32 x0 (x0.length : Int) 0) else (some (x4, 0))
def Qaz.l1 : Nat → List (S71) → List Int → List (S128) → Int → List Int → Int → Int → List (S71) → Int → Int → Option (List Int × Int)
 | 0, _, _, _, _, _, _, _, _, _, _ => none
 | k + 1, x0, x4, x6, x7, x8, x31, x32, x35, x36, x37 => if x37 < x36 then (if 0 ≤ x37 then (if x37 < (x35.length : Int) then (if x37 < (x6.length : Int) then (if 0 ≤ x7 then (if x7 < (((Qad x6 x37).f1).length : Int) then (if x8.length < 17592186044416 then (Qaz.l1 k x0 x4 x6 x7 (x8 ++ [wrap64 ((wrap64 (((rd_T71 x35 x37).f1) - ((rd_T71 x35 x37).f2))) * (rd ((Qad x6 x37).f1) x7))]) x31 x32 x35 x36 (wrap64 (x37 + 1))) else (none)) else (none)) else (none)) else (none)) else (none)) else (none)) else ((QaD.f k x8).bind fun bt146 => (if bt146.2 = 0 then (if x4.length < 17592186044416 then (Qaz.l0 k x0 (x4 ++ [bt146.1]) x6 x31 (wrap64 (x32 + 1))) else (none)) else (some (([] : List Int), bt146.2))))
end
def Qaz.f (k : Nat) (l0 : List (S71)) (l1 : List (S128)) : Option (List Int × Int) := (QaC.f k l0 l1).bind fun bt134 => (if bt134.2 = 0 then (Qaz.j0 k l0 l1 ([] : List Int) bt134.2 bt134.1 ((l1.length : Int) == 0)) else (Qaz.j0 k l0 l1 ([] : List Int) bt134.2 bt134.1 T))
theorem Qaz.mono_l : ∀ k, (∀ y0 y1 y2 y3 y4 y5, LeO (Qaz.j0 k y0 y1 y2 y3 y4 y5) (Qaz.j0 (k + 1) y0 y1 y2 y3 y4 y5)) ∧ (∀ y0 y1 y2 y3 y4, LeO (Qaz.l0 k y0 y1 y2 y3 y4) (Qaz.l0 (k + 1) y0 y1 y2 y3 y4)) ∧ (∀ y0 y1 y2 y3 y4 y5 y6 y7 y8 y9, LeO (Qaz.l1 k y0 y1 y2 y3 y4 y5 y6 y7 y8 y9) (Qaz.l1 (k + 1) y0 y1 y2 y3 y4 y5 y6 y7 y8 y9))
 | 0 => ⟨fun _ _ _ _ _ _ r h => by simp [Qaz.j0] at h, fun _ _ _ _ _ r h => by simp [Qaz.l0] at h, fun _ _ _ _ _ _ _ _ _ _ r h => by simp [Qaz.l1] at h⟩
 | k + 1 => by
  obtain ⟨ih0, ih1, ih2⟩ := Qaz.mono_l k
  refine ⟨?_, ?_, ?_⟩
  ·intro y0 y1 y2 y3 y4 y5
   unfold Qaz.j0
   exact ZM5 ih0 ih1 ih2 QaD.mono QaC.mono
  ·intro y0 y1 y2 y3 y4
   unfold Qaz.l0
   exact ZM5 ih0 ih1 ih2 QaD.mono QaC.mono
  intro y0 y1 y2 y3 y4 y5 y6 y7 y8 y9
  unfold Qaz.l1
  exact ZM5 ih0 ih1 ih2 QaD.mono QaC.mono
theorem Qaz.mono : ∀ a0 a1 k, LeO (Qaz.f k a0 a1) (Qaz.f (k + 1) a0 a1) := by
 intro a0 a1 k
 obtain ⟨ih0, ih1, ih2⟩ := Qaz.mono_l k
 unfold Qaz.f
 exact ZM5 ih0 ih1 ih2 QaD.mono QaC.mono
def Qaz.T11 : Bool × List (List Nat × List Nat) := (T, [([], []), ([], []), ([1], [1]), ([], []), ([3], [3]), ([2, 4], [2, 4]), ([], []), ([], []), ([6, 7], [6, 7]), ([8], [8]), ([9], [9]), ([], []), ([10, 11], [10, 11]), ([12], [12]), ([5, 13], [5, 13]), ([14], [14]), ([0, 15], [0, 15]), ([16, 16, 0, 1, 2, 3, 4, 5, 6, 7, 8, 9, 10, 11, 12, 13, 14, 15, 16], [0, 16])])
def Qaz.B11 : List Nat := [0, 0, 2, 0, 8, 30, 0, 0, 192, 448, 960, 0, 4032, 8128, 16382, 32766, 65535, 131071]
theorem Qaz.tab11 : rtab .any (opsOf Try.f24 11) = Qaz.T11 := by kernel_rfl
theorem Qaz.bits11 : Qa9 Qaz.T11.2 Qaz.B11 = T := by kernel_rfl
theorem Qaz.calls (k : Nat) (A0 : Option Addr) (c0 : Nat) (l0 : List (S71)) (A1 : Option Addr) (c1 : Nat) (l1 : List (S128)) (r1 : List Int) (r2 : Int) (w : World) (hr0 : Kd.C k71 w A0 l0.length l0) (hc0 : l0.length ≤ c0) (hr1 : Kd.C k128 w A1 l1.length l1) (hc1 : l1.length ≤ c1) (h : Qaz.f k l0 l1 = some (r1, r2)) :
  Calls Try.prog 24 #[.slice A0 l0.length c0, .slice A1 l1.length c1] w fun e w' => ∃ v0_ : Value, e = .returned (.tuple #[v0_, .int .i64 r2]) ∧ Kd.R (Kd.int .i64) 3 w' w.heap.size (fun _ => True) v0_ r1 ∧ Below w.heap.size w w' := by
 have hu71 := Try.underlying71
 have HR0 := Aside0.mk hr0
 have HC0 := Aside0.mk hc0
 clear hr0 hc0
 have HR1 := Aside0.mk hr1
 have HC1 := Aside0.mk hc1
 clear hr1 hc1
 have HB := Aside0.mk (Below.refl w.heap.size w)
 have H : ((QaC.f k l0 l1).bind fun bt134 => (if bt134.2 = 0 then (Qaz.j0 k l0 l1 ([] : List Int) bt134.2 bt134.1 ((l1.length : Int) == 0)) else (Qaz.j0 k l0 l1 ([] : List Int) bt134.2 bt134.1 T))) = some (r1, r2) := h
 clear h
 replace H := Option.bind_eq_some_iff.mp H
 obtain ⟨⟨t134, t137⟩, A30, H⟩ := H
 replace H : (if t137 = 0 then (Qaz.j0 k l0 l1 ([] : List Int) t137 t134 ((l1.length : Int) == 0)) else (Qaz.j0 k l0 l1 ([] : List Int) t137 t134 T)) = some (r1, r2) := H
 have A3 := Aside0.mk A30
 clear A30
 have HC4 := Aside0.mk H
 clear H
 go_enter Try.func24, Try.ntmps24
 go_upto_region 2 with (first | ((with_reducible refine QaI (f := 58) rfl ?_); refine goesL_ (some 16) rfl rfl Try.func58 (by kernel_rfl) rfl #[.slice A0 l0.length c0, .slice A1 l1.length c1] rfl (Zl) ?_; (with_reducible refine (QaC.calls k _ _ l0 (fun k_ => k_ < w.heap.size) _ _ l1 t134 t137 _ ?side1 ?side2 ?side3 A3.out).mono ?_); (case side1 => exact Zv HR0.out); (case side2 => exact HC0.out); (case side3 => exact Kd.V_mk HC1.out (Kd.F_below (Kd.C_F Qdc HR1.out) (Zb))); rintro e w5 ⟨v135, rfl, ho0, hb⟩; refine ⟨_, rfl, ?_⟩; have HO136 := Aside0.mk (Kd.N_lower (Kd.N_mono (ok' := fun k_ => True) ho0 (fun k_ hk_ => trivial)) (Qax (Zb))); replace HB := Aside0.mk (Qap (Zb) hb); (try clear hb); (try clear hb2); (try clear hk); (try clear hi); (try clear ho0)))
 (try simp only [Act.put, Zj, Zk, Zm])
 go_cut [25] (fun v25 wc => ∃ (kq : Nat) (x25_3 : Bool), v25 = .bool x25_3 ∧ Aside0 (Qaz.j0 kq l0 l1 ([] : List Int) t137 t134 x25_3 = some (r1, r2)) ∧ Aside0 (kq ≤ k) ∧ Aside0 (Kd.R (Kd.int .i64) 3 wc w.heap.size (fun _ => True) (.slice none 0 0) ([] : List Int)) ∧ Aside0 (Kd.N k128 128 wc w.heap.size (fun k_ => some k_ ≠ ((.slice none 0 0) : Value).ownBlock) v135 t134) ∧ Aside0 (Below w.heap.size w wc))
 case first =>
  have H := HC4.out
  clear HC4
  by_cases c6 : t137 = 0
  ·rw [if_pos c6] at H
   have c6b0 : (t137 == 0) = T := beq_iff_eq.mpr c6
   have c6b1 : (t137 != 0) = F := bne_eq_false_iff_eq.mpr c6
   clear c6
   have H' := Aside0.mk H
   clear H
   go_wp2
   go_meet
   case rel => exact ⟨_, (((l1.length : Int) == 0)), (Zs), H', ⟨by first | omega | exact Nat.le_refl _⟩, ⟨by first | exact Kd.R_nil _ _ _ _ _ | exact Kd.N_nil _ _ _ _ _ | exact Kd.V_nil _ _ _ _ _ | exact Kd.Q_nil _ _ _ _ _ | exact Kd.S_nil _ _ _ _ _⟩, ⟨by (with_reducible repeat (first | apply Kd.N_alloc | apply Kd.N_drewN | apply Kd.N_drew)); exact Kd.N_mono HO136.out (fun _ hk => (by simp [Value.ownBlock]))⟩, ⟨Zb⟩⟩
  rw [if_neg c6] at H
  have c6b0 : (t137 == 0) = F := beq_eq_false_iff_ne.mpr c6
  have c6b1 : (t137 != 0) = T := bne_iff_ne.mpr c6
  have H' := Aside0.mk H
  clear H
  go_wp2
  go_meet
  case rel => exact ⟨_, (T), (Zs), H', ⟨by first | omega | exact Nat.le_refl _⟩, ⟨by first | exact Kd.R_nil _ _ _ _ _ | exact Kd.N_nil _ _ _ _ _ | exact Kd.V_nil _ _ _ _ _ | exact Kd.Q_nil _ _ _ _ _ | exact Kd.S_nil _ _ _ _ _⟩, ⟨by (with_reducible repeat (first | apply Kd.N_alloc | apply Kd.N_drewN | apply Kd.N_drew)); exact Kd.N_mono HO136.out (fun _ hk => (by simp [Value.ownBlock]))⟩, ⟨Zb⟩⟩
 case rest =>
  clear HC4
  try clear c1
  try clear c2
  try clear p2
  try clear c5
  try clear c6
  try clear c6b0
  try clear c6b1
  obtain ⟨kq, x25_3, rfl, HA, HJ3, HO_4, HO_6, HB⟩ := hcut
  cases kq with
  | zero => exact absurd HA.out (by simp [Qaz.j0])
  | succ kj3 =>
   have H := HA.out
   clear HA
   simp only [Qaz.j0] at H
   by_cases c7 : x25_3 = T
   ·subst c7
    have H1 : (some (([] : List Int), t137)) = some (r1, r2) := by rw [if_pos rfl] at H; exact H
    clear H
    have H := H1
    clear H1
    simp only [Option.some.injEq, Prod.mk.injEq] at H
    obtain ⟨rfl, rfl⟩ := H
    go_wp2
    go_ret2
    exact ⟨_, Zq, by first | exact Kd.R_nil _ _ _ _ _ | exact Kd.N_nil _ _ _ _ _ | exact Kd.V_nil _ _ _ _ _ | exact Kd.Q_nil _ _ _ _ _ | exact Kd.S_nil _ _ _ _ _, Zb⟩
   replace c7 := Bool.eq_false_iff.mpr c7
   subst c7
   have H1 : (if 0 < (l1.length : Int) then (Qaz.l0 kj3 l0 ([] : List Int) t134 (((Qad l1 0).f1).length : Int) 0) else (none)) = some (r1, r2) := by rw [if_neg (show ¬ (F = T) by decide)] at H; exact H
   clear H
   have H := H1
   clear H1
   by_cases c8 : 0 < (l1.length : Int)
   ·rw [if_pos c8] at H
    have c8b0 : decide (0 < (l1.length : Int)) = T := decide_eq_true c8
    have c8b1 : decide (0 < l1.length) = T := decide_eq_true (by omega)
    clear c8
    (try simp only [c8b0, c8b1])
    have H' := Aside0.mk H
    clear H
    have p138 : 0 ≤ (0 : Int) := (by omega)
    have q138 : 0 < (l1.length : Int) := Ze
    obtain ⟨ad138, A138_4, c138_4, e138, hx138_0, hx138_1, hx138_2, hx138_3, hx138_4, hx138_5, hl138_4, hi138_4⟩ := Qbw HR1.out 0 p138 q138
    cases e138
    have qi138 : (0 < l1.length) = True := eq_true (by omega)
    (try rw [show ((0 : Int)).toNat = 0 from rfl] at hx138_0)
    (try rw [show 0 * 6 = 0 from rfl] at hx138_0)
    (try rw [Addr.add_zero'] at hx138_0)
    (try rw [show ((0 : Int)).toNat = 0 from rfl] at hx138_1)
    (try rw [show 0 * 6 = 0 from rfl] at hx138_1)
    (try rw [Addr.add_zero'] at hx138_1)
    (try rw [show ((0 : Int)).toNat = 0 from rfl] at hx138_2)
    (try rw [show 0 * 6 = 0 from rfl] at hx138_2)
    (try rw [Addr.add_zero'] at hx138_2)
    (try rw [show ((0 : Int)).toNat = 0 from rfl] at hx138_3)
    (try rw [show 0 * 6 = 0 from rfl] at hx138_3)
    (try rw [Addr.add_zero'] at hx138_3)
    (try rw [show ((0 : Int)).toNat = 0 from rfl] at hx138_4)
    (try rw [show 0 * 6 = 0 from rfl] at hx138_4)
    (try rw [Addr.add_zero'] at hx138_4)
    (try rw [show ((0 : Int)).toNat = 0 from rfl] at hx138_5)
    (try rw [show 0 * 6 = 0 from rfl] at hx138_5)
    (try rw [Addr.add_zero'] at hx138_5)
    replace hx138_0 := Zx HB.out hx138_0
    replace hx138_1 := Zx HB.out hx138_1
    replace hx138_2 := Zx HB.out hx138_2
    replace hx138_3 := Zx HB.out hx138_3
    replace hx138_4 := Zx HB.out hx138_4
    replace hx138_5 := Zx HB.out hx138_5
    have HR138_4 := Aside0.mk hi138_4
    have HC138_4 := Aside0.mk hl138_4
    clear hi138_4 hl138_4
    replace p138 := eq_true p138
    replace q138 := eq_true q138
    go_wp2
    go_loopg [4, 32] kj3 (fun kq v4 v32 w' => ∃ (x4_2 : List Int) (x32_2 : Int), v32 = .int .i64 x32_2 ∧ Aside0 (Qaz.l0 kq l0 x4_2 t134 (((Qad l1 0).f1).length : Int) x32_2 = some (r1, r2)) ∧ Aside0 (kq ≤ kj3) ∧ Aside0 (Kd.R (Kd.int .i64) 3 w' w.heap.size (fun _ => True) v4 x4_2) ∧ Aside0 (Kd.N k128 128 w' w.heap.size (fun k_ => some k_ ≠ (v4 : Value).ownBlock) v135 t134) ∧ Aside0 (Below w.heap.size w w'))
    case atStart => exact ⟨(([] : List Int)), (0), (Zs), H', ⟨Nat.le_refl _⟩, ⟨Zr HO_4.out⟩, ⟨by (with_reducible repeat (first | apply Kd.N_alloc | apply Kd.N_drewN | apply Kd.N_drew)); exact HO_6.out⟩, ⟨Zb⟩⟩
    case round =>
     clear H'
     try clear c1
     try clear p1
     try clear q1
     try clear hx1
     try clear qi1
     try clear c2
     try clear p2
     try clear c5
     try clear c6
     try clear c6b0
     try clear c6b1
     try clear c7
     try clear c8
     try clear c8b0
     try clear c8b1
     try clear hx138_0
     try clear hx138_1
     try clear hx138_2
     try clear hx138_3
     try clear hx138_4
     try clear hx138_5
     try clear p138
     try clear p2
     try clear q138
     obtain ⟨x4_2, x32_2, rfl, HA, HK2, HO_4, HO_6, HB⟩ := hrel
     cases gk with
     | zero => exact absurd HA.out (by simp [Qaz.l0])
     | succ k2 =>
      have H := HA.out
      clear HA
      simp only [Qaz.l0] at H
      by_cases c9 : x32_2 < (((Qad l1 0).f1).length : Int)
      ·rw [if_pos c9] at H
       have c9b0 : decide (x32_2 < (((Qad l1 0).f1).length : Int)) = T := decide_eq_true c9
       clear c9
       (try simp only [c9b0])
       have H' := Aside0.mk H
       clear H
       go_wp2
       go_loopg [8, 37] k2 (fun kq v8 v37 w' => ∃ (x8_3 : List Int) (x37_3 : Int), v37 = .int .i64 x37_3 ∧ Aside0 (Qaz.l1 kq l0 x4_2 t134 x32_2 x8_3 (((Qad l1 0).f1).length : Int) x32_2 l0 (l0.length : Int) x37_3 = some (r1, r2)) ∧ Aside0 (kq ≤ k2) ∧ Aside0 (Kd.R (Kd.int .i64) 3 w' w.heap.size (fun k_ => some k_ ≠ (v8 : Value).ownBlock) u4 x4_2) ∧ Aside0 (Kd.N k128 128 w' w.heap.size (fun k_ => some k_ ≠ (u4 : Value).ownBlock ∧ some k_ ≠ (v8 : Value).ownBlock) v135 t134) ∧ Aside0 (Kd.R (Kd.int .i64) 3 w' w.heap.size (fun k_ => some k_ ≠ (u4 : Value).ownBlock) v8 x8_3) ∧ Aside0 (Below w.heap.size w w'))
       case atStart => exact ⟨(([] : List Int)), (0), (Zs), H', ⟨Nat.le_refl _⟩, ⟨by (with_reducible repeat (first | apply Kd.R_alloc | apply Kd.R_drewN | apply Kd.R_drew)); exact Kd.R_mono HO_4.out (fun _ hk => (by simp [Value.ownBlock]))⟩, ⟨by (with_reducible repeat (first | apply Kd.N_alloc | apply Kd.N_drewN | apply Kd.N_drew)); exact Kd.N_mono HO_6.out (fun _ hk => ⟨hk, (by simp [Value.ownBlock])⟩)⟩, ⟨by first | exact Kd.R_nil _ _ _ _ _ | exact Kd.N_nil _ _ _ _ _ | exact Kd.V_nil _ _ _ _ _ | exact Kd.Q_nil _ _ _ _ _ | exact Kd.S_nil _ _ _ _ _⟩, ⟨Zb⟩⟩
       case round =>
        clear H'
        try clear c1
        try clear p1
        try clear q1
        try clear hx1
        try clear qi1
        try clear c2
        try clear p2
        try clear c5
        try clear c6
        try clear c6b0
        try clear c6b1
        try clear c7
        try clear c8
        try clear c8b0
        try clear c8b1
        try clear c9
        try clear c9b0
        try clear hx138_0
        try clear hx138_1
        try clear hx138_2
        try clear hx138_3
        try clear hx138_4
        try clear hx138_5
        try clear p1
        try clear p138
        try clear p2
        try clear q1
        try clear q138
        obtain ⟨x8_3, x37_3, rfl, HA, HK3, HO_4, HO_6, HO_8, HB⟩ := hrel
        cases gk with
        | zero => exact absurd HA.out (by simp [Qaz.l1])
        | succ k3 =>
         have H := HA.out
         clear HA
         simp only [Qaz.l1] at H
         by_cases c10 : x37_3 < (l0.length : Int)
         ·rw [if_pos c10] at H
          have c10b0 : decide (x37_3 < (l0.length : Int)) = T := decide_eq_true c10
          clear c10
          (try simp only [c10b0])
          by_cases c11 : 0 ≤ x37_3
          ·rw [if_pos c11] at H
           have c11b0 : decide (0 ≤ x37_3) = T := decide_eq_true c11
           clear c11
           by_cases c12 : x37_3 < (l0.length : Int)
           ·rw [if_pos c12] at H
            have c12b0 : decide (x37_3 < (l0.length : Int)) = T := decide_eq_true c12
            clear c12
            by_cases c13 : x37_3 < (t134.length : Int)
            ·rw [if_pos c13] at H
             have c13b0 : decide (x37_3 < (t134.length : Int)) = T := decide_eq_true c13
             clear c13
             by_cases c14 : 0 ≤ x32_2
             ·rw [if_pos c14] at H
              have c14b0 : decide (0 ≤ x32_2) = T := decide_eq_true c14
              clear c14
              by_cases c15 : x32_2 < (((Qad t134 x37_3).f1).length : Int)
              ·rw [if_pos c15] at H
               have c15b0 : decide (x32_2 < (((Qad t134 x37_3).f1).length : Int)) = T := decide_eq_true c15
               clear c15
               by_cases c16 : x8_3.length < 17592186044416
               ·rw [if_pos c16] at H
                have LMc16 := Aside0.mk c16
                clear c16
                obtain ⟨y143, hy143⟩ : ∃ y_ : List Int, y_ = (x8_3 ++ [wrap64 ((wrap64 (((rd_T71 l0 x37_3).f1) - ((rd_T71 l0 x37_3).f2))) * (rd ((Qad t134 x37_3).f1) x32_2))]) := ⟨_, rfl⟩
                replace H : (Qaz.l1 k3 l0 x4_2 t134 x32_2 y143 (((Qad l1 0).f1).length : Int) x32_2 l0 (l0.length : Int) (wrap64 (x37_3 + 1))) = some (r1, r2) := by first | (rw [hy143]; with_reducible exact H) | (have H2_ := (Option.bind_some _ _).symm.trans H; rw [hy143]; with_reducible exact H2_) | (have H2_ := (Option.bind_some _ _).symm.trans H; with_reducible exact H2_) | with_reducible exact H | (rw [hy143]; exact H) | exact H
                have Ny143 := Aside0.mk hy143
                clear hy143
                have H' := Aside0.mk H
                clear H
                have p139 : 0 ≤ (x37_3 : Int) := Ze
                have q139 : x37_3 < (l0.length : Int) := Ze
                obtain ⟨ad139, e139, hx139_0, hx139_1, hx139_2, hx139_3, hx139_4, hx139_5⟩ := at_T71 HR0.out x37_3 p139 q139
                cases e139
                replace hx139_0 := Zx HB.out hx139_0
                replace hx139_1 := Zx HB.out hx139_1
                replace hx139_2 := Zx HB.out hx139_2
                replace hx139_3 := Zx HB.out hx139_3
                replace hx139_4 := Zx HB.out hx139_4
                replace hx139_5 := Zx HB.out hx139_5
                replace p139 := eq_true p139
                replace q139 := eq_true q139
                try go_wp2_with (first | ((with_reducible refine QaR (N := 10) rfl ?_); (try (refine Qbh (by rfl) ?_; dsimp only)); refine Zbx (N := 10) (cs := #[.string (⟨#[]⟩ : ByteArray), .int .i64 0, .int .i64 0, .int .i64 0, .int .i64 0, .int .i64 0]) (t := 71) ?_; intro gb140 hg w17 hbox hb; have BK140 := Aside0.mk (hbox); have GW140 := Aside0.mk (Zt w hg (Zb)); have GE140 := GW140; replace HO_4 := Aside0.mk (Kd.R_below (Zr HO_4.out) hb); replace HO_6 := Aside0.mk (Kd.N_below (Kd.N_elderB (by (with_reducible repeat (first | apply Kd.N_alloc | apply Kd.N_drewN | apply Kd.N_drew)); exact HO_6.out) gb140 (Nat.le_of_eq hg.symm)) hb); replace HO_8 := Aside0.mk (Kd.R_below (Zr HO_8.out) hb); replace HB := Aside0.mk (Qap (Zb) hb); clear hb hbox hg; obtain ⟨hcz18_0, hfz18_0⟩ := Zy (v := (.string (⟨#[]⟩ : ByteArray))) BK140.out 0; obtain ⟨hcz18_1, hfz18_1⟩ := Zy (v := (.int .i64 0)) BK140.out 1; obtain ⟨hcz18_2, hfz18_2⟩ := Zy (v := (.int .i64 0)) BK140.out 2; obtain ⟨hcz18_3, hfz18_3⟩ := Zy (v := (.int .i64 0)) BK140.out 3; obtain ⟨hcz18_4, hfz18_4⟩ := Zy (v := (.int .i64 0)) BK140.out 4; obtain ⟨hcz18_5, hfz18_5⟩ := Zy (v := (.int .i64 0)) BK140.out 5))
                have n0_ : Aside0 (Kd.R (Kd.int .i64) 3 ((((((w17.setCell ⟨gb140, 0, none⟩ (.string ((rd_T71 l0 x37_3).f0.f0))).setCell ⟨gb140, 1, none⟩ (.int .i64 ((rd_T71 l0 x37_3).f0.f1))).setCell ⟨gb140, 2, none⟩ (.int .i64 ((rd_T71 l0 x37_3).f0.f2))).setCell ⟨gb140, 3, none⟩ (.int .i64 ((rd_T71 l0 x37_3).f0.f3))).setCell ⟨gb140, 4, none⟩ (.int .i64 ((rd_T71 l0 x37_3).f1))).setCell ⟨gb140, 5, none⟩ (.int .i64 ((rd_T71 l0 x37_3).f2))) w.heap.size (fun k_ => some k_ ≠ (u8 : Value).ownBlock) u4 x4_2) := ⟨by (with_reducible repeat (first | apply Kd.R_alloc | apply Kd.R_drewN | apply Kd.R_drew)); exact Kd.R_mono (Kd.R_far (p := ⟨gb140, 5, none⟩) (Kd.R_far (p := ⟨gb140, 4, none⟩) (Kd.R_far (p := ⟨gb140, 3, none⟩) (Kd.R_far (p := ⟨gb140, 2, none⟩) (Kd.R_far (p := ⟨gb140, 1, none⟩) (Kd.R_far (p := ⟨gb140, 0, none⟩) (Kd.R_types HO_4.out BK140.out (by decide)) (fun _ hk => hk.2) (.string ((rd_T71 l0 x37_3).f0.f0))) (fun _ hk => hk.2) (.int .i64 ((rd_T71 l0 x37_3).f0.f1))) (fun _ hk => hk.2) (.int .i64 ((rd_T71 l0 x37_3).f0.f2))) (fun _ hk => hk.2) (.int .i64 ((rd_T71 l0 x37_3).f0.f3))) (fun _ hk => hk.2) (.int .i64 ((rd_T71 l0 x37_3).f1))) (fun _ hk => hk.2) (.int .i64 ((rd_T71 l0 x37_3).f2))) (fun _ hk => hk.1)⟩
                have n1_ : Aside0 (Kd.N k128 128 ((((((w17.setCell ⟨gb140, 0, none⟩ (.string ((rd_T71 l0 x37_3).f0.f0))).setCell ⟨gb140, 1, none⟩ (.int .i64 ((rd_T71 l0 x37_3).f0.f1))).setCell ⟨gb140, 2, none⟩ (.int .i64 ((rd_T71 l0 x37_3).f0.f2))).setCell ⟨gb140, 3, none⟩ (.int .i64 ((rd_T71 l0 x37_3).f0.f3))).setCell ⟨gb140, 4, none⟩ (.int .i64 ((rd_T71 l0 x37_3).f1))).setCell ⟨gb140, 5, none⟩ (.int .i64 ((rd_T71 l0 x37_3).f2))) w.heap.size (fun k_ => some k_ ≠ (u4 : Value).ownBlock ∧ some k_ ≠ (u8 : Value).ownBlock ∧ k_ ≠ gb140) v135 t134) := ⟨by (with_reducible repeat (first | apply Kd.N_alloc | apply Kd.N_drewN | apply Kd.N_drew)); exact Kd.N_mono (Kd.N_far (p := ⟨gb140, 5, none⟩) (Kd.N_far (p := ⟨gb140, 4, none⟩) (Kd.N_far (p := ⟨gb140, 3, none⟩) (Kd.N_far (p := ⟨gb140, 2, none⟩) (Kd.N_far (p := ⟨gb140, 1, none⟩) (Kd.N_far (p := ⟨gb140, 0, none⟩) (Kd.N_mono HO_6.out (fun k_ hk => (⟨hk, hk.2⟩ : _ ∧ k_ ≠ gb140))) (fun _ hk => hk.2) (.string ((rd_T71 l0 x37_3).f0.f0))) (fun _ hk => hk.2) (.int .i64 ((rd_T71 l0 x37_3).f0.f1))) (fun _ hk => hk.2) (.int .i64 ((rd_T71 l0 x37_3).f0.f2))) (fun _ hk => hk.2) (.int .i64 ((rd_T71 l0 x37_3).f0.f3))) (fun _ hk => hk.2) (.int .i64 ((rd_T71 l0 x37_3).f1))) (fun _ hk => hk.2) (.int .i64 ((rd_T71 l0 x37_3).f2))) (fun _ hk => ⟨hk.1.1.1, ⟨hk.1.1.2, hk.1.2⟩⟩)⟩
                have n2_ : Aside0 (Kd.R (Kd.int .i64) 3 ((((((w17.setCell ⟨gb140, 0, none⟩ (.string ((rd_T71 l0 x37_3).f0.f0))).setCell ⟨gb140, 1, none⟩ (.int .i64 ((rd_T71 l0 x37_3).f0.f1))).setCell ⟨gb140, 2, none⟩ (.int .i64 ((rd_T71 l0 x37_3).f0.f2))).setCell ⟨gb140, 3, none⟩ (.int .i64 ((rd_T71 l0 x37_3).f0.f3))).setCell ⟨gb140, 4, none⟩ (.int .i64 ((rd_T71 l0 x37_3).f1))).setCell ⟨gb140, 5, none⟩ (.int .i64 ((rd_T71 l0 x37_3).f2))) w.heap.size (fun k_ => some k_ ≠ (u4 : Value).ownBlock) u8 x8_3) := ⟨by (with_reducible repeat (first | apply Kd.R_alloc | apply Kd.R_drewN | apply Kd.R_drew)); exact Kd.R_mono (Kd.R_far (p := ⟨gb140, 5, none⟩) (Kd.R_far (p := ⟨gb140, 4, none⟩) (Kd.R_far (p := ⟨gb140, 3, none⟩) (Kd.R_far (p := ⟨gb140, 2, none⟩) (Kd.R_far (p := ⟨gb140, 1, none⟩) (Kd.R_far (p := ⟨gb140, 0, none⟩) (Kd.R_types HO_8.out BK140.out (by decide)) (fun _ hk => hk.2) (.string ((rd_T71 l0 x37_3).f0.f0))) (fun _ hk => hk.2) (.int .i64 ((rd_T71 l0 x37_3).f0.f1))) (fun _ hk => hk.2) (.int .i64 ((rd_T71 l0 x37_3).f0.f2))) (fun _ hk => hk.2) (.int .i64 ((rd_T71 l0 x37_3).f0.f3))) (fun _ hk => hk.2) (.int .i64 ((rd_T71 l0 x37_3).f1))) (fun _ hk => hk.2) (.int .i64 ((rd_T71 l0 x37_3).f2))) (fun _ hk => hk.1)⟩
                have n3_ : Aside0 (((((((w17.setCell ⟨gb140, 0, none⟩ (.string ((rd_T71 l0 x37_3).f0.f0))).setCell ⟨gb140, 1, none⟩ (.int .i64 ((rd_T71 l0 x37_3).f0.f1))).setCell ⟨gb140, 2, none⟩ (.int .i64 ((rd_T71 l0 x37_3).f0.f2))).setCell ⟨gb140, 3, none⟩ (.int .i64 ((rd_T71 l0 x37_3).f0.f3))).setCell ⟨gb140, 4, none⟩ (.int .i64 ((rd_T71 l0 x37_3).f1))).setCell ⟨gb140, 5, none⟩ (.int .i64 ((rd_T71 l0 x37_3).f2))).heap[gb140]? = some (.cells #[.string ((rd_T71 l0 x37_3).f0.f0), .int .i64 ((rd_T71 l0 x37_3).f0.f1), .int .i64 ((rd_T71 l0 x37_3).f0.f2), .int .i64 ((rd_T71 l0 x37_3).f0.f3), .int .i64 ((rd_T71 l0 x37_3).f1), .int .i64 ((rd_T71 l0 x37_3).f2)] 71 (0, 0))) := ⟨Zp2 BK140.out⟩
                have n4_ : Aside0 (Below w.heap.size w ((((((w17.setCell ⟨gb140, 0, none⟩ (.string ((rd_T71 l0 x37_3).f0.f0))).setCell ⟨gb140, 1, none⟩ (.int .i64 ((rd_T71 l0 x37_3).f0.f1))).setCell ⟨gb140, 2, none⟩ (.int .i64 ((rd_T71 l0 x37_3).f0.f2))).setCell ⟨gb140, 3, none⟩ (.int .i64 ((rd_T71 l0 x37_3).f0.f3))).setCell ⟨gb140, 4, none⟩ (.int .i64 ((rd_T71 l0 x37_3).f1))).setCell ⟨gb140, 5, none⟩ (.int .i64 ((rd_T71 l0 x37_3).f2)))) := ⟨Zc1 GE140.out⟩
                (try clear HO_4)
                (try clear HO_6)
                (try clear HO_8)
                (try clear BK140)
                (try clear HB)
                generalize ((((((w17.setCell ⟨gb140, 0, none⟩ (.string ((rd_T71 l0 x37_3).f0.f0))).setCell ⟨gb140, 1, none⟩ (.int .i64 ((rd_T71 l0 x37_3).f0.f1))).setCell ⟨gb140, 2, none⟩ (.int .i64 ((rd_T71 l0 x37_3).f0.f2))).setCell ⟨gb140, 3, none⟩ (.int .i64 ((rd_T71 l0 x37_3).f0.f3))).setCell ⟨gb140, 4, none⟩ (.int .i64 ((rd_T71 l0 x37_3).f1))).setCell ⟨gb140, 5, none⟩ (.int .i64 ((rd_T71 l0 x37_3).f2))) = w19 at n0_ n1_ n2_ n3_ n4_ ⊢
                have HO_4 := n0_
                have HO_6 := n1_
                have HO_8 := n2_
                have BK140 := n3_
                have HB := n4_
                clear n0_ n1_ n2_ n3_ n4_
                replace HO_4 := Aside0.mk (Kd.R_drew HO_4.out)
                replace HO_6 := Aside0.mk (Kd.N_drew HO_6.out)
                replace HO_8 := Aside0.mk (Kd.R_drew HO_8.out)
                replace BK140 := Aside0.mk (Qag BK140.out)
                replace HB := Aside0.mk (Qab HB.out)
                obtain ⟨Ao21, co21, eo21⟩ := Kd.N_slice HO_6.out
                (first | subst eo21 | (injection eo21 with f1_ f2_ f3_; have f4_ := f1_.symm; have f5_ := f3_.symm; clear f1_ f2_ f3_; subst f4_; subst f5_))
                have p141 : 0 ≤ (x37_3 : Int) := Ze
                have q141 : x37_3 < (t134.length : Int) := Ze
                obtain ⟨ad141, A141_4, c141_4, e141, hx141_0, hx141_1, hx141_2, hx141_3, hx141_4, hx141_5, hl141_4, hi141_4⟩ := Qbw (Kd.N_reads' HO_6.out).2.2 x37_3 p141 q141
                cases e141
                obtain ⟨ce141, hce141, hMe141, hcc141⟩ := Kd.N_get HO_6.out z128 x37_3 p141 (by first | exact q141 | exact Ze | (have e_ := (Kd.N_reads' HO_6.out).1; omega))
                obtain ⟨ua141_4, uc141_4, rfl, ul141_4, ge141_4⟩ := Qb7 hMe141
                have hv141_4 := hcc141 4 _ rfl
                rw [QaX _ _ 4 (by omega)] at hv141_4
                replace hv141_4 := Option.some.inj (hv141_4.symm.trans hx141_4)
                injection hv141_4 with hva_ hvn_ hvc_
                rw [hva_] at ge141_4
                rw [hvc_] at ul141_4
                have HL141_4 := Aside0.mk (show Kd.V (Kd.int .i64) 3 _ w.heap.size _ _ ((Qad t134 x37_3).f1) from Kd.V_mk ul141_4 ge141_4)
                clear hva_ hvn_ hvc_ ge141_4 ul141_4
                clear hcc141 hce141
                have HR141_4 := Aside0.mk hi141_4
                have HC141_4 := Aside0.mk hl141_4
                clear hi141_4 hl141_4
                replace p141 := eq_true p141
                replace q141 := eq_true q141
                have p142 : 0 ≤ (x32_2 : Int) := Ze
                have q142 : x32_2 < (((Qad t134 x37_3).f1).length : Int) := Ze
                obtain ⟨ad142, e142, hx142_0⟩ := Kd.at_int (by repeat (first | (with_reducible exact HR141_4.out) | (with_reducible refine Kd.C_alloc ?_ _) | (with_reducible refine Kd.C_drewN ?_ _) | (with_reducible refine Kd.C_drew ?_) | exact HR141_4.out)) x32_2 p142 q142
                cases e142
                replace p142 := eq_true p142
                replace q142 := eq_true q142
                refine start_ (n := 18) (S := fun w' => w'.cell? ⟨gb140, 0, none⟩ = some (.string ((rd_T71 l0 x37_3).f0.f0)) ∧ w'.cell? ⟨gb140, 1, none⟩ = some (.int .i64 ((rd_T71 l0 x37_3).f0.f1)) ∧ w'.cell? ⟨gb140, 2, none⟩ = some (.int .i64 ((rd_T71 l0 x37_3).f0.f2)) ∧ w'.cell? ⟨gb140, 3, none⟩ = some (.int .i64 ((rd_T71 l0 x37_3).f0.f3)) ∧ w'.cell? ⟨gb140, 4, none⟩ = some (.int .i64 ((rd_T71 l0 x37_3).f1)) ∧ w'.cell? ⟨gb140, 5, none⟩ = some (.int .i64 ((rd_T71 l0 x37_3).f2)) ∧ w'.cell? (ad141.add ((x37_3).toNat * 6)) = some (.string ((Qad t134 x37_3).f0.f0)) ∧ w'.cell? ⟨(ad141.add ((x37_3).toNat * 6)).block, (ad141.add ((x37_3).toNat * 6)).off + 1, none⟩ = some (.int .i64 ((Qad t134 x37_3).f0.f1)) ∧ w'.cell? ⟨(ad141.add ((x37_3).toNat * 6)).block, (ad141.add ((x37_3).toNat * 6)).off + 2, none⟩ = some (.int .i64 ((Qad t134 x37_3).f0.f2)) ∧ w'.cell? ⟨(ad141.add ((x37_3).toNat * 6)).block, (ad141.add ((x37_3).toNat * 6)).off + 3, none⟩ = some (.int .i64 ((Qad t134 x37_3).f0.f3)) ∧ w'.cell? ⟨(ad141.add ((x37_3).toNat * 6)).block, (ad141.add ((x37_3).toNat * 6)).off + 4, none⟩ = some (.slice (some ad142) ((Qad t134 x37_3).f1).length c141_4) ∧ w'.cell? ⟨(ad141.add ((x37_3).toNat * 6)).block, (ad141.add ((x37_3).toNat * 6)).off + 5, none⟩ = some (.int .i64 ((Qad t134 x37_3).f2)) ∧ w'.cell? (ad142.add (x32_2).toNat) = some (.int .i64 (rd ((Qad t134 x37_3).f1) x32_2))) (ds := [15, 16]) #[F, F, F, F, F, F, F, F, F, F, F, F, F, F, F, F, F, F] (by kernel_rfl) rfl rfl ⟨(Qah BK140.out 0).trans rfl, (Qah BK140.out 1).trans rfl, (Qah BK140.out 2).trans rfl, (Qah BK140.out 3).trans rfl, (Qah BK140.out 4).trans rfl, (Qah BK140.out 5).trans rfl, hx141_0, hx141_1, hx141_2, hx141_3, hx141_4, hx141_5, hx142_0⟩ (fun hHeld => ?_); refine Qa0 Qaz.tab11 Qaz.bits11 (fun HT_ HW_ => ?_)
                generalize w19.drew = w20 at HO_4 HO_6 HO_8 BK140 HB HL141_4 HR141_4 hx141_0 hx141_1 hx141_2 hx141_3 hx141_4 hx141_5 hx142_0 hHeld ⊢
                refine Zsp (i := 0) (N := some 42) (pm 18 1) HT_ ?_
                refine Zsp (i := 1) (N := some 43) (pm 18 2) HT_ ?_
                refine Zsp (i := 3) (N := some 45) #[T, T, F, T, F, F, F, F, F, F, F, F, F, F, F, F, F, F] HT_ ?_
                refine Zsp (i := 6) (N := some 48) #[T, T, F, T, F, F, T, F, F, F, F, F, F, F, F, F, F, F] HT_ ?_
                refine Zsp (i := 7) (N := some 49) #[T, T, F, T, F, F, T, T, F, F, F, F, F, F, F, F, F, F] HT_ ?_
                refine Zsp (i := 8) (N := some 50) #[T, T, F, T, F, F, T, T, T, F, F, F, F, F, F, F, F, F] HT_ ?_
                refine Zsp (i := 9) (N := some 51) #[T, T, F, T, F, F, T, T, T, T, F, F, F, F, F, F, F, F] HT_ ?_
                refine Zsp (i := 11) (N := some 53) #[T, T, F, T, F, F, T, T, T, T, F, T, F, F, F, F, F, F] HT_ ?_
                refine Zst (i := 2) (N := some 44) #[T, T, T, T, F, F, T, T, T, T, F, T, F, F, F, F, F, F] HT_ HW_ hHeld ?_ (hy := by (refine Or.inl ⟨by rfl, ?_⟩; rintro w' ⟨s0, s1, s2, s3, s4, s5, s6, s7, s8, s9, s10, s11, s12⟩; go_simp; with_reducible rfl))
                refine Zst (i := 4) (N := some 46) #[T, T, T, T, T, F, T, T, T, T, F, T, F, F, F, F, F, F] HT_ HW_ hHeld ?_ (hy := by (refine Or.inl ⟨by rfl, ?_⟩; rintro w' ⟨s0, s1, s2, s3, s4, s5, s6, s7, s8, s9, s10, s11, s12⟩; go_simp; with_reducible rfl))
                refine Zsp (i := 5) (N := some 47) #[T, T, T, T, T, T, T, T, T, T, F, T, F, F, F, F, F, F] HT_ ?_
                refine Zst (i := 10) (N := some 52) (pm 18 12) HT_ HW_ hHeld ?_ (hy := by (refine Or.inl ⟨by rfl, ?_⟩; rintro w' ⟨s0, s1, s2, s3, s4, s5, s6, s7, s8, s9, s10, s11, s12⟩; go_simp; with_reducible rfl))
                refine Zsp (i := 12) (N := some 54) (pm 18 13) HT_ ?_
                refine Zst (i := 13) (N := some 55) (pm 18 14) HT_ HW_ hHeld ?_ (hy := by (refine Or.inl ⟨by rfl, ?_⟩; rintro w' ⟨s0, s1, s2, s3, s4, s5, s6, s7, s8, s9, s10, s11, s12⟩; go_simp; with_reducible rfl))
                refine Zsp (i := 14) (N := some 56) (pm 18 15) HT_ ?_
                refine last_ (i := 15) (N := some 57) #[T, T, T, T, T, T, T, T, T, T, T, T, T, T, T, T, F, F] rfl rfl (one_of HT_.out (by kernel_rfl)) (by decide) (fun K hK => ?_)
                refine value_ (w1 := ?_) (v := ?_) (by rfl) rfl ?_ ?_
                rotate_left 2
                ·go_simp
                 constructor
                 ·rfl
                 rfl
                refine hK.out _ _ ?_
                clear hK K
                refine norm_ (a' := ?_) ?_ ?_
                rotate_left
                ·show Act.put _ (some 57) _ = _
                 simp only [Act.put, Zj, Zk, Zm, i64_w, i32_w]
                 rfl
                refine last_ (i := 16) (N := some 58) #[T, T, T, T, T, T, T, T, T, T, T, T, T, T, T, T, T, F] rfl rfl (one_of HT_.out (by kernel_rfl)) (by decide) (fun K hK => ?_)
                refine Kd.R_append_step (Kd.int .i64) (w0 := w) w.heap.size (by rfl) (.tmp 42) (.tmp 57) 32 3 (.int .i64 0) 8 rfl Try.underlying32 info3 rfl (by decide) (by omega) u8 x8_3 (wrap64 ((wrap64 (((rd_T71 l0 x37_3).f1) - ((rd_T71 l0 x37_3).f2))) * (rd ((Qad t134 x37_3).f1) x32_2))) [.int .i64 (wrap64 ((wrap64 (((rd_T71 l0 x37_3).f1) - ((rd_T71 l0 x37_3).f2))) * (rd ((Qad t134 x37_3).f1) x32_2)))] (fun k_ => some k_ ≠ (u4 : Value).ownBlock) (fun _ => False) rfl rfl ?aP (fun _ hk => hk.elim) ?aF ?aO ?aB ?aS ?aL ?_
                (case aP => exact rfl)
                (case aB => exact (Zc1 GE140.out))
                (case aF => exact (fun k_ hk => Kd.fresh' (Kd.R_lt (Zr HO_4.out)) k_ hk))
                (case aO => exact (Zr HO_8.out))
                (case aS => exact (Qax (Zc1 GE140.out)))
                (case aL => have := LMc16.out; omega)
                intro v144 w22 ho hb hg hat
                rw [← Ny143.out] at ho
                have HO145 := Aside0.mk (ho)
                replace HO_4 := Aside0.mk (Kd.R_after (ok := (fun _ => True)) (by (with_reducible repeat (first | apply Kd.R_alloc | apply Kd.R_drewN | apply Kd.R_drew)); exact Kd.R_mono HO_4.out (fun _ hk => ⟨trivial, hk⟩)) hg hat)
                replace HO_6 := Aside0.mk (Kd.N_afterv (ok := (fun k_ => some k_ ≠ (u4 : Value).ownBlock ∧ k_ ≠ gb140)) (by (with_reducible repeat (first | apply Kd.N_alloc | apply Kd.N_drewN | apply Kd.N_drew)); exact Kd.N_mono HO_6.out (fun _ hk => ⟨⟨hk.1, hk.2.2⟩, hk.2.1⟩)) hg hat)
                replace BK140 := Aside0.mk (QaY (g := gb140) (o := .cells #[.string ((rd_T71 l0 x37_3).f0.f0), .int .i64 ((rd_T71 l0 x37_3).f0.f1), .int .i64 ((rd_T71 l0 x37_3).f0.f2), .int .i64 ((rd_T71 l0 x37_3).f0.f3), .int .i64 ((rd_T71 l0 x37_3).f1), .int .i64 ((rd_T71 l0 x37_3).f2)] 71 (0, 0)) (Zu BK140.out) hg (Kd.R_ne HO_8.out BK140.out (by decide)))
                replace HL141_4 := Aside0.mk (Kd.V_afterv (ok := (fun k_ => some k_ ≠ (u4 : Value).ownBlock ∧ some k_ ≠ (.slice (some ad141) t134.length co21 : Value).ownBlock ∧ k_ ≠ gb140)) (by (with_reducible repeat (first | apply Kd.V_alloc | apply Kd.V_drewN | apply Kd.V_drew)); exact Kd.V_mono HL141_4.out (fun _ hk => ⟨⟨hk.1.1, ⟨hk.2, hk.1.2.2⟩⟩, hk.1.2.1⟩)) hg hat)
                replace HB := Aside0.mk (hb)
                clear HO_8
                clear ho hb hg hat
                refine hK.out _ _ ?_
                clear hK K
                refine norm_ (a' := ?_) ?_ ?_
                rotate_left
                ·show Act.put _ (some 58) _ = _
                 simp only [Act.put, Zj, Zk, Zm, i64_w, i32_w]
                 rfl
                refine Zsp (i := 17) (N := some 8) (pm 18 18) HT_ ?_
                refine done_ (Qa7 HT_.out (by kernel_rfl)) ?_
                try go_wp2
                go_roundg k3
                case measure => have := HJ3.out; have := HK2.out; have := HK3.out; omega
                case rel => exact ⟨(y143), (wrap64 (x37_3 + 1)), (Zs), H', ⟨by have := HJ3.out; have := HK2.out; have := HK3.out; omega⟩, ⟨by (with_reducible repeat (first | apply Kd.R_alloc | apply Kd.R_drewN | apply Kd.R_drew)); exact Kd.R_mono HO_4.out (fun _ hk => hk.2)⟩, ⟨by (with_reducible repeat (first | apply Kd.N_alloc | apply Kd.N_drewN | apply Kd.N_drew)); exact Kd.N_mono HO_6.out (fun _ hk => ⟨hk.1.1, hk.2⟩)⟩, ⟨Zr HO145.out⟩, ⟨Zc1 GE140.out⟩⟩
               rw [if_neg c16] at H
               exact absurd H (by simp)
              rw [if_neg c15] at H
              exact absurd H (by simp)
             rw [if_neg c14] at H
             exact absurd H (by simp)
            rw [if_neg c13] at H
            exact absurd H (by simp)
           rw [if_neg c12] at H
           exact absurd H (by simp)
          rw [if_neg c11] at H
          exact absurd H (by simp)
         rw [if_neg c10] at H
         have c10b0 : decide (x37_3 < (l0.length : Int)) = F := decide_eq_false c10
         clear c10
         (try simp only [c10b0])
         replace H := Option.bind_eq_some_iff.mp H
         obtain ⟨⟨t146, t147⟩, A230, H⟩ := H
         replace H : (if t147 = 0 then (if x4_2.length < 17592186044416 then (Qaz.l0 k3 l0 (x4_2 ++ [t146]) t134 (((Qad l1 0).f1).length : Int) (wrap64 (x32_2 + 1))) else (none)) else (some (([] : List Int), t147))) = some (r1, r2) := H
         have A23 := Aside0.mk A230
         clear A230
         obtain ⟨Ao24, co24, eo24⟩ := Kd.R_slice HO_8.out
         subst eo24
         go_upto_if 66 with (first | ((with_reducible refine QaI (f := 56) rfl ?_); refine goesL_ (some 62) rfl rfl Try.func56 (by kernel_rfl) rfl #[.slice Ao24 x8_3.length co24] rfl (Zl) ?_; (with_reducible refine (QaD.calls k3 _ _ x8_3 t146 t147 _ ?side1 ?side2 A23.out).mono ?_); (case side1 => exact Zv (Kd.R_reads' HO_8.out).2.2); (case side2 => exact (Kd.R_reads' HO_8.out).2.1); rintro e w' ⟨rfl, ⟨nd, rfl⟩⟩; refine ⟨_, rfl, ?_⟩))
         (try simp only [Act.put, Zj, Zk, Zm])
         by_cases c25 : t147 = 0
         ·rw [if_pos c25] at H
          have c25b0 : (t147 == 0) = T := beq_iff_eq.mpr c25
          have c25b1 : (t147 != 0) = F := bne_eq_false_iff_eq.mpr c25
          clear c25
          (try simp only [c25b0, c25b1])
          by_cases c26 : x4_2.length < 17592186044416
          ·rw [if_pos c26] at H
           have LMc26 := Aside0.mk c26
           clear c26
           obtain ⟨y148, hy148⟩ : ∃ y_ : List Int, y_ = (x4_2 ++ [t146]) := ⟨_, rfl⟩
           replace H : (Qaz.l0 k3 l0 y148 t134 (((Qad l1 0).f1).length : Int) (wrap64 (x32_2 + 1))) = some (r1, r2) := by first | (rw [hy148]; with_reducible exact H) | (have H2_ := (Option.bind_some _ _).symm.trans H; rw [hy148]; with_reducible exact H2_) | (have H2_ := (Option.bind_some _ _).symm.trans H; with_reducible exact H2_) | with_reducible exact H | (rw [hy148]; exact H) | exact H
           have Ny148 := Aside0.mk hy148
           clear hy148
           have H' := Aside0.mk H
           clear H
           go_wp2_with (first | ((with_reducible refine Qa8 (b := .append) (xs := #[.tmp 68, .tmp 70]) rfl ?_); (try (refine Qbh (by rfl) ?_; dsimp only)); at_builtin; refine Kd.R_append (Kd.int .i64) (w0 := w) w.heap.size rfl (.tmp 68) (.tmp 70) 32 3 (.int .i64 0) 8 rfl Try.underlying32 info3 rfl (by decide) (by omega) u4 x4_2 t146 [.int .i64 t146] (fun k_ => some k_ ≠ (.slice Ao24 x8_3.length co24 : Value).ownBlock) (fun _ => False) rfl rfl ?aP (fun _ hk => hk.elim) ?aF ?aO ?aB ?aS ?aL ?_; (case aP => exact rfl); (case aB => exact (Zb)); (case aF => exact (fun k_ hk => Kd.fresh' (Kd.R_lt (Zr HO_8.out)) k_ hk)); (case aO => exact (Zr HO_4.out)); (case aS => exact (Qax (Zb))); (case aL => have := LMc26.out; omega); intro v149 w27 ho hb hg hat; rw [← Ny148.out] at ho; have HO150 := Aside0.mk (ho); replace HO_6 := Aside0.mk (Kd.N_afterv (ok := (fun k_ => some k_ ≠ (.slice Ao24 x8_3.length co24 : Value).ownBlock)) (by (with_reducible repeat (first | apply Kd.N_alloc | apply Kd.N_drewN | apply Kd.N_drew)); exact Kd.N_mono HO_6.out (fun _ hk => ⟨hk.2, hk.1⟩)) hg hat); replace HO_8 := Aside0.mk (Kd.R_after (ok := (fun _ => True)) (by (with_reducible repeat (first | apply Kd.R_alloc | apply Kd.R_drewN | apply Kd.R_drew)); exact Kd.R_mono HO_8.out (fun _ hk => ⟨trivial, hk⟩)) hg hat); replace HB := Aside0.mk (hb); clear HO_4; clear ho hb hg hat))
           go_roundg k3
           case measure => have := HJ3.out; have := HK2.out; have := HK3.out; omega
           case rel => exact ⟨(y148), (wrap64 (x32_2 + 1)), (Zs), H', ⟨by have := HJ3.out; have := HK2.out; have := HK3.out; omega⟩, ⟨by (with_reducible repeat (first | apply Kd.R_alloc | apply Kd.R_drewN | apply Kd.R_drew)); exact Kd.R_mono HO150.out (fun _ hk => trivial)⟩, ⟨by (with_reducible repeat (first | apply Kd.N_alloc | apply Kd.N_drewN | apply Kd.N_drew)); exact Kd.N_mono HO_6.out (fun _ hk => hk.2)⟩, ⟨Zb⟩⟩
          rw [if_neg c26] at H
          exact absurd H (by simp)
         rw [if_neg c25] at H
         have c25b0 : (t147 == 0) = F := beq_eq_false_iff_ne.mpr c25
         have c25b1 : (t147 != 0) = T := bne_iff_ne.mpr c25
         (try simp only [c25b0, c25b1])
         simp only [Option.some.injEq, Prod.mk.injEq] at H
         obtain ⟨rfl, rfl⟩ := H
         go_wp2
         go_ret2
         exact ⟨_, Zq, by first | exact Kd.R_nil _ _ _ _ _ | exact Kd.N_nil _ _ _ _ _ | exact Kd.V_nil _ _ _ _ _ | exact Kd.Q_nil _ _ _ _ _ | exact Kd.S_nil _ _ _ _ _, Zb⟩
      rw [if_neg c9] at H
      have c9b0 : decide (x32_2 < (((Qad l1 0).f1).length : Int)) = F := decide_eq_false c9
      clear c9
      (try simp only [c9b0])
      simp only [Option.some.injEq, Prod.mk.injEq] at H
      obtain ⟨rfl, rfl⟩ := H
      go_wp2
      go_ret2
      exact ⟨_, Zq, Zr HO_4.out, Zb⟩
   rw [if_neg c8] at H
   exact absurd H (by simp)
def QaG.l0 : Nat → Int → Int → Int → List Int → Int → Int → Option (Int × Int × Int)
 | 0, _, _, _, _, _, _ => none
 | k + 1, x4, x5, x6, x16, x17, x18 => if x18 < x17 then (if 0 ≤ x18 then (if x18 < (x16.length : Int) then (if (rd x16 x18) > x4 then (QaG.l0 k (rd x16 x18) x18 x6 x16 x17 (wrap64 (x18 + 1))) else (QaG.l0 k x4 x5 x6 x16 x17 (wrap64 (x18 + 1)))) else (none)) else (none)) else (some (x4, x5, x6))
def QaG.f (k : Nat) (l0 : List (S71)) (l1 : List (S128)) : Option (Int × Int × Int) := (Qaz.f k l0 l1).bind fun bt151 => (QaG.l0 k 0 0 bt151.2 bt151.1 (bt151.1.length : Int) 0)
theorem QaG.mono_l : ∀ k, (∀ y0 y1 y2 y3 y4 y5, LeO (QaG.l0 k y0 y1 y2 y3 y4 y5) (QaG.l0 (k + 1) y0 y1 y2 y3 y4 y5))
 | 0 => fun _ _ _ _ _ _ r h => by simp [QaG.l0] at h
 | k + 1 => by
  have ih0 := QaG.mono_l k
  intro y0 y1 y2 y3 y4 y5
  unfold QaG.l0
  exact ZM2 ih0 Qaz.mono
theorem QaG.mono : ∀ a0 a1 k, LeO (QaG.f k a0 a1) (QaG.f (k + 1) a0 a1) := by
 intro a0 a1 k
 have ih0 := QaG.mono_l k
 unfold QaG.f
 exact ZM2 ih0 Qaz.mono
theorem QaG.calls (k : Nat) (A0 : Option Addr) (c0 : Nat) (l0 : List (S71)) (A1 : Option Addr) (c1 : Nat) (l1 : List (S128)) (r1 : Int) (r2 : Int) (r3 : Int) (w : World) (hr0 : Kd.C k71 w A0 l0.length l0) (hc0 : l0.length ≤ c0) (hr1 : Kd.C k128 w A1 l1.length l1) (hc1 : l1.length ≤ c1) (h : QaG.f k l0 l1 = some (r1, r2, r3)) :
  Calls Try.prog 15 #[.slice A0 l0.length c0, .slice A1 l1.length c1] w fun e w' => e = .returned (.tuple #[.int .i64 r1, .int .i64 r2, .int .i64 r3]) ∧ Below w.heap.size w w' := by
 have HR0 := Aside0.mk hr0
 have HC0 := Aside0.mk hc0
 clear hr0 hc0
 have HR1 := Aside0.mk hr1
 have HC1 := Aside0.mk hc1
 clear hr1 hc1
 have HB := Aside0.mk (Below.refl w.heap.size w)
 have H : ((Qaz.f k l0 l1).bind fun bt151 => (QaG.l0 k 0 0 bt151.2 bt151.1 (bt151.1.length : Int) 0)) = some (r1, r2, r3) := h
 clear h
 replace H := Option.bind_eq_some_iff.mp H
 obtain ⟨⟨t151, t152⟩, A30, H⟩ := H
 replace H : (QaG.l0 k 0 0 t152 t151 (t151.length : Int) 0) = some (r1, r2, r3) := H
 have A3 := Aside0.mk A30
 clear A30
 have H' := Aside0.mk H
 clear H
 go_enter Try.func15, Try.ntmps15
 go_wp2_with (first | ((with_reducible refine QaI (f := 24) rfl ?_); refine goesL_ (some 13) rfl rfl Try.func24 (by kernel_rfl) rfl #[.slice A0 l0.length c0, .slice A1 l1.length c1] rfl (Zl) ?_; (with_reducible refine (Qaz.calls k _ _ l0 _ _ l1 t151 t152 _ ?side1 ?side2 ?side3 ?side4 A3.out).mono ?_); (case side1 => exact Zv HR0.out); (case side2 => exact HC0.out); (case side3 => exact Zv HR1.out); (case side4 => exact HC1.out); rintro e w4 ⟨v153, rfl, ho0, hb⟩; refine ⟨_, rfl, ?_⟩; have HO154 := Aside0.mk (Kd.R_lower ho0 (Qax (Zb))); replace HB := Aside0.mk (Qap (Zb) hb); (try clear hb); (try clear hb2); (try clear hk); (try clear hi); (try clear ho0); obtain ⟨Ao5, co5, eo5⟩ := Kd.R_slice HO154.out; subst eo5))
 go_loopg [4, 5, 18] k (fun kq v4 v5 v18 w' => ∃ (x4_1 : Int) (x5_1 : Int) (x18_1 : Int), v4 = .int .i64 x4_1 ∧ v5 = .int .i64 x5_1 ∧ v18 = .int .i64 x18_1 ∧ Aside0 (QaG.l0 kq x4_1 x5_1 t152 t151 (t151.length : Int) x18_1 = some (r1, r2, r3)) ∧ Aside0 (kq ≤ k) ∧ Aside0 (Kd.R (Kd.int .i64) 3 w' w.heap.size (fun _ => True) (.slice Ao5 t151.length co5) t151) ∧ Aside0 (Below w.heap.size w w'))
 case atStart => exact ⟨(0), (0), (0), (Zs), (Zs), (Zs), H', ⟨Nat.le_refl _⟩, ⟨Zr HO154.out⟩, ⟨Zb⟩⟩
 case round =>
  clear H'
  try clear c1
  try clear c2
  try clear p2
  obtain ⟨x4_1, x5_1, x18_1, rfl, rfl, rfl, HA, HK1, HO_16, HB⟩ := hrel
  cases gk with
  | zero => exact absurd HA.out (by simp [QaG.l0])
  | succ k1 =>
   have H := HA.out
   clear HA
   simp only [QaG.l0] at H
   by_cases c6 : x18_1 < (t151.length : Int)
   ·rw [if_pos c6] at H
    have c6b0 : decide (x18_1 < (t151.length : Int)) = T := decide_eq_true c6
    clear c6
    (try simp only [c6b0])
    by_cases c7 : 0 ≤ x18_1
    ·rw [if_pos c7] at H
     have c7b0 : decide (0 ≤ x18_1) = T := decide_eq_true c7
     clear c7
     by_cases c8 : x18_1 < (t151.length : Int)
     ·rw [if_pos c8] at H
      have c8b0 : decide (x18_1 < (t151.length : Int)) = T := decide_eq_true c8
      clear c8
      have p155 : 0 ≤ (x18_1 : Int) := Ze
      have q155 : x18_1 < (t151.length : Int) := Ze
      obtain ⟨ad155, e155, hx155_0⟩ := Kd.at_int (Kd.R_reads' HO_16.out).2.2 x18_1 p155 q155
      cases e155
      replace p155 := eq_true p155
      replace q155 := eq_true q155
      go_upto_if 25 with (fail)
      by_cases c9 : (rd t151 x18_1) > x4_1
      ·rw [if_pos c9] at H
       have c9b0 : decide (x4_1 < (rd t151 x18_1)) = T := decide_eq_true c9
       clear c9
       (try simp only [c9b0])
       have H' := Aside0.mk H
       clear H
       go_wp2
       go_roundg k1
       case measure => have := HK1.out; omega
       case rel => exact ⟨(rd t151 x18_1), (x18_1), (wrap64 (x18_1 + 1)), (Zs), (Zs), (Zs), H', ⟨by have := HK1.out; omega⟩, ⟨Zr HO_16.out⟩, ⟨Zb⟩⟩
      rw [if_neg c9] at H
      have c9b0 : decide (x4_1 < (rd t151 x18_1)) = F := decide_eq_false c9
      clear c9
      (try simp only [c9b0])
      have H' := Aside0.mk H
      clear H
      go_wp2
      go_roundg k1
      case measure => have := HK1.out; omega
      case rel => exact ⟨(x4_1), (x5_1), (wrap64 (x18_1 + 1)), (Zs), (Zs), (Zs), H', ⟨by have := HK1.out; omega⟩, ⟨Zr HO_16.out⟩, ⟨Zb⟩⟩
     rw [if_neg c8] at H
     exact absurd H (by simp)
    rw [if_neg c7] at H
    exact absurd H (by simp)
   rw [if_neg c6] at H
   have c6b0 : decide (x18_1 < (t151.length : Int)) = F := decide_eq_false c6
   clear c6
   (try simp only [c6b0])
   simp only [Option.some.injEq, Prod.mk.injEq] at H
   obtain ⟨rfl, rfl, rfl⟩ := H
   go_wp2
   go_ret3
   exact ⟨Zq, Zb⟩
def Qav.f (k : Nat)  : Option (Bool) := (QaG.f k (([(⟨(⟨(⟨#[111, 105, 108]⟩ : ByteArray), 1, 20, 0⟩ : S69), 1, 0⟩ : S71), (⟨(⟨(⟨#[111, 105, 108]⟩ : ByteArray), 3, 20, 5⟩ : S69), 2, 0⟩ : S71)] : List (S71))) (([(⟨(⟨(⟨#[111, 105, 108]⟩ : ByteArray), 1, 20, 0⟩ : S69), (([(-100), 0, 100] : List Int)), 1000⟩ : S128), (⟨(⟨(⟨#[111, 105, 108]⟩ : ByteArray), 3, 20, 5⟩ : S69), (([60, 10, (-20)] : List Int)), (-400)⟩ : S128)] : List (S128)))).bind fun bt170 => (if bt170.1 = 60 then (if bt170.2.1 = 2 then (some (bt170.2.2 == 0)) else (some F)) else (some F))
theorem Qav.mono : ∀ k, LeO (Qav.f k ) (Qav.f (k + 1) ) := by
 intro  k
 unfold Qav.f
 exact ZM1 QaG.mono
theorem Qav.calls (k : Nat)  (r : Bool) (w : World) (h : Qav.f k  = some r) :
  Calls Try.prog 10 #[] w fun e w' => e = .returned (.bool r) ∧ Below w.heap.size w w' := by
 have hu69 := Try.underlying69
 have hu128 := Try.underlying128
 have hu71 := Try.underlying71
 have HB := Aside0.mk (Below.refl w.heap.size w)
 have H : ((QaG.f k (([(⟨(⟨(⟨#[111, 105, 108]⟩ : ByteArray), 1, 20, 0⟩ : S69), 1, 0⟩ : S71), (⟨(⟨(⟨#[111, 105, 108]⟩ : ByteArray), 3, 20, 5⟩ : S69), 2, 0⟩ : S71)] : List (S71))) (([(⟨(⟨(⟨#[111, 105, 108]⟩ : ByteArray), 1, 20, 0⟩ : S69), (([(-100), 0, 100] : List Int)), 1000⟩ : S128), (⟨(⟨(⟨#[111, 105, 108]⟩ : ByteArray), 3, 20, 5⟩ : S69), (([60, 10, (-20)] : List Int)), (-400)⟩ : S128)] : List (S128)))).bind fun bt170 => (if bt170.1 = 60 then (if bt170.2.1 = 2 then (some (bt170.2.2 == 0)) else (some F)) else (some F))) = some r := h
 clear h
 obtain ⟨y158, hy158⟩ : ∃ y_ : List Int, y_ = (([(-100), 0, 100] : List Int)) := ⟨_, rfl⟩
 replace H : ((QaG.f k (([(⟨(⟨(⟨#[111, 105, 108]⟩ : ByteArray), 1, 20, 0⟩ : S69), 1, 0⟩ : S71), (⟨(⟨(⟨#[111, 105, 108]⟩ : ByteArray), 3, 20, 5⟩ : S69), 2, 0⟩ : S71)] : List (S71))) (([(⟨(⟨(⟨#[111, 105, 108]⟩ : ByteArray), 1, 20, 0⟩ : S69), y158, 1000⟩ : S128), (⟨(⟨(⟨#[111, 105, 108]⟩ : ByteArray), 3, 20, 5⟩ : S69), (([60, 10, (-20)] : List Int)), (-400)⟩ : S128)] : List (S128)))).bind fun bt170 => (if bt170.1 = 60 then (if bt170.2.1 = 2 then (some (bt170.2.2 == 0)) else (some F)) else (some F))) = some r := by first | (rw [hy158]; with_reducible exact H) | (have H2_ := (Option.bind_some _ _).symm.trans H; rw [hy158]; with_reducible exact H2_) | (have H2_ := (Option.bind_some _ _).symm.trans H; with_reducible exact H2_) | with_reducible exact H | (rw [hy158]; exact H) | exact H
 have Ny158 := Aside0.mk hy158
 clear hy158
 obtain ⟨y161, hy161⟩ : ∃ y_ : List Int, y_ = (([60, 10, (-20)] : List Int)) := ⟨_, rfl⟩
 replace H : ((QaG.f k (([(⟨(⟨(⟨#[111, 105, 108]⟩ : ByteArray), 1, 20, 0⟩ : S69), 1, 0⟩ : S71), (⟨(⟨(⟨#[111, 105, 108]⟩ : ByteArray), 3, 20, 5⟩ : S69), 2, 0⟩ : S71)] : List (S71))) (([(⟨(⟨(⟨#[111, 105, 108]⟩ : ByteArray), 1, 20, 0⟩ : S69), y158, 1000⟩ : S128), (⟨(⟨(⟨#[111, 105, 108]⟩ : ByteArray), 3, 20, 5⟩ : S69), y161, (-400)⟩ : S128)] : List (S128)))).bind fun bt170 => (if bt170.1 = 60 then (if bt170.2.1 = 2 then (some (bt170.2.2 == 0)) else (some F)) else (some F))) = some r := by first | (rw [hy161]; with_reducible exact H) | (have H2_ := (Option.bind_some _ _).symm.trans H; rw [hy161]; with_reducible exact H2_) | (have H2_ := (Option.bind_some _ _).symm.trans H; with_reducible exact H2_) | with_reducible exact H | (rw [hy161]; exact H) | exact H
 have Ny161 := Aside0.mk hy161
 clear hy161
 obtain ⟨y164, hy164⟩ : ∃ y_ : List (S128), y_ = (([(⟨(⟨(⟨#[111, 105, 108]⟩ : ByteArray), 1, 20, 0⟩ : S69), y158, 1000⟩ : S128), (⟨(⟨(⟨#[111, 105, 108]⟩ : ByteArray), 3, 20, 5⟩ : S69), y161, (-400)⟩ : S128)] : List (S128))) := ⟨_, rfl⟩
 replace H : ((QaG.f k (([(⟨(⟨(⟨#[111, 105, 108]⟩ : ByteArray), 1, 20, 0⟩ : S69), 1, 0⟩ : S71), (⟨(⟨(⟨#[111, 105, 108]⟩ : ByteArray), 3, 20, 5⟩ : S69), 2, 0⟩ : S71)] : List (S71))) y164).bind fun bt170 => (if bt170.1 = 60 then (if bt170.2.1 = 2 then (some (bt170.2.2 == 0)) else (some F)) else (some F))) = some r := by first | (rw [hy164]; with_reducible exact H) | (have H2_ := (Option.bind_some _ _).symm.trans H; rw [hy164]; with_reducible exact H2_) | (have H2_ := (Option.bind_some _ _).symm.trans H; with_reducible exact H2_) | with_reducible exact H | (rw [hy164]; exact H) | exact H
 have Ny164 := Aside0.mk hy164
 clear hy164
 obtain ⟨y167, hy167⟩ : ∃ y_ : List (S71), y_ = (([(⟨(⟨(⟨#[111, 105, 108]⟩ : ByteArray), 1, 20, 0⟩ : S69), 1, 0⟩ : S71), (⟨(⟨(⟨#[111, 105, 108]⟩ : ByteArray), 3, 20, 5⟩ : S69), 2, 0⟩ : S71)] : List (S71))) := ⟨_, rfl⟩
 replace H : ((QaG.f k y167 y164).bind fun bt170 => (if bt170.1 = 60 then (if bt170.2.1 = 2 then (some (bt170.2.2 == 0)) else (some F)) else (some F))) = some r := by first | (rw [hy167]; with_reducible exact H) | (have H2_ := (Option.bind_some _ _).symm.trans H; rw [hy167]; with_reducible exact H2_) | (have H2_ := (Option.bind_some _ _).symm.trans H; with_reducible exact H2_) | with_reducible exact H | (rw [hy167]; exact H) | exact H
 have Ny167 := Aside0.mk hy167
 clear hy167
 replace H := Option.bind_eq_some_iff.mp H
 obtain ⟨⟨t170, t171, t172⟩, A10, H⟩ := H
 replace H : (if t170 = 60 then (if t171 = 2 then (some (t172 == 0)) else (some F)) else (some F)) = some r := H
 have A1 := Aside0.mk A10
 clear A10
 go_enter Try.func10, Try.ntmps10
 go_upto_region 4 with (first | ((with_reducible refine QaR (N := 1) rfl ?_); refine Zbx (N := 1) (cs := #[.string (⟨#[]⟩ : ByteArray), .int .i64 0, .int .i64 0, .int .i64 0]) (t := 69) ?_; intro gb156 hg w2 hbox hb; have BK156 := Aside0.mk (hbox); have GW156 := Aside0.mk (Zt w hg (Zb)); have GE156 := GW156; replace HB := Aside0.mk (Qap (Zb) hb); clear hb hbox hg) | ((with_reducible refine QaR (N := 2) rfl ?_); refine Zbx (N := 2) (cs := #[.string (⟨#[]⟩ : ByteArray), .int .i64 0, .int .i64 0, .int .i64 0]) (t := 69) ?_; intro gb157 hg w3 hbox hb; have BK157 := Aside0.mk (hbox); have GW157 := Aside0.mk (Zt w hg (Zc1 GE156.out)); have GE157 := GW157; have NB156_157 := Aside0.mk (Zn hg BK156.out); have NB157_156 := Aside0.mk NB156_157.out.symm; replace BK156 := Aside0.mk (Zi BK156.out hb); replace HB := Aside0.mk (Qap (Zc1 GE156.out) hb); clear hb hbox hg; have hnb4 := NB156_157.out; have hnc4 := NB157_156.out; obtain ⟨hcz5_0, hfz5_0⟩ := Zy (v := (.string (⟨#[]⟩ : ByteArray))) BK156.out 0; obtain ⟨hcz5_1, hfz5_1⟩ := Zy (v := (.int .i64 0)) BK156.out 1; obtain ⟨hcz5_2, hfz5_2⟩ := Zy (v := (.int .i64 0)) BK156.out 2; obtain ⟨hcz5_3, hfz5_3⟩ := Zy (v := (.int .i64 0)) BK156.out 3; obtain ⟨hcz6_0, hfz6_0⟩ := Zy (v := (.string (⟨#[]⟩ : ByteArray))) BK157.out 0; obtain ⟨hcz6_1, hfz6_1⟩ := Zy (v := (.int .i64 0)) BK157.out 1; obtain ⟨hcz6_2, hfz6_2⟩ := Zy (v := (.int .i64 0)) BK157.out 2; obtain ⟨hcz6_3, hfz6_3⟩ := Zy (v := (.int .i64 0)) BK157.out 3) | ((with_reducible refine QaR (N := 10) rfl ?_); refine Kd.R_lit (Kd.int .i64) _ 3 ?hg (N := 10) ?hd (xs := ([(-100), 0, 100] : List Int)) (inner := [.int .i64 (-100), .int .i64 0, .int .i64 100]) (ok := fun _ => True) (okp := fun _ => True) ?hr ?hp (fun _ hk => hk) trivial (Below.refl _ _) (Nat.le_refl _) (by simp) ?_; (case hd => rfl); (case hg => rfl); (case hr => first | (go_simp; done) | (go_simp; rfl)); (case hp => exact (Reps.one (show Kd.M (Kd.int .i64) _ _ _ (-100) [.int .i64 (-100)] from rfl) (Reps.one (show Kd.M (Kd.int .i64) _ _ _ 0 [.int .i64 0] from rfl) (Reps.one (show Kd.M (Kd.int .i64) _ _ _ 100 [.int .i64 100] from rfl) (Reps.none _ _))))); intro v159 w7 ho8 hb hg_ hnew_; clear hg_ hnew_; (first | rw [← Ny158.out] at ho8 | (simp only [Int.reduceToNat] at ho8; rw [← Ny158.out] at ho8)); have HO160 := Aside0.mk (Kd.R_lower ho8 (Qax (Zc2 GE156.out GE157.out))); replace BK156 := Aside0.mk (Qau (g := gb156) (o := .cells #[.string (⟨#[111, 105, 108]⟩ : ByteArray), .int .i64 1, .int .i64 20, .int .i64 0] 69 (0, 0)) (by (with_reducible repeat (first | refine Qaf ?_ _ | refine Qag ?_ | refine Qae ?_ _)); refine QaH ?_ NB156_157.out _; (with_reducible repeat (first | refine Qaf ?_ _ | refine Qag ?_ | refine Qae ?_ _)); refine QaH ?_ NB156_157.out _; (with_reducible repeat (first | refine Qaf ?_ _ | refine Qag ?_ | refine Qae ?_ _)); refine QaH ?_ NB156_157.out _; (with_reducible repeat (first | refine Qaf ?_ _ | refine Qag ?_ | refine Qae ?_ _)); refine QaH ?_ NB156_157.out _; (with_reducible repeat (first | refine Qaf ?_ _ | refine Qag ?_ | refine Qae ?_ _)); refine QaA (cs := #[.string (⟨#[111, 105, 108]⟩ : ByteArray), .int .i64 1, .int .i64 20, .int .i64 0]) ?_ 3 _ rfl; (with_reducible repeat (first | refine Qaf ?_ _ | refine Qag ?_ | refine Qae ?_ _)); refine QaA (cs := #[.string (⟨#[111, 105, 108]⟩ : ByteArray), .int .i64 1, .int .i64 0, .int .i64 0]) ?_ 2 _ rfl; (with_reducible repeat (first | refine Qaf ?_ _ | refine Qag ?_ | refine Qae ?_ _)); refine QaA (cs := #[.string (⟨#[111, 105, 108]⟩ : ByteArray), .int .i64 0, .int .i64 0, .int .i64 0]) ?_ 1 _ rfl; (with_reducible repeat (first | refine Qaf ?_ _ | refine Qag ?_ | refine Qae ?_ _)); refine QaA (cs := #[.string (⟨#[]⟩ : ByteArray), .int .i64 0, .int .i64 0, .int .i64 0]) ?_ 0 _ rfl; (with_reducible repeat (first | refine Qaf ?_ _ | refine Qag ?_ | refine Qae ?_ _)); exact BK156.out) hb); replace BK157 := Aside0.mk (Qau (g := gb157) (o := .cells #[.string (⟨#[111, 105, 108]⟩ : ByteArray), .int .i64 3, .int .i64 20, .int .i64 5] 69 (0, 0)) (by (with_reducible repeat (first | refine Qaf ?_ _ | refine Qag ?_ | refine Qae ?_ _)); refine QaA (cs := #[.string (⟨#[111, 105, 108]⟩ : ByteArray), .int .i64 3, .int .i64 20, .int .i64 0]) ?_ 3 _ rfl; (with_reducible repeat (first | refine Qaf ?_ _ | refine Qag ?_ | refine Qae ?_ _)); refine QaA (cs := #[.string (⟨#[111, 105, 108]⟩ : ByteArray), .int .i64 3, .int .i64 0, .int .i64 0]) ?_ 2 _ rfl; (with_reducible repeat (first | refine Qaf ?_ _ | refine Qag ?_ | refine Qae ?_ _)); refine QaA (cs := #[.string (⟨#[111, 105, 108]⟩ : ByteArray), .int .i64 0, .int .i64 0, .int .i64 0]) ?_ 1 _ rfl; (with_reducible repeat (first | refine Qaf ?_ _ | refine Qag ?_ | refine Qae ?_ _)); refine QaA (cs := #[.string (⟨#[]⟩ : ByteArray), .int .i64 0, .int .i64 0, .int .i64 0]) ?_ 0 _ rfl; (with_reducible repeat (first | refine Qaf ?_ _ | refine Qag ?_ | refine Qae ?_ _)); refine QaH ?_ NB157_156.out _; (with_reducible repeat (first | refine Qaf ?_ _ | refine Qag ?_ | refine Qae ?_ _)); refine QaH ?_ NB157_156.out _; (with_reducible repeat (first | refine Qaf ?_ _ | refine Qag ?_ | refine Qae ?_ _)); refine QaH ?_ NB157_156.out _; (with_reducible repeat (first | refine Qaf ?_ _ | refine Qag ?_ | refine Qae ?_ _)); refine QaH ?_ NB157_156.out _; (with_reducible repeat (first | refine Qaf ?_ _ | refine Qag ?_ | refine Qae ?_ _)); exact BK157.out) hb); replace HB := Aside0.mk (Qap (Zc2 GE156.out GE157.out) hb); clear hb ho8; obtain ⟨Ao9, co9, eo9⟩ := Kd.R_slice HO160.out; subst eo9; obtain ⟨hcz10_0, hfz10_0⟩ := Zy (v := (.string (⟨#[111, 105, 108]⟩ : ByteArray))) BK157.out 0; obtain ⟨hcz10_1, hfz10_1⟩ := Zy (v := (.int .i64 3)) BK157.out 1; obtain ⟨hcz10_2, hfz10_2⟩ := Zy (v := (.int .i64 20)) BK157.out 2; obtain ⟨hcz10_3, hfz10_3⟩ := Zy (v := (.int .i64 5)) BK157.out 3) | ((with_reducible refine QaR (N := 13) rfl ?_); refine Kd.R_lit (Kd.int .i64) _ 3 ?hg (N := 13) ?hd (xs := ([60, 10, (-20)] : List Int)) (inner := [.int .i64 60, .int .i64 10, .int .i64 (-20)]) (ok := fun _ => True) (okp := fun _ => True) ?hr ?hp (fun _ hk => hk) trivial (Below.refl _ _) (Nat.le_refl _) (by simp) ?_; (case hd => rfl); (case hg => rfl); (case hr => first | (go_simp; done) | (go_simp; rfl)); (case hp => exact (Reps.one (show Kd.M (Kd.int .i64) _ _ _ 60 [.int .i64 60] from rfl) (Reps.one (show Kd.M (Kd.int .i64) _ _ _ 10 [.int .i64 10] from rfl) (Reps.one (show Kd.M (Kd.int .i64) _ _ _ (-20) [.int .i64 (-20)] from rfl) (Reps.none _ _))))); intro v162 w11 ho12 hb hg_ hnew_; clear hg_ hnew_; (first | rw [← Ny161.out] at ho12 | (simp only [Int.reduceToNat] at ho12; rw [← Ny161.out] at ho12)); have HO163 := Aside0.mk (Kd.R_lower (Kd.R_new' ho12 (Kd.R_lt (Zr HO160.out))) (Qax (Zc2 GE156.out GE157.out))); replace HO160 := Aside0.mk (Kd.R_elder' (Zr HO160.out) (Kd.R_base ho12) hb); replace BK156 := Aside0.mk (Zi BK156.out hb); replace BK157 := Aside0.mk (Zi BK157.out hb); replace HB := Aside0.mk (Qap (Zc2 GE156.out GE157.out) hb); clear hb ho12; obtain ⟨Ao13, co13, eo13⟩ := Kd.R_slice HO163.out; subst eo13) | ((with_reducible refine QaR (N := 15) rfl ?_); refine Kd.N_lit k128 _ 128 ?hg (N' := 15) ?hd (xs := ([(⟨(⟨(⟨#[111, 105, 108]⟩ : ByteArray), 1, 20, 0⟩ : S69), y158, 1000⟩ : S128), (⟨(⟨(⟨#[111, 105, 108]⟩ : ByteArray), 3, 20, 5⟩ : S69), y161, (-400)⟩ : S128)] : List (S128))) (inner := [.string (⟨#[111, 105, 108]⟩ : ByteArray), .int .i64 1, .int .i64 20, .int .i64 0, .slice Ao9 y158.length co9, .int .i64 1000, .string (⟨#[111, 105, 108]⟩ : ByteArray), .int .i64 3, .int .i64 20, .int .i64 5, .slice Ao13 y161.length co13, .int .i64 (-400)]) (ok := (fun k_ => k_ ≠ gb156 ∧ k_ ≠ gb157)) (okp := (fun k_ => k_ ≠ gb156 ∧ k_ ≠ gb157)) ?hr ?hp (fun _ hk => hk) ((show ∀ k_, w11.heap.size ≤ k_ → (fun k_ => k_ ≠ gb156 ∧ k_ ≠ gb157) k_ from fun k_ hk => ⟨Kd.freshB (g := gb156) (o := .cells #[.string (⟨#[111, 105, 108]⟩ : ByteArray), .int .i64 1, .int .i64 20, .int .i64 0] 69 (0, 0)) (Zu BK156.out) k_ hk, Kd.freshB (g := gb157) (o := .cells #[.string (⟨#[111, 105, 108]⟩ : ByteArray), .int .i64 3, .int .i64 20, .int .i64 5] 69 (0, 0)) (Zu BK157.out) k_ hk⟩) _ (Nat.le_refl _)) (Below.refl _ _) (Nat.le_refl _) (by simp) ?_; (case hd => rfl); (case hg => rfl); (case hr => first | (go_simp; done) | (go_simp; rfl)); (case hp => exact (Reps.c6 (show Kd.FK k128 _ _ (⟨(⟨(⟨#[111, 105, 108]⟩ : ByteArray), 1, 20, 0⟩ : S69), y158, 1000⟩ : S128) [.string (⟨#[111, 105, 108]⟩ : ByteArray), .int .i64 1, .int .i64 20, .int .i64 0, .slice Ao9 y158.length co9, .int .i64 1000] from (Qb3 _ _ (⟨(⟨(⟨#[111, 105, 108]⟩ : ByteArray), 1, 20, 0⟩ : S69), y158, 1000⟩ : S128) (Kd.R_reads' (Kd.R_mono (ok' := (fun k_ => k_ ≠ gb156 ∧ k_ ≠ gb157)) (Kd.R_types (Kd.R_types (HO160.out) BK156.out (by decide)) BK157.out (by decide)) (fun k_ hk => ⟨hk.1.2, hk.2⟩))).2.1 (Kd.R_F (Kd.R_mono (ok' := (fun k_ => k_ ≠ gb156 ∧ k_ ≠ gb157)) (Kd.R_types (Kd.R_types (HO160.out) BK156.out (by decide)) BK157.out (by decide)) (fun k_ hk => ⟨hk.1.2, hk.2⟩))))) (Reps.c6 (show Kd.FK k128 _ _ (⟨(⟨(⟨#[111, 105, 108]⟩ : ByteArray), 3, 20, 5⟩ : S69), y161, (-400)⟩ : S128) [.string (⟨#[111, 105, 108]⟩ : ByteArray), .int .i64 3, .int .i64 20, .int .i64 5, .slice Ao13 y161.length co13, .int .i64 (-400)] from (Qb3 _ _ (⟨(⟨(⟨#[111, 105, 108]⟩ : ByteArray), 3, 20, 5⟩ : S69), y161, (-400)⟩ : S128) (Kd.R_reads' (Kd.R_mono (ok' := (fun k_ => k_ ≠ gb156 ∧ k_ ≠ gb157)) (Kd.R_types (Kd.R_types (HO163.out) BK156.out (by decide)) BK157.out (by decide)) (fun k_ hk => ⟨hk.1.2, hk.2⟩))).2.1 (Kd.R_F (Kd.R_mono (ok' := (fun k_ => k_ ≠ gb156 ∧ k_ ≠ gb157)) (Kd.R_types (Kd.R_types (HO163.out) BK156.out (by decide)) BK157.out (by decide)) (fun k_ hk => ⟨hk.1.2, hk.2⟩))))) (Reps.none _ _)))); intro v165 w14 ho15 hb hg_ hnew_; clear hg_ hnew_; (first | rw [← Ny164.out] at ho15 | (simp only [Int.reduceToNat] at ho15; rw [← Ny164.out] at ho15)); have HO166 := Aside0.mk (Kd.N_lower ho15 (Qax (Zc2 GE156.out GE157.out))); replace BK156 := Aside0.mk (Zi BK156.out hb); replace BK157 := Aside0.mk (Zi BK157.out hb); replace HB := Aside0.mk (Qap (Zc2 GE156.out GE157.out) hb); clear HO160 HO163; clear hb ho15; obtain ⟨hcz16_0, hfz16_0⟩ := Zy (v := (.string (⟨#[111, 105, 108]⟩ : ByteArray))) BK156.out 0; obtain ⟨hcz16_1, hfz16_1⟩ := Zy (v := (.int .i64 1)) BK156.out 1; obtain ⟨hcz16_2, hfz16_2⟩ := Zy (v := (.int .i64 20)) BK156.out 2; obtain ⟨hcz16_3, hfz16_3⟩ := Zy (v := (.int .i64 0)) BK156.out 3; obtain ⟨hcz17_0, hfz17_0⟩ := Zy (v := (.string (⟨#[111, 105, 108]⟩ : ByteArray))) BK157.out 0; obtain ⟨hcz17_1, hfz17_1⟩ := Zy (v := (.int .i64 3)) BK157.out 1; obtain ⟨hcz17_2, hfz17_2⟩ := Zy (v := (.int .i64 20)) BK157.out 2; obtain ⟨hcz17_3, hfz17_3⟩ := Zy (v := (.int .i64 5)) BK157.out 3) | ((with_reducible refine QaR (N := 21) rfl ?_); refine Kd.R_lit k71 _ 71 ?hg (N := 21) ?hd (xs := ([(⟨(⟨(⟨#[111, 105, 108]⟩ : ByteArray), 1, 20, 0⟩ : S69), 1, 0⟩ : S71), (⟨(⟨(⟨#[111, 105, 108]⟩ : ByteArray), 3, 20, 5⟩ : S69), 2, 0⟩ : S71)] : List (S71))) (inner := [.string (⟨#[111, 105, 108]⟩ : ByteArray), .int .i64 1, .int .i64 20, .int .i64 0, .int .i64 1, .int .i64 0, .string (⟨#[111, 105, 108]⟩ : ByteArray), .int .i64 3, .int .i64 20, .int .i64 5, .int .i64 2, .int .i64 0]) (ok := fun _ => True) (okp := fun _ => True) ?hr ?hp (fun _ hk => hk) trivial (Below.refl _ _) (Nat.le_refl _) (by simp) ?_; (case hd => rfl); (case hg => rfl); (case hr => first | (go_simp; done) | (go_simp; rfl)); (case hp => exact (Reps.c6 (show Kd.M k71 _ _ _ (⟨(⟨(⟨#[111, 105, 108]⟩ : ByteArray), 1, 20, 0⟩ : S69), 1, 0⟩ : S71) [.string (⟨#[111, 105, 108]⟩ : ByteArray), .int .i64 1, .int .i64 20, .int .i64 0, .int .i64 1, .int .i64 0] from (Qbk _ _ _ (⟨(⟨(⟨#[111, 105, 108]⟩ : ByteArray), 1, 20, 0⟩ : S69), 1, 0⟩ : S71) )) (Reps.c6 (show Kd.M k71 _ _ _ (⟨(⟨(⟨#[111, 105, 108]⟩ : ByteArray), 3, 20, 5⟩ : S69), 2, 0⟩ : S71) [.string (⟨#[111, 105, 108]⟩ : ByteArray), .int .i64 3, .int .i64 20, .int .i64 5, .int .i64 2, .int .i64 0] from (Qbk _ _ _ (⟨(⟨(⟨#[111, 105, 108]⟩ : ByteArray), 3, 20, 5⟩ : S69), 2, 0⟩ : S71) )) (Reps.none _ _)))); intro v168 w18 ho19 hb hg_ hnew_; clear hg_ hnew_; (first | rw [← Ny167.out] at ho19 | (simp only [Int.reduceToNat] at ho19; rw [← Ny167.out] at ho19)); have HO169 := Aside0.mk (Kd.R_lower ho19 (Qax (Zc2 GE156.out GE157.out))); replace HO166 := Aside0.mk (Kd.N_elder' (by (with_reducible repeat (first | apply Kd.N_alloc | apply Kd.N_drewN | apply Kd.N_drew)); exact HO166.out) (Kd.R_base ho19) hb); replace BK156 := Aside0.mk (Zi BK156.out hb); replace BK157 := Aside0.mk (Zi BK157.out hb); replace HB := Aside0.mk (Qap (Zc2 GE156.out GE157.out) hb); clear hb ho19; obtain ⟨Ao20, co20, eo20⟩ := Kd.R_slice HO169.out; subst eo20; obtain ⟨Ao21, co21, eo21⟩ := Kd.N_slice HO166.out; subst eo21) | ((with_reducible refine QaI (f := 15) rfl ?_); refine goesL_ (some 23) rfl rfl Try.func15 (by kernel_rfl) rfl #[.slice Ao20 y167.length co20, .slice Ao21 y164.length co21] rfl (Zl) ?_; (with_reducible refine (QaG.calls k _ _ y167 _ _ y164 t170 t171 t172 _ ?side1 ?side2 ?side3 ?side4 A1.out).mono ?_); (case side1 => exact Zv (Kd.R_reads' HO169.out).2.2); (case side2 => exact (Kd.R_reads' HO169.out).2.1); (case side3 => exact Zv (Kd.N_reads' HO166.out).2.2); (case side4 => exact (Kd.N_reads' HO166.out).2.1); rintro e w22 ⟨rfl, hb⟩; refine ⟨_, rfl, ?_⟩; replace HO166 := Aside0.mk (Kd.N_below (by (with_reducible repeat (first | apply Kd.N_alloc | apply Kd.N_drewN | apply Kd.N_drew)); exact HO166.out) hb); replace HO169 := Aside0.mk (Kd.R_below (Zr HO169.out) hb); replace BK156 := Aside0.mk (Zi BK156.out hb); replace BK157 := Aside0.mk (Zi BK157.out hb); replace HB := Aside0.mk (Qap (Zc2 GE156.out GE157.out) hb); (try clear hb); (try clear hb2); (try clear hk); (try clear hi)))
 (try simp only [Act.put, Zj, Zk, Zm])
 by_cases c23 : t170 = 60
 ·rw [if_pos c23] at H
  have c23b0 : (t170 == 60) = T := beq_iff_eq.mpr c23
  have c23b1 : (t170 != 60) = F := bne_eq_false_iff_eq.mpr c23
  clear c23
  (try simp only [c23b0, c23b1])
  by_cases c24 : t171 = 2
  ·rw [if_pos c24] at H
   have c24b0 : (t171 == 2) = T := beq_iff_eq.mpr c24
   have c24b1 : (t171 != 2) = F := bne_eq_false_iff_eq.mpr c24
   clear c24
   obtain rfl := Option.some.inj H
   go_wp2
   go_ret
   exact ⟨Zq, Zc2 GE156.out GE157.out⟩
  rw [if_neg c24] at H
  have c24b0 : (t171 == 2) = F := beq_eq_false_iff_ne.mpr c24
  have c24b1 : (t171 != 2) = T := bne_iff_ne.mpr c24
  obtain rfl := Option.some.inj H
  go_wp2
  go_ret
  exact ⟨Zq, Zc2 GE156.out GE157.out⟩
 rw [if_neg c23] at H
 have c23b0 : (t170 == 60) = F := beq_eq_false_iff_ne.mpr c23
 have c23b1 : (t170 != 60) = T := bne_iff_ne.mpr c23
 (try simp only [c23b0, c23b1])
 obtain rfl := Option.some.inj H
 go_wp2
 go_ret
 exact ⟨Zq, Zc2 GE156.out GE157.out⟩
mutual
def Qao.l0 : Nat → List (S69) → List (List Int) → List Int → List (S71) → Int → Int → List (S71) → List Int → Option (List Int × Int)
 | 0, _, _, _, _, _, _, _, _ => none
 | k + 1, x1, x2, x6, x35, x36, x37, x216000, x222000 => if x37 < x36 then (if 0 ≤ x37 then (if x37 < (x35.length : Int) then ((QaE.f k x1 ((rd_T71 x35 x37).f0.f0) ((rd_T71 x35 x37).f0.f1) ((rd_T71 x35 x37).f0.f2) ((rd_T71 x35 x37).f0.f3)).bind fun bt224 => (if bt224.2 = T then (if x37 < (x222000.length : Int) then (Qao.l0 k x1 x2 x6 x35 x36 (wrap64 (x37 + 1)) x216000 (x222000.set (x37 : Int).toNat bt224.1)) else (none)) else (some (([] : List Int), 11)))) else (none)) else (none)) else (Qao.l1 k x6 x2 (x2.length : Int) 0 x216000 x222000)
def Qao.l1 : Nat → List Int → List (List Int) → Int → Int → List (S71) → List Int → Option (List Int × Int)
 | 0, _, _, _, _, _, _ => none
 | k + 1, x6, x57, x58, x59, x216000, x222000 => if x59 < x58 then (if 0 ≤ x59 then (if x59 < (x57.length : Int) then (if 0 ≤ (x216000.length : Int) then (if ((x216000.length : Int) : Int).toNat ≤ 35184372088832 then (Qao.l2 k x6 (List.replicate ((x216000.length : Int) : Int).toNat 0) x57 x58 x59 (x216000.length : Int) 0 x216000 x222000 (rd_L4 x57 x59)) else (none)) else (none)) else (none)) else (none)) else (some (x6, 0))
def Qao.l2 : Nat → List Int → List Int → List (List Int) → Int → Int → Int → Int → List (S71) → List Int → List Int → Option (List Int × Int)
 | 0, _, _, _, _, _, _, _, _, _, _ => none
 | k + 1, x6, x17, x57, x58, x59, x70, x71, x216000, x222000, x229000 => if x71 < x70 then (if 0 ≤ x71 then (if x71 < (x216000.length : Int) then ((Qbg.f ((rd_T71 x216000 x71).f0.f0) ((rd_T71 x216000 x71).f0.f1) ((rd_T71 x216000 x71).f0.f2) ((rd_T71 x216000 x71).f0.f3) ((rd_T71 x216000 x71).f1) ((rd_T71 x216000 x71).f2)).bind fun t233 => (if x71 < (x222000.length : Int) then (if 0 ≤ (rd x222000 x71) then (if (rd x222000 x71) < (x229000.length : Int) then (if x71 < (x17.length : Int) then (Qao.l2 k x6 (x17.set (x71 : Int).toNat (wrap64 ((wrap64 (-t233)) * (rd x229000 (rd x222000 x71))))) x57 x58 x59 x70 (wrap64 (x71 + 1)) x216000 x222000 x229000) else (none)) else (none)) else (none)) else (none))) else (none)) else (none)) else ((QaD.f k x17).bind fun bt237 => (if bt237.2 = 0 then (if x6.length < 17592186044416 then (Qao.l1 k (x6 ++ [bt237.1]) x57 x58 (wrap64 (x59 + 1)) x216000 x222000) else (none)) else (some (([] : List Int), 3))))
end
def Qao.f (k : Nat) (l0 : List (S71)) (l1 : List (S69)) (l2 : List (List Int)) : Option (List Int × Int) := (Qat.f k l1 l2).bind fun t216 => (if t216 = 0 then ((Qal.f k l0).bind fun t217 => (if t217 = 0 then (if 0 ≤ (l0.length : Int) then (if ((l0.length : Int) : Int).toNat ≤ 35184372088832 then (Qao.l0 k l1 l2 ([] : List Int) l0 (l0.length : Int) 0 l0 (List.replicate ((l0.length : Int) : Int).toNat 0)) else (none)) else (none)) else (some (([] : List Int), t217)))) else (some (([] : List Int), t216)))
theorem Qao.mono_l : ∀ k, (∀ y0 y1 y2 y3 y4 y5 y6 y7, LeO (Qao.l0 k y0 y1 y2 y3 y4 y5 y6 y7) (Qao.l0 (k + 1) y0 y1 y2 y3 y4 y5 y6 y7)) ∧ (∀ y0 y1 y2 y3 y4 y5, LeO (Qao.l1 k y0 y1 y2 y3 y4 y5) (Qao.l1 (k + 1) y0 y1 y2 y3 y4 y5)) ∧ (∀ y0 y1 y2 y3 y4 y5 y6 y7 y8 y9, LeO (Qao.l2 k y0 y1 y2 y3 y4 y5 y6 y7 y8 y9) (Qao.l2 (k + 1) y0 y1 y2 y3 y4 y5 y6 y7 y8 y9))
 | 0 => ⟨fun _ _ _ _ _ _ _ _ r h => by simp [Qao.l0] at h, fun _ _ _ _ _ _ r h => by simp [Qao.l1] at h, fun _ _ _ _ _ _ _ _ _ _ r h => by simp [Qao.l2] at h⟩
 | k + 1 => by
  obtain ⟨ih0, ih1, ih2⟩ := Qao.mono_l k
  refine ⟨?_, ?_, ?_⟩
  ·intro y0 y1 y2 y3 y4 y5 y6 y7
   unfold Qao.l0
   exact ZM7 ih0 ih1 ih2 QaD.mono Qat.mono Qal.mono QaE.mono
  ·intro y0 y1 y2 y3 y4 y5
   unfold Qao.l1
   exact ZM7 ih0 ih1 ih2 QaD.mono Qat.mono Qal.mono QaE.mono
  intro y0 y1 y2 y3 y4 y5 y6 y7 y8 y9
  unfold Qao.l2
  exact ZM7 ih0 ih1 ih2 QaD.mono Qat.mono Qal.mono QaE.mono
theorem Qao.mono : ∀ a0 a1 a2 k, LeO (Qao.f k a0 a1 a2) (Qao.f (k + 1) a0 a1 a2) := by
 intro a0 a1 a2 k
 obtain ⟨ih0, ih1, ih2⟩ := Qao.mono_l k
 unfold Qao.f
 exact ZM7 ih0 ih1 ih2 QaD.mono Qat.mono Qal.mono QaE.mono
theorem Qao.calls (k : Nat) (A0 : Option Addr) (c0 : Nat) (l0 : List (S71)) (A1 : Option Addr) (c1 : Nat) (l1 : List (S69)) (A2 : Option Addr) (c2 : Nat) (l2 : List (List Int)) (r1 : List Int) (r2 : Int) (w : World) (hr0 : Kd.C k71 w A0 l0.length l0) (hc0 : l0.length ≤ c0) (hr1 : Kd.C k69 w A1 l1.length l1) (hc1 : l1.length ≤ c1) (hr2 : Kd.C (Kd.slice 3 (Kd.int .i64)) w A2 l2.length l2) (hc2 : l2.length ≤ c2) (h : Qao.f k l0 l1 l2 = some (r1, r2)) :
  Calls Try.prog 12 #[.slice A0 l0.length c0, .slice A1 l1.length c1, .slice A2 l2.length c2] w fun e w' => ∃ v0_ : Value, e = .returned (.tuple #[v0_, .int .i64 r2]) ∧ Kd.R (Kd.int .i64) 3 w' w.heap.size (fun _ => True) v0_ r1 ∧ Below w.heap.size w w' := by
 have hu71 := Try.underlying71
 have hu69 := Try.underlying69
 have HR0 := Aside0.mk hr0
 have HC0 := Aside0.mk hc0
 clear hr0 hc0
 have HR1 := Aside0.mk hr1
 have HC1 := Aside0.mk hc1
 clear hr1 hc1
 have HR2 := Aside0.mk hr2
 have HC2 := Aside0.mk hc2
 clear hr2 hc2
 have HB := Aside0.mk (Below.refl w.heap.size w)
 have H : ((Qat.f k l1 l2).bind fun t216 => (if t216 = 0 then ((Qal.f k l0).bind fun t217 => (if t217 = 0 then (if 0 ≤ (l0.length : Int) then (if ((l0.length : Int) : Int).toNat ≤ 35184372088832 then (Qao.l0 k l1 l2 ([] : List Int) l0 (l0.length : Int) 0 l0 (List.replicate ((l0.length : Int) : Int).toNat 0)) else (none)) else (none)) else (some (([] : List Int), t217)))) else (some (([] : List Int), t216)))) = some (r1, r2) := h
 clear h
 replace H := Option.bind_eq_some_iff.mp H
 obtain ⟨t216, A40, H⟩ := H
 replace H : (if t216 = 0 then ((Qal.f k l0).bind fun t217 => (if t217 = 0 then (if 0 ≤ (l0.length : Int) then (if ((l0.length : Int) : Int).toNat ≤ 35184372088832 then (Qao.l0 k l1 l2 ([] : List Int) l0 (l0.length : Int) 0 l0 (List.replicate ((l0.length : Int) : Int).toNat 0)) else (none)) else (none)) else (some (([] : List Int), t217)))) else (some (([] : List Int), t216))) = some (r1, r2) := H
 have A4 := Aside0.mk A40
 clear A40
 go_enter Try.func12, Try.ntmps12
 go_upto_if 25 with (first | ((with_reducible refine QaR (N := 3) rfl ?_); (refine gate_n (n := 94) rfl ?_); refine Zbx (N := 3) (cs := #[.slice A0 l0.length c0]) (t := 22) ?_; intro gb215 hg w5 hbox hb; have BK215 := Aside0.mk (hbox); have GW215 := Aside0.mk (Zt w hg (Zb)); have GE215 := GW215; replace HB := Aside0.mk (Qap (Zb) hb); clear hb hbox hg) | ((with_reducible refine QaI (f := 51) rfl ?_); refine goesL_ (some 23) rfl rfl Try.func51 (by kernel_rfl) rfl #[.slice A1 l1.length c1, .slice A2 l2.length c2] rfl (Zl) ?_; (with_reducible refine (Qat.calls k _ _ l1 _ _ l2 t216 _ ?side1 ?side2 ?side3 ?side4 A4.out).mono ?_); (case side1 => exact Zv (Kd.C_below HR1.out HB.out)); (case side2 => exact HC1.out); (case side3 => exact Zv (Kd.C_below HR2.out HB.out)); (case side4 => exact HC2.out); rintro e w6 ⟨rfl, hb⟩; refine ⟨_, rfl, ?_⟩; replace BK215 := Aside0.mk (Zi BK215.out hb); replace HB := Aside0.mk (Qap (Zc1 GE215.out) hb); (try clear hb); (try clear hb2); (try clear hk); (try clear hi)))
 (try simp only [Act.put, Zj, Zk, Zm])
 by_cases c7 : t216 = 0
 ·rw [if_pos c7] at H
  have c7b0 : (t216 == 0) = T := beq_iff_eq.mpr c7
  have c7b1 : (t216 != 0) = F := bne_eq_false_iff_eq.mpr c7
  clear c7
  (try simp only [c7b0, c7b1])
  replace H := Option.bind_eq_some_iff.mp H
  obtain ⟨t217, A80, H⟩ := H
  replace H : (if t217 = 0 then (if 0 ≤ (l0.length : Int) then (if ((l0.length : Int) : Int).toNat ≤ 35184372088832 then (Qao.l0 k l1 l2 ([] : List Int) l0 (l0.length : Int) 0 l0 (List.replicate ((l0.length : Int) : Int).toNat 0)) else (none)) else (none)) else (some (([] : List Int), t217))) = some (r1, r2) := H
  have A8 := Aside0.mk A80
  clear A80
  obtain ⟨hcz9_0, hfz9_0⟩ := Zy (v := (.slice A0 l0.length c0)) BK215.out 0
  go_upto_if 30 with (first | ((with_reducible refine QaI (f := 9) rfl ?_); refine goesL_ (some 28) rfl rfl Try.func9 (by kernel_rfl) rfl #[.slice A0 l0.length c0] rfl (Zl) ?_; (with_reducible refine (Qal.calls k _ _ l0 t217 _ ?side1 ?side2 A8.out).mono ?_); (case side1 => exact Zv (Kd.C_below HR0.out HB.out)); (case side2 => exact HC0.out); rintro e w10 ⟨rfl, hb⟩; refine ⟨_, rfl, ?_⟩; replace BK215 := Aside0.mk (Zi BK215.out hb); replace HB := Aside0.mk (Qap (Zc1 GE215.out) hb); (try clear hb); (try clear hb2); (try clear hk); (try clear hi)))
  (try simp only [Act.put, Zj, Zk, Zm])
  by_cases c11 : t217 = 0
  ·rw [if_pos c11] at H
   have c11b0 : (t217 == 0) = T := beq_iff_eq.mpr c11
   have c11b1 : (t217 != 0) = F := bne_eq_false_iff_eq.mpr c11
   clear c11
   (try simp only [c11b0, c11b1])
   by_cases c12 : 0 ≤ (l0.length : Int)
   ·rw [if_pos c12] at H
    have c12b0 := eq_true c12
    have c12b1 : decide (0 ≤ (l0.length : Int)) = T := decide_eq_true c12
    clear c12
    by_cases c13 : ((l0.length : Int) : Int).toNat ≤ 35184372088832
    ·rw [if_pos c13] at H
     have c13b0 := eq_true c13
     have c13b1 : decide (((l0.length : Int) : Int).toNat ≤ 35184372088832) = T := decide_eq_true c13
     clear c13
     obtain ⟨y218, hy218⟩ : ∃ y_ : List Int, y_ = (List.replicate ((l0.length : Int) : Int).toNat 0) := ⟨_, rfl⟩
     replace H : (Qao.l0 k l1 l2 ([] : List Int) l0 (l0.length : Int) 0 l0 y218) = some (r1, r2) := by first | (rw [hy218]; with_reducible exact H) | (have H2_ := (Option.bind_some _ _).symm.trans H; rw [hy218]; with_reducible exact H2_) | (have H2_ := (Option.bind_some _ _).symm.trans H; with_reducible exact H2_) | with_reducible exact H | (rw [hy218]; exact H) | exact H
     have Ny218 := Aside0.mk hy218
     clear hy218
     have H' := Aside0.mk H
     clear H
     obtain ⟨hcz14_0, hfz14_0⟩ := Zy (v := (.slice A0 l0.length c0)) BK215.out 0
     go_wp2_with (first | ((with_reducible refine QaR (N := 34) rfl ?_); (refine gate_n (n := 94) rfl ?_); refine Kd.R_make (Kd.int .i64) _ 3 rfl (N := 34) rfl 32 _ _ rfl (l0.length : Int) rfl rfl Try.underlying32 (.int .i64 0) 8 info3 rfl (by decide) (by omega) 0 (ok := fun _ => True) (okp := fun _ => True) rfl (fun _ hk => hk) trivial (Ze) (Nat.le_trans (Nat.mul_le_mul_right _ (Ze : (l0.length : Int).toNat ≤ 35184372088832)) (by omega)) (Below.refl _ _) (Nat.le_refl _) ?_; intro v219 w15 ho16 hb hg_ hnew_; clear hg_ hnew_; (first | rw [← Ny218.out] at ho16 | (simp only [Int.reduceToNat] at ho16; rw [← Ny218.out] at ho16)); have HO220 := Aside0.mk (Kd.R_lower ho16 (Qax (Zc1 GE215.out))); replace BK215 := Aside0.mk (Zi BK215.out hb); replace HB := Aside0.mk (Qap (Zc1 GE215.out) hb); clear hb ho16) | ((with_reducible refine QaR (N := 8) rfl ?_); (refine gate_n (n := 94) rfl ?_); refine Zbx (N := 8) (cs := #[.slice none 0 0]) (t := 32) ?_; intro gb221 hg w17 hbox hb; have BK221 := Aside0.mk (hbox); have GW221 := Aside0.mk (Zt w hg (Zc1 GE215.out)); have GE221 := GW221; have NB215_221 := Aside0.mk (Zn hg BK215.out); have NB221_215 := Aside0.mk NB215_221.out.symm; replace HO220 := Aside0.mk (Kd.R_below (Zr HO220.out) hb); replace BK215 := Aside0.mk (Zi BK215.out hb); replace HB := Aside0.mk (Qap (Zc1 GE215.out) hb); clear hb hbox hg; obtain ⟨Ao18, co18, eo18⟩ := Kd.R_slice HO220.out; subst eo18; have hnb19 := NB221_215.out; have hnc19 := NB215_221.out; obtain ⟨hcz20_0, hfz20_0⟩ := Zy (v := (.slice none 0 0)) BK221.out 0; obtain ⟨hcz21_0, hfz21_0⟩ := Zy (v := (.slice A0 l0.length c0)) BK215.out 0))
     go_loopg [6, 37] k (fun kq v6 v37 w' => ∃ (x6_1 : List Int) (x37_1 : Int) (x222000_1 : List Int) (u222000 : Value), v37 = .int .i64 x37_1 ∧ Aside0 (Qao.l0 kq l1 l2 x6_1 l0 (l0.length : Int) x37_1 l0 x222000_1 = some (r1, r2)) ∧ Aside0 (kq ≤ k) ∧ Aside0 (Kd.R (Kd.int .i64) 3 w' w.heap.size (fun k_ => some k_ ≠ (u222000 : Value).ownBlock) v6 x6_1) ∧ Aside0 (Kd.R (Kd.int .i64) 3 w' w.heap.size (fun k_ => some k_ ≠ (v6 : Value).ownBlock) u222000 x222000_1) ∧ Aside0 (w'.heap[gb215]? = some (.cells #[(.slice A0 l0.length c0)] 22 (0, 0))) ∧ Aside0 (w'.heap[gb221]? = some (.cells #[u222000] 32 (0, 0))) ∧ Aside0 (Below w.heap.size w w'))
     case atStart => exact ⟨(([] : List Int)), (0), (y218), (.slice Ao18 y218.length co18), (Zs), H', ⟨Nat.le_refl _⟩, ⟨by first | exact Kd.R_nil _ _ _ _ _ | exact Kd.N_nil _ _ _ _ _ | exact Kd.V_nil _ _ _ _ _ | exact Kd.Q_nil _ _ _ _ _ | exact Kd.S_nil _ _ _ _ _⟩, ⟨by (with_reducible repeat (first | apply Kd.R_alloc | apply Kd.R_drewN | apply Kd.R_drew)); exact Kd.R_mono (Kd.R_far (p := ⟨gb221, 0, none⟩) (Kd.R_types HO220.out BK221.out (by decide)) (fun _ hk => hk.2) (.slice Ao18 y218.length co18)) (fun _ hk => (by simp [Value.ownBlock]))⟩, ⟨Zg1 BK215.out NB215_221.out⟩, ⟨Zp2 BK221.out⟩, ⟨Zc2 GE215.out GE221.out⟩⟩
     case round =>
      clear H'
      try clear c1
      try clear c2
      try clear p2
      try clear c5
      try clear c7
      try clear c7b0
      try clear c7b1
      try clear c9
      try clear c11
      try clear c11b0
      try clear c11b1
      try clear c12
      try clear c12b0
      try clear c12b1
      try clear c13
      try clear c13b0
      try clear c13b1
      try clear c19
      try clear hcz14_0
      try clear hcz20_0
      try clear hcz21_0
      try clear hcz9_0
      try clear hfz14_0
      try clear hfz20_0
      try clear hfz21_0
      try clear hfz9_0
      obtain ⟨x6_1, x37_1, x222000_1, u222000, rfl, HA, HK1, HO_6, HO_222000, BK215, BK221, HB⟩ := hrel
      cases gk with
      | zero => exact absurd HA.out (by simp [Qao.l0])
      | succ k1 =>
       have H := HA.out
       clear HA
       simp only [Qao.l0] at H
       by_cases c22 : x37_1 < (l0.length : Int)
       ·rw [if_pos c22] at H
        have c22b0 : decide (x37_1 < (l0.length : Int)) = T := decide_eq_true c22
        clear c22
        (try simp only [c22b0])
        by_cases c23 : 0 ≤ x37_1
        ·rw [if_pos c23] at H
         have c23b0 : decide (0 ≤ x37_1) = T := decide_eq_true c23
         clear c23
         by_cases c24 : x37_1 < (l0.length : Int)
         ·rw [if_pos c24] at H
          have c24b0 : decide (x37_1 < (l0.length : Int)) = T := decide_eq_true c24
          clear c24
          replace H := Option.bind_eq_some_iff.mp H
          obtain ⟨⟨t224, t225⟩, A250, H⟩ := H
          replace H : (if t225 = T then (if x37_1 < (x222000_1.length : Int) then (Qao.l0 k1 l1 l2 x6_1 l0 (l0.length : Int) (wrap64 (x37_1 + 1)) l0 (x222000_1.set (x37_1 : Int).toNat t224)) else (none)) else (some (([] : List Int), 11))) = some (r1, r2) := H
          have A25 := Aside0.mk A250
          clear A250
          have p222 : 0 ≤ (x37_1 : Int) := Ze
          have q222 : x37_1 < (l0.length : Int) := Ze
          obtain ⟨ad222, e222, hx222_0, hx222_1, hx222_2, hx222_3, hx222_4, hx222_5⟩ := at_T71 HR0.out x37_1 p222 q222
          cases e222
          replace hx222_0 := Zx HB.out hx222_0
          replace hx222_1 := Zx HB.out hx222_1
          replace hx222_2 := Zx HB.out hx222_2
          replace hx222_3 := Zx HB.out hx222_3
          replace hx222_4 := Zx HB.out hx222_4
          replace hx222_5 := Zx HB.out hx222_5
          replace p222 := eq_true p222
          replace q222 := eq_true q222
          go_upto_if 50 with (first | ((with_reducible refine QaR (N := 10) rfl ?_); (refine gate_n (n := 94) rfl ?_); refine Zbx (N := 10) (cs := #[.string (⟨#[]⟩ : ByteArray), .int .i64 0, .int .i64 0, .int .i64 0, .int .i64 0, .int .i64 0]) (t := 71) ?_; intro gb223 hg w26 hbox hb; have BK223 := Aside0.mk (hbox); have GW223 := Aside0.mk (Zt w hg (Zc2 GE215.out GE221.out)); have GE223 := GW223; have NB215_223 := Aside0.mk (Zn hg BK215.out); have NB223_215 := Aside0.mk NB215_223.out.symm; have NB221_223 := Aside0.mk (Zn hg BK221.out); have NB223_221 := Aside0.mk NB221_223.out.symm; replace HO_6 := Aside0.mk (Kd.R_below (Zr HO_6.out) hb); replace HO_222000 := Aside0.mk (Kd.R_below (Zr HO_222000.out) hb); replace BK215 := Aside0.mk (Zi BK215.out hb); replace BK221 := Aside0.mk (Zi BK221.out hb); replace HB := Aside0.mk (Qap (Zc2 GE215.out GE221.out) hb); clear hb hbox hg; have hnb27 := NB223_215.out; have hnc27 := NB215_223.out; have hnb28 := NB223_221.out; have hnc28 := NB221_223.out; obtain ⟨hcz29_0, hfz29_0⟩ := Zy (v := (.string (⟨#[]⟩ : ByteArray))) BK223.out 0; obtain ⟨hcz29_1, hfz29_1⟩ := Zy (v := (.int .i64 0)) BK223.out 1; obtain ⟨hcz29_2, hfz29_2⟩ := Zy (v := (.int .i64 0)) BK223.out 2; obtain ⟨hcz29_3, hfz29_3⟩ := Zy (v := (.int .i64 0)) BK223.out 3; obtain ⟨hcz29_4, hfz29_4⟩ := Zy (v := (.int .i64 0)) BK223.out 4; obtain ⟨hcz29_5, hfz29_5⟩ := Zy (v := (.int .i64 0)) BK223.out 5) | ((with_reducible refine QaI (f := 52) rfl ?_); refine goesL_ (some 46) rfl rfl Try.func52 (by kernel_rfl) rfl #[.slice A1 l1.length c1, .agg #[.string ((rd_T71 l0 x37_1).f0.f0), .int .i64 ((rd_T71 l0 x37_1).f0.f1), .int .i64 ((rd_T71 l0 x37_1).f0.f2), .int .i64 ((rd_T71 l0 x37_1).f0.f3)]] rfl (Zl) ?_; (with_reducible refine (QaE.calls k1 _ _ l1 ((rd_T71 l0 x37_1).f0.f0) ((rd_T71 l0 x37_1).f0.f1) ((rd_T71 l0 x37_1).f0.f2) ((rd_T71 l0 x37_1).f0.f3) t224 t225 _ ?side1 ?side2 A25.out).mono ?_); (case side1 => exact Kd.C_below HR1.out (Zc3 GE215.out GE221.out GE223.out)); (case side2 => exact HC1.out); rintro e w30 ⟨rfl, hb⟩; refine ⟨_, rfl, ?_⟩; replace HO_6 := Aside0.mk (Kd.R_below (by (with_reducible repeat (first | apply Kd.R_alloc | apply Kd.R_drewN | apply Kd.R_drew)); exact (Kd.R_mono (Kd.R_far (p := ⟨gb223, 5, none⟩) (Kd.R_far (p := ⟨gb223, 4, none⟩) (Kd.R_far (p := ⟨gb223, 3, none⟩) (Kd.R_far (p := ⟨gb223, 2, none⟩) (Kd.R_far (p := ⟨gb223, 1, none⟩) (Kd.R_far (p := ⟨gb223, 0, none⟩) (Kd.R_types HO_6.out BK223.out (by decide)) (fun _ hk => hk.2) (.string ((rd_T71 l0 x37_1).f0.f0))) (fun _ hk => hk.2) (.int .i64 ((rd_T71 l0 x37_1).f0.f1))) (fun _ hk => hk.2) (.int .i64 ((rd_T71 l0 x37_1).f0.f2))) (fun _ hk => hk.2) (.int .i64 ((rd_T71 l0 x37_1).f0.f3))) (fun _ hk => hk.2) (.int .i64 ((rd_T71 l0 x37_1).f1))) (fun _ hk => hk.2) (.int .i64 ((rd_T71 l0 x37_1).f2))) (fun _ h_ => h_.1))) hb); replace HO_222000 := Aside0.mk (Kd.R_below (by (with_reducible repeat (first | apply Kd.R_alloc | apply Kd.R_drewN | apply Kd.R_drew)); exact (Kd.R_mono (Kd.R_far (p := ⟨gb223, 5, none⟩) (Kd.R_far (p := ⟨gb223, 4, none⟩) (Kd.R_far (p := ⟨gb223, 3, none⟩) (Kd.R_far (p := ⟨gb223, 2, none⟩) (Kd.R_far (p := ⟨gb223, 1, none⟩) (Kd.R_far (p := ⟨gb223, 0, none⟩) (Kd.R_types HO_222000.out BK223.out (by decide)) (fun _ hk => hk.2) (.string ((rd_T71 l0 x37_1).f0.f0))) (fun _ hk => hk.2) (.int .i64 ((rd_T71 l0 x37_1).f0.f1))) (fun _ hk => hk.2) (.int .i64 ((rd_T71 l0 x37_1).f0.f2))) (fun _ hk => hk.2) (.int .i64 ((rd_T71 l0 x37_1).f0.f3))) (fun _ hk => hk.2) (.int .i64 ((rd_T71 l0 x37_1).f1))) (fun _ hk => hk.2) (.int .i64 ((rd_T71 l0 x37_1).f2))) (fun _ h_ => h_.1))) hb); replace BK215 := Aside0.mk (Qau (g := gb215) (o := .cells #[.slice (some ad222) l0.length c0] 22 (0, 0)) (Zg6 BK215.out NB215_223.out NB215_223.out NB215_223.out NB215_223.out NB215_223.out NB215_223.out) hb); replace BK221 := Aside0.mk (Qau (g := gb221) (o := .cells #[u222000] 32 (0, 0)) (Zg6 BK221.out NB221_223.out NB221_223.out NB221_223.out NB221_223.out NB221_223.out NB221_223.out) hb); replace BK223 := Aside0.mk (Zpi #[.string ((rd_T71 l0 x37_1).f0.f0), .int .i64 ((rd_T71 l0 x37_1).f0.f1), .int .i64 ((rd_T71 l0 x37_1).f0.f2), .int .i64 ((rd_T71 l0 x37_1).f0.f3), .int .i64 ((rd_T71 l0 x37_1).f1), .int .i64 ((rd_T71 l0 x37_1).f2)] BK223.out hb); replace HB := Aside0.mk (Qap (Zc3 GE215.out GE221.out GE223.out) hb); (try clear hb); (try clear hb2); (try clear hk); (try clear hi)))
          (try simp only [Act.put, Zj, Zk, Zm])
          by_cases c31 : t225 = T
          ·subst c31
           have H1 : (if x37_1 < (x222000_1.length : Int) then (Qao.l0 k1 l1 l2 x6_1 l0 (l0.length : Int) (wrap64 (x37_1 + 1)) l0 (x222000_1.set (x37_1 : Int).toNat t224)) else (none)) = some (r1, r2) := by rw [if_pos rfl] at H; exact H
           clear H
           have H := H1
           clear H1
           by_cases c32 : x37_1 < (x222000_1.length : Int)
           ·rw [if_pos c32] at H
            have c32b0 : decide (x37_1 < (x222000_1.length : Int)) = T := decide_eq_true c32
            clear c32
            (try simp only [c32b0])
            obtain ⟨y226, hy226⟩ : ∃ y_ : List Int, y_ = (x222000_1.set (x37_1 : Int).toNat t224) := ⟨_, rfl⟩
            replace H : (Qao.l0 k1 l1 l2 x6_1 l0 (l0.length : Int) (wrap64 (x37_1 + 1)) l0 y226) = some (r1, r2) := by first | (rw [hy226]; with_reducible exact H) | (have H2_ := (Option.bind_some _ _).symm.trans H; rw [hy226]; with_reducible exact H2_) | (have H2_ := (Option.bind_some _ _).symm.trans H; with_reducible exact H2_) | with_reducible exact H | (rw [hy226]; exact H) | exact H
            have Ny226 := Aside0.mk hy226
            clear hy226
            have H' := Aside0.mk H
            clear H
            have hnb34 := NB221_215.out
            have hnc34 := NB215_221.out
            have hnb35 := NB221_223.out
            have hnc35 := NB223_221.out
            obtain ⟨hcz36_0, hfz36_0⟩ := Zy (v := (u222000)) BK221.out 0
            have p33 : 0 ≤ (x37_1 : Int) := Ze
            have q33 : (x37_1 : Int) < ((x222000_1.length : Int) : Int) := Ze
            obtain ⟨go33, co33, eo33, gb33, gl33, cl33, HG33⟩ := Kd.R_form HO_222000.out (by omega)
            (first | cases eo33 | (injection eo33 with ea_ en_ ec_; (first | subst ea_ | (injection ea_ with ea_; subst ea_)); subst ec_; clear en_))
            have GB33 := Aside0.mk gb33
            have GG33 := Aside0.mk HG33
            clear gb33 gl33 HG33
            obtain ⟨hx33_0, hf33_0⟩ := Kd.R_celln 0 HO_222000.out (x37_1 : Int) p33 q33
            replace p33 := eq_true p33
            replace q33 := eq_true q33
            have HP37 := Kd.R_putg HO_222000.out (x37_1 : Int) t224
            go_wp2_with (first | ((with_reducible refine Qbu (t := 3) (p := 54) rfl ?_); (refine gate_n (n := 94) rfl ?_); refine Qbn (t := 3) (p := 54) (v := ?vo_w38) (w1 := (w30.setCell ⟨go33, (x37_1 : Int).toNat, none⟩ (.int .i64 t224))) ?hg ?ho ?hn ?hr ?_; (case ho => rfl); (case hg => rfl); (case hn => rfl); (case hr => first | (go_simp; done) | (go_simp; rfl)); intro w38 hw; have hg : w30.grownBy w38 (some go33) := (by rw [hw]; exact HP37.2); have hp_ : Kd.R (Kd.int .i64) 3 w38 w.heap.size (fun k_ => some k_ ≠ (u6 : Value).ownBlock) (.slice (some ⟨go33, 0, none⟩) x222000_1.length co33) y226 := (by rw [hw, Ny226.out]; exact HP37.1); clear HP37; replace HO_6 := Aside0.mk (Kd.R_after (v := (.slice (some ⟨go33, 0, none⟩) x222000_1.length co33)) (v1 := (.slice (some ⟨go33, 0, none⟩) x222000_1.length co33)) (ok := (fun _ => True)) (by (with_reducible repeat (first | apply Kd.R_alloc | apply Kd.R_drewN | apply Kd.R_drew)); exact Kd.R_mono HO_6.out (fun _ hk => ⟨trivial, hk⟩)) hg (.inl rfl)); replace BK215 := Aside0.mk (QaY (g := gb215) (o := .cells #[.slice (some ad222) l0.length c0] 22 (0, 0)) (Zu BK215.out) hg (Kd.R_ne HO_222000.out BK215.out (by decide))); replace BK221 := Aside0.mk (QaY (g := gb221) (o := .cells #[.slice (some ⟨go33, 0, none⟩) x222000_1.length co33] 32 (0, 0)) (Zu BK221.out) hg (Kd.R_ne HO_222000.out BK221.out (by decide))); replace BK223 := Aside0.mk (QaY (g := gb223) (o := .cells #[.string ((rd_T71 l0 x37_1).f0.f0), .int .i64 ((rd_T71 l0 x37_1).f0.f1), .int .i64 ((rd_T71 l0 x37_1).f0.f2), .int .i64 ((rd_T71 l0 x37_1).f0.f3), .int .i64 ((rd_T71 l0 x37_1).f1), .int .i64 ((rd_T71 l0 x37_1).f2)] 71 (0, 0)) (Zu BK223.out) hg (Kd.R_ne HO_222000.out BK223.out (by decide))); replace HO_222000 := Aside0.mk (hp_); replace HB := Aside0.mk ((by rw [hw]; exact Qaj (HB.out) GB33.out : Below w.heap.size w w38)); clear hg hw hp_))
            go_roundg k1
            case measure => have := HK1.out; omega
            case rel => exact ⟨(x6_1), (wrap64 (x37_1 + 1)), (y226), (.slice (some ⟨go33, 0, none⟩) x222000_1.length co33), (Zs), H', ⟨by have := HK1.out; omega⟩, ⟨by (with_reducible repeat (first | apply Kd.R_alloc | apply Kd.R_drewN | apply Kd.R_drew)); exact Kd.R_mono HO_6.out (fun _ hk => hk.2)⟩, ⟨Zr HO_222000.out⟩, ⟨Zu BK215.out⟩, ⟨Zu BK221.out⟩, ⟨Zc3 GE215.out GE221.out GE223.out⟩⟩
           rw [if_neg c32] at H
           exact absurd H (by simp)
          replace c31 := Bool.eq_false_iff.mpr c31
          subst c31
          have H1 : (some (([] : List Int), 11)) = some (r1, r2) := by rw [if_neg (show ¬ (F = T) by decide)] at H; exact H
          clear H
          have H := H1
          clear H1
          simp only [Option.some.injEq, Prod.mk.injEq] at H
          obtain ⟨rfl, rfl⟩ := H
          go_wp2
          go_ret2
          exact ⟨_, Zq, by first | exact Kd.R_nil _ _ _ _ _ | exact Kd.N_nil _ _ _ _ _ | exact Kd.V_nil _ _ _ _ _ | exact Kd.Q_nil _ _ _ _ _ | exact Kd.S_nil _ _ _ _ _, Zc3 GE215.out GE221.out GE223.out⟩
         rw [if_neg c24] at H
         exact absurd H (by simp)
        rw [if_neg c23] at H
        exact absurd H (by simp)
       rw [if_neg c22] at H
       have c22b0 : decide (x37_1 < (l0.length : Int)) = F := decide_eq_false c22
       clear c22
       (try simp only [c22b0])
       have H' := Aside0.mk H
       clear H
       go_wp2
       go_loopg [6, 59] k1 (fun kq v6 v59 w' => ∃ (x6_2 : List Int) (x59_2 : Int) (x222000_2 : List Int) (u222000 : Value), v59 = .int .i64 x59_2 ∧ Aside0 (Qao.l1 kq x6_2 l2 (l2.length : Int) x59_2 l0 x222000_2 = some (r1, r2)) ∧ Aside0 (kq ≤ k1) ∧ Aside0 (Kd.R (Kd.int .i64) 3 w' w.heap.size (fun k_ => some k_ ≠ (u222000 : Value).ownBlock) v6 x6_2) ∧ Aside0 (Kd.R (Kd.int .i64) 3 w' w.heap.size (fun k_ => some k_ ≠ (v6 : Value).ownBlock) u222000 x222000_2) ∧ Aside0 (w'.heap[gb215]? = some (.cells #[(.slice A0 l0.length c0)] 22 (0, 0))) ∧ Aside0 (w'.heap[gb221]? = some (.cells #[u222000] 32 (0, 0))) ∧ Aside0 (Below w.heap.size w w'))
       case atStart => exact ⟨(x6_1), (0), (x222000_1), (u222000), (Zs), H', ⟨Nat.le_refl _⟩, ⟨Zr HO_6.out⟩, ⟨Zr HO_222000.out⟩, ⟨Zu BK215.out⟩, ⟨Zu BK221.out⟩, ⟨Zc2 GE215.out GE221.out⟩⟩
       case round =>
        clear H'
        try clear c1
        try clear c2
        try clear p2
        try clear q2
        try clear hx2
        try clear c3
        try clear p3
        try clear q3
        try clear hx3
        try clear hf3
        try clear c5
        try clear p6
        try clear c7
        try clear c7b0
        try clear c7b1
        try clear c9
        try clear c11
        try clear c11b0
        try clear c11b1
        try clear c12
        try clear c12b0
        try clear c12b1
        try clear c13
        try clear c13b0
        try clear c13b1
        try clear c19
        try clear c22
        try clear c22b0
        try clear p22
        try clear q22
        try clear hx22
        try clear c23
        try clear c23b0
        try clear c24
        try clear c24b0
        try clear c27
        try clear c28
        try clear c31
        try clear c32
        try clear c32b0
        try clear p33
        try clear q33
        try clear hx33
        try clear hf33
        try clear c34
        try clear c35
        try clear hcz14_0
        try clear hcz20_0
        try clear hcz21_0
        try clear hcz29_0
        try clear hcz29_1
        try clear hcz29_2
        try clear hcz29_3
        try clear hcz29_4
        try clear hcz29_5
        try clear hcz36_0
        try clear hcz9_0
        try clear hfz14_0
        try clear hfz20_0
        try clear hfz21_0
        try clear hfz29_0
        try clear hfz29_1
        try clear hfz29_2
        try clear hfz29_3
        try clear hfz29_4
        try clear hfz29_5
        try clear hfz36_0
        try clear hfz9_0
        try clear hx222_0
        try clear hx222_1
        try clear hx222_2
        try clear hx222_3
        try clear hx222_4
        try clear hx222_5
        try clear hx33_0
        try clear p2
        try clear p222
        try clear p33
        try clear q222
        try clear q33
        obtain ⟨x6_2, x59_2, x222000_2, u222000, rfl, HA, HK2, HO_6, HO_222000, BK215, BK221, HB⟩ := hrel
        cases gk with
        | zero => exact absurd HA.out (by simp [Qao.l1])
        | succ k2 =>
         have H := HA.out
         clear HA
         simp only [Qao.l1] at H
         by_cases c39 : x59_2 < (l2.length : Int)
         ·rw [if_pos c39] at H
          have c39b0 : decide (x59_2 < (l2.length : Int)) = T := decide_eq_true c39
          clear c39
          (try simp only [c39b0])
          by_cases c40 : 0 ≤ x59_2
          ·rw [if_pos c40] at H
           have c40b0 : decide (0 ≤ x59_2) = T := decide_eq_true c40
           clear c40
           by_cases c41 : x59_2 < (l2.length : Int)
           ·rw [if_pos c41] at H
            have c41b0 : decide (x59_2 < (l2.length : Int)) = T := decide_eq_true c41
            clear c41
            have p227 : 0 ≤ (x59_2 : Int) := Ze
            have q227 : x59_2 < (l2.length : Int) := Ze
            obtain ⟨ad227, A227_0, c227_0, e227, hx227_0, hl227_0, hi227_0⟩ := at_L4 HR2.out x59_2 p227 q227
            cases e227
            replace hx227_0 := Zx HB.out hx227_0
            have HR227_0 := Aside0.mk hi227_0
            have HC227_0 := Aside0.mk hl227_0
            clear hi227_0 hl227_0
            replace p227 := eq_true p227
            replace q227 := eq_true q227
            go_upto_region 21 with (first | (go_at_call 53; go_in) | ((with_reducible refine QaR (N := 3) rfl ?_); (refine gate_n (n := 6) rfl ?_); refine Zbx (N := 3) (cs := #[.slice A227_0 (rd_L4 l2 x59_2).length c227_0]) (t := 32) ?_; intro gb228 hg w42 hbox hb; have BK228 := Aside0.mk (hbox); have GW228 := Aside0.mk (Zt w hg (Zc2 GE215.out GE221.out)); have GE228 := GW228; have NB215_228 := Aside0.mk (Zn hg BK215.out); have NB228_215 := Aside0.mk NB215_228.out.symm; have NB221_228 := Aside0.mk (Zn hg BK221.out); have NB228_221 := Aside0.mk NB221_228.out.symm; replace HO_6 := Aside0.mk (Kd.R_below (Zr HO_6.out) hb); replace HO_222000 := Aside0.mk (Kd.R_below (Zr HO_222000.out) hb); replace BK215 := Aside0.mk (Zi BK215.out hb); replace BK221 := Aside0.mk (Zi BK221.out hb); replace HB := Aside0.mk (Qap (Zc2 GE215.out GE221.out) hb); clear hb hbox hg))
            (try simp only [Act.put, Zj, Zk, Zm])
            by_cases c43 : 0 ≤ (l0.length : Int)
            ·rw [if_pos c43] at H
             have c43b0 := eq_true c43
             have c43b1 : decide (0 ≤ (l0.length : Int)) = T := decide_eq_true c43
             clear c43
             by_cases c44 : ((l0.length : Int) : Int).toNat ≤ 35184372088832
             ·rw [if_pos c44] at H
              have c44b0 := eq_true c44
              have c44b1 : decide (((l0.length : Int) : Int).toNat ≤ 35184372088832) = T := decide_eq_true c44
              clear c44
              obtain ⟨y229, hy229⟩ : ∃ y_ : List Int, y_ = (List.replicate ((l0.length : Int) : Int).toNat 0) := ⟨_, rfl⟩
              replace H : (Qao.l2 k2 x6_2 y229 l2 (l2.length : Int) x59_2 (l0.length : Int) 0 l0 x222000_2 (rd_L4 l2 x59_2)) = some (r1, r2) := by first | (rw [hy229]; with_reducible exact H) | (have H2_ := (Option.bind_some _ _).symm.trans H; rw [hy229]; with_reducible exact H2_) | (have H2_ := (Option.bind_some _ _).symm.trans H; with_reducible exact H2_) | with_reducible exact H | (rw [hy229]; exact H) | exact H
              have Ny229 := Aside0.mk hy229
              clear hy229
              have H' := Aside0.mk H
              clear H
              have hnb45 := NB215_221.out
              have hnc45 := NB221_215.out
              have hnb46 := NB215_228.out
              have hnc46 := NB228_215.out
              obtain ⟨hcz47_0, hfz47_0⟩ := Zy (v := (.slice A0 l0.length c0)) BK215.out 0
              go_wp2_with (first | ((with_reducible refine QaR (N := 68) rfl ?_); (refine gate_n (n := 94) rfl ?_); refine Kd.R_make (Kd.int .i64) _ 3 rfl (N := 68) rfl 32 _ _ rfl (l0.length : Int) rfl rfl Try.underlying32 (.int .i64 0) 8 info3 rfl (by decide) (by omega) 0 (ok := fun _ => True) (okp := fun _ => True) rfl (fun _ hk => hk) trivial (Ze) (Nat.le_trans (Nat.mul_le_mul_right _ (Ze : (l0.length : Int).toNat ≤ 35184372088832)) (by omega)) (Below.refl _ _) (Nat.le_refl _) ?_; intro v230 w48 ho49 hb hg_ hnew_; clear hg_ hnew_; (first | rw [← Ny229.out] at ho49 | (simp only [Int.reduceToNat] at ho49; rw [← Ny229.out] at ho49)); have HO231 := Aside0.mk (Kd.R_lower (Kd.R_new' (Kd.R_new' ho49 (Kd.R_lt (Zr HO_6.out))) (Kd.R_lt (Zr HO_222000.out))) (Qax (Zc3 GE215.out GE221.out GE228.out))); replace HO_6 := Aside0.mk (Kd.R_elder' (Zr HO_6.out) (Kd.R_base ho49) hb); replace HO_222000 := Aside0.mk (Kd.R_elder' (Zr HO_222000.out) (Kd.R_base ho49) hb); replace BK215 := Aside0.mk (Zi BK215.out hb); replace BK221 := Aside0.mk (Zi BK221.out hb); replace BK228 := Aside0.mk (Zi BK228.out hb); replace HB := Aside0.mk (Qap (Zc3 GE215.out GE221.out GE228.out) hb); clear hb ho49; obtain ⟨hcz50_0, hfz50_0⟩ := Zy (v := (.slice A0 l0.length c0)) BK215.out 0))
              go_loopg [71] k2 (fun kq v71 w' => ∃ (x17_3 : List Int) (x71_3 : Int), v71 = .int .i64 x71_3 ∧ Aside0 (Qao.l2 kq x6_2 x17_3 l2 (l2.length : Int) x59_2 (l0.length : Int) x71_3 l0 x222000_2 (rd_L4 l2 x59_2) = some (r1, r2)) ∧ Aside0 (kq ≤ k2) ∧ Aside0 (Kd.R (Kd.int .i64) 3 w' w.heap.size (fun k_ => some k_ ≠ (v230 : Value).ownBlock ∧ some k_ ≠ (u222000 : Value).ownBlock) u6 x6_2) ∧ Aside0 (Kd.R (Kd.int .i64) 3 w' w.heap.size (fun k_ => some k_ ≠ (u6 : Value).ownBlock ∧ some k_ ≠ (u222000 : Value).ownBlock) v230 x17_3) ∧ Aside0 (Kd.R (Kd.int .i64) 3 w' w.heap.size (fun k_ => some k_ ≠ (u6 : Value).ownBlock ∧ some k_ ≠ (v230 : Value).ownBlock) u222000 x222000_2) ∧ Aside0 (w'.heap[gb215]? = some (.cells #[(.slice A0 l0.length c0)] 22 (0, 0))) ∧ Aside0 (w'.heap[gb221]? = some (.cells #[u222000] 32 (0, 0))) ∧ Aside0 (w'.heap[gb228]? = some (.cells #[(.slice A227_0 (rd_L4 l2 x59_2).length c227_0)] 32 (0, 0))) ∧ Aside0 (Below w.heap.size w w'))
              case atStart => exact ⟨(y229), (0), (Zs), H', ⟨Nat.le_refl _⟩, ⟨by (with_reducible repeat (first | apply Kd.R_alloc | apply Kd.R_drewN | apply Kd.R_drew)); exact Kd.R_mono HO_6.out (fun _ hk => ⟨hk.2, hk.1⟩)⟩, ⟨by (with_reducible repeat (first | apply Kd.R_alloc | apply Kd.R_drewN | apply Kd.R_drew)); exact Kd.R_mono HO231.out (fun _ hk => ⟨hk.1.2, hk.2⟩)⟩, ⟨Zr HO_222000.out⟩, ⟨Zu BK215.out⟩, ⟨Zu BK221.out⟩, ⟨Zu BK228.out⟩, ⟨Zc3 GE215.out GE221.out GE228.out⟩⟩
              case round =>
               clear H'
               try clear c1
               try clear c2
               try clear p2
               try clear q2
               try clear hx2
               try clear c3
               try clear p3
               try clear q3
               try clear hx3
               try clear hf3
               try clear c4
               try clear c5
               try clear p6
               try clear c7
               try clear c7b0
               try clear c7b1
               try clear c9
               try clear c11
               try clear c11b0
               try clear c11b1
               try clear c12
               try clear c12b0
               try clear c12b1
               try clear c13
               try clear c13b0
               try clear c13b1
               try clear c19
               try clear c22
               try clear c22b0
               try clear p22
               try clear q22
               try clear hx22
               try clear c23
               try clear c23b0
               try clear c24
               try clear c24b0
               try clear c27
               try clear c28
               try clear c31
               try clear c32
               try clear c32b0
               try clear p33
               try clear q33
               try clear hx33
               try clear hf33
               try clear c34
               try clear c35
               try clear c39
               try clear c39b0
               try clear c40
               try clear c40b0
               try clear c41
               try clear c41b0
               try clear c43
               try clear c43b0
               try clear c43b1
               try clear c44
               try clear c44b0
               try clear c44b1
               try clear c45
               try clear c46
               try clear hcz14_0
               try clear hcz20_0
               try clear hcz21_0
               try clear hcz29_0
               try clear hcz29_1
               try clear hcz29_2
               try clear hcz29_3
               try clear hcz29_4
               try clear hcz29_5
               try clear hcz36_0
               try clear hcz47_0
               try clear hcz50_0
               try clear hcz9_0
               try clear hfz14_0
               try clear hfz20_0
               try clear hfz21_0
               try clear hfz29_0
               try clear hfz29_1
               try clear hfz29_2
               try clear hfz29_3
               try clear hfz29_4
               try clear hfz29_5
               try clear hfz36_0
               try clear hfz47_0
               try clear hfz50_0
               try clear hfz9_0
               try clear hx222_0
               try clear hx222_1
               try clear hx222_2
               try clear hx222_3
               try clear hx222_4
               try clear hx222_5
               try clear hx227_0
               try clear hx33_0
               try clear p2
               try clear p22
               try clear p222
               try clear p227
               try clear p3
               try clear p33
               try clear p6
               try clear q2
               try clear q22
               try clear q222
               try clear q227
               try clear q3
               try clear q33
               obtain ⟨x17_3, x71_3, rfl, HA, HK3, HO_6, HO_17, HO_222000, BK215, BK221, BK228, HB⟩ := hrel
               cases gk with
               | zero => exact absurd HA.out (by simp [Qao.l2])
               | succ k3 =>
                have H := HA.out
                clear HA
                simp only [Qao.l2] at H
                by_cases c51 : x71_3 < (l0.length : Int)
                ·rw [if_pos c51] at H
                 have c51b0 : decide (x71_3 < (l0.length : Int)) = T := decide_eq_true c51
                 clear c51
                 (try simp only [c51b0])
                 by_cases c52 : 0 ≤ x71_3
                 ·rw [if_pos c52] at H
                  have c52b0 : decide (0 ≤ x71_3) = T := decide_eq_true c52
                  clear c52
                  by_cases c53 : x71_3 < (l0.length : Int)
                  ·rw [if_pos c53] at H
                   have c53b0 : decide (x71_3 < (l0.length : Int)) = T := decide_eq_true c53
                   clear c53
                   replace H := Option.bind_eq_some_iff.mp H
                   obtain ⟨t233, A540, H⟩ := H
                   replace H : (if x71_3 < (x222000_2.length : Int) then (if 0 ≤ (rd x222000_2 x71_3) then (if (rd x222000_2 x71_3) < ((rd_L4 l2 x59_2).length : Int) then (if x71_3 < (x17_3.length : Int) then (Qao.l2 k3 x6_2 (x17_3.set (x71_3 : Int).toNat (wrap64 ((wrap64 (-t233)) * (rd (rd_L4 l2 x59_2) (rd x222000_2 x71_3))))) l2 (l2.length : Int) x59_2 (l0.length : Int) (wrap64 (x71_3 + 1)) l0 x222000_2 (rd_L4 l2 x59_2)) else (none)) else (none)) else (none)) else (none)) = some (r1, r2) := H
                   have A54 := Aside0.mk A540
                   clear A540
                   by_cases c55 : x71_3 < (x222000_2.length : Int)
                   ·rw [if_pos c55] at H
                    have c55b0 : decide (x71_3 < (x222000_2.length : Int)) = T := decide_eq_true c55
                    clear c55
                    by_cases c56 : 0 ≤ (rd x222000_2 x71_3)
                    ·rw [if_pos c56] at H
                     have c56b0 : decide (0 ≤ (rd x222000_2 x71_3)) = T := decide_eq_true c56
                     clear c56
                     by_cases c57 : (rd x222000_2 x71_3) < ((rd_L4 l2 x59_2).length : Int)
                     ·rw [if_pos c57] at H
                      have c57b0 : decide ((rd x222000_2 x71_3) < ((rd_L4 l2 x59_2).length : Int)) = T := decide_eq_true c57
                      clear c57
                      by_cases c58 : x71_3 < (x17_3.length : Int)
                      ·rw [if_pos c58] at H
                       have c58b0 : decide (x71_3 < (x17_3.length : Int)) = T := decide_eq_true c58
                       clear c58
                       obtain ⟨y236, hy236⟩ : ∃ y_ : List Int, y_ = (x17_3.set (x71_3 : Int).toNat (wrap64 ((wrap64 (-t233)) * (rd (rd_L4 l2 x59_2) (rd x222000_2 x71_3))))) := ⟨_, rfl⟩
                       replace H : (Qao.l2 k3 x6_2 y236 l2 (l2.length : Int) x59_2 (l0.length : Int) (wrap64 (x71_3 + 1)) l0 x222000_2 (rd_L4 l2 x59_2)) = some (r1, r2) := by first | (rw [hy236]; with_reducible exact H) | (have H2_ := (Option.bind_some _ _).symm.trans H; rw [hy236]; with_reducible exact H2_) | (have H2_ := (Option.bind_some _ _).symm.trans H; with_reducible exact H2_) | with_reducible exact H | (rw [hy236]; exact H) | exact H
                       have Ny236 := Aside0.mk hy236
                       clear hy236
                       try go_wp2_with (first | (go_at_call 54; go_in))
                       replace HO_6 := Aside0.mk (Kd.R_drew HO_6.out)
                       replace HO_17 := Aside0.mk (Kd.R_drew HO_17.out)
                       replace HO_222000 := Aside0.mk (Kd.R_drew HO_222000.out)
                       replace BK215 := Aside0.mk (Qag BK215.out)
                       replace BK221 := Aside0.mk (Qag BK221.out)
                       replace BK228 := Aside0.mk (Qag BK228.out)
                       replace HB := Aside0.mk (Qab HB.out)
                       have p232 : 0 ≤ (x71_3 : Int) := Ze
                       have q232 : x71_3 < (l0.length : Int) := Ze
                       obtain ⟨ad232, e232, hx232_0, hx232_1, hx232_2, hx232_3, hx232_4, hx232_5⟩ := at_T71 HR0.out x71_3 p232 q232
                       have hw232_5 := hx232_5
                       have hw232_4 := hx232_4
                       have hw232_3 := hx232_3
                       have hw232_2 := hx232_2
                       have hw232_1 := hx232_1
                       have hw232_0 := hx232_0
                       cases e232
                       replace hx232_0 := Zx HB.out hx232_0
                       replace hx232_1 := Zx HB.out hx232_1
                       replace hx232_2 := Zx HB.out hx232_2
                       replace hx232_3 := Zx HB.out hx232_3
                       replace hx232_4 := Zx HB.out hx232_4
                       replace hx232_5 := Zx HB.out hx232_5
                       replace p232 := eq_true p232
                       replace q232 := eq_true q232
                       obtain ⟨Ao61, co61, eo61⟩ := Kd.R_slice HO_222000.out
                       (first | subst eo61 | (injection eo61 with f1_ f2_ f3_; have f4_ := f1_.symm; have f5_ := f3_.symm; clear f1_ f2_ f3_; subst f4_; subst f5_))
                       have p234 : 0 ≤ (x71_3 : Int) := Ze
                       have q234 : x71_3 < (x222000_2.length : Int) := Ze
                       obtain ⟨ad234, e234, hx234_0⟩ := Kd.at_int (Kd.R_reads' HO_222000.out).2.2 x71_3 p234 q234
                       cases e234
                       replace p234 := eq_true p234
                       replace q234 := eq_true q234
                       have p235 : 0 ≤ ((rd x222000_2 x71_3) : Int) := Ze
                       have q235 : (rd x222000_2 x71_3) < ((rd_L4 l2 x59_2).length : Int) := Ze
                       obtain ⟨ad235, e235, hx235_0⟩ := Kd.at_int HR227_0.out (rd x222000_2 x71_3) p235 q235
                       have hw235_0 := hx235_0
                       cases e235
                       replace hx235_0 := Zx HB.out hx235_0
                       replace p235 := eq_true p235
                       replace q235 := eq_true q235
                       refine start_ (n := 15) (S := fun w' => w'.cell? ⟨gb215, 0, none⟩ = some (.slice (some ad232) l0.length c0) ∧ w'.cell? ⟨gb228, 0, none⟩ = some (.slice (some ad235) (rd_L4 l2 x59_2).length c227_0) ∧ w'.cell? ⟨gb221, 0, none⟩ = some (.slice (some ad234) x222000_2.length co61) ∧ w'.cell? (ad232.add ((x71_3).toNat * 6)) = some (.string ((rd_T71 l0 x71_3).f0.f0)) ∧ w'.cell? ⟨(ad232.add ((x71_3).toNat * 6)).block, (ad232.add ((x71_3).toNat * 6)).off + 1, none⟩ = some (.int .i64 ((rd_T71 l0 x71_3).f0.f1)) ∧ w'.cell? ⟨(ad232.add ((x71_3).toNat * 6)).block, (ad232.add ((x71_3).toNat * 6)).off + 2, none⟩ = some (.int .i64 ((rd_T71 l0 x71_3).f0.f2)) ∧ w'.cell? ⟨(ad232.add ((x71_3).toNat * 6)).block, (ad232.add ((x71_3).toNat * 6)).off + 3, none⟩ = some (.int .i64 ((rd_T71 l0 x71_3).f0.f3)) ∧ w'.cell? ⟨(ad232.add ((x71_3).toNat * 6)).block, (ad232.add ((x71_3).toNat * 6)).off + 4, none⟩ = some (.int .i64 ((rd_T71 l0 x71_3).f1)) ∧ w'.cell? ⟨(ad232.add ((x71_3).toNat * 6)).block, (ad232.add ((x71_3).toNat * 6)).off + 5, none⟩ = some (.int .i64 ((rd_T71 l0 x71_3).f2)) ∧ w'.cell? (ad234.add (x71_3).toNat) = some (.int .i64 (rd x222000_2 x71_3)) ∧ w'.cell? (ad235.add ((rd x222000_2 x71_3)).toNat) = some (.int .i64 (rd (rd_L4 l2 x59_2) (rd x222000_2 x71_3)))) (ds := []) #[F, F, F, F, F, F, F, F, F, F, F, F, F, F, F] (by kernel_rfl) rfl rfl ⟨(Qah BK215.out 0).trans rfl, (Qah BK228.out 0).trans rfl, (Qah BK221.out 0).trans rfl, ((HB.out.cell (World.block_lt_of_cell? w _ hw232_0)).trans hw232_0), ((HB.out.cell (World.block_lt_of_cell? w _ hw232_1)).trans hw232_1), ((HB.out.cell (World.block_lt_of_cell? w _ hw232_2)).trans hw232_2), ((HB.out.cell (World.block_lt_of_cell? w _ hw232_3)).trans hw232_3), ((HB.out.cell (World.block_lt_of_cell? w _ hw232_4)).trans hw232_4), ((HB.out.cell (World.block_lt_of_cell? w _ hw232_5)).trans hw232_5), hx234_0, ((HB.out.cell (World.block_lt_of_cell? w _ hw235_0)).trans hw235_0)⟩ (fun hHeld => ?_)
                       generalize wr.drew = w60 at HO_6 HO_17 HO_222000 BK215 BK221 BK228 HB hx232_0 hx232_1 hx232_2 hx232_3 hx232_4 hx232_5 hx234_0 hx235_0 hHeld ⊢
                       refine pure_ (i := 1) (N := some 7) (v := ?_) (a' := ?_) #[F, T, F, F, F, F, F, F, F, F, F, F, F, F, F] rfl rfl (by kernel_rfl) (fun _ _ _ h => h) (Or.inl ⟨by rfl, ?_⟩) ?_ ?_
                       rotate_left
                       ·intro w'
                        go_simp
                        with_reducible rfl
                       rotate_left
                       ·simp only [Act.put, Zj, Zk, Zm, i64_w, i32_w]
                        rfl
                       refine pure_ (i := 8) (N := some 14) (v := ?_) (a' := ?_) #[F, T, F, F, F, F, F, F, T, F, F, F, F, F, F] rfl rfl (by kernel_rfl) (fun _ _ _ h => h) (Or.inl ⟨by rfl, ?_⟩) ?_ ?_
                       rotate_left
                       ·intro w'
                        go_simp
                        with_reducible rfl
                       rotate_left
                       ·simp only [Act.put, Zj, Zk, Zm, i64_w, i32_w]
                        rfl
                       refine take_ (i := 0) (N := some 6) (v := ?_) (a' := ?_) #[T, T, F, F, F, F, F, F, T, F, F, F, F, F, F] rfl rfl (by kernel_rfl) (fun _ _ _ h => h) (Or.inl ⟨by rfl, ?_⟩) hHeld ?_ ?_
                       rotate_left
                       ·rintro w' ⟨s0, s1, s2, s3, s4, s5, s6, s7, s8, s9, s10⟩
                        go_simp
                        with_reducible rfl
                       rotate_left
                       ·simp only [Act.put, Zj, Zk, Zm, i64_w, i32_w]
                        rfl
                       refine pure_ (i := 2) (N := some 8) (v := ?_) (a' := ?_) #[T, T, T, F, F, F, F, F, T, F, F, F, F, F, F] rfl rfl (by kernel_rfl) (fun _ _ _ h => h) (Or.inl ⟨by rfl, ?_⟩) ?_ ?_
                       rotate_left
                       ·intro w'
                        go_simp
                        with_reducible rfl
                       rotate_left
                       ·simp only [Act.put, Zj, Zk, Zm, i64_w, i32_w]
                        rfl
                       refine take_ (i := 3) (N := some 9) (v := ?_) (a' := ?_) #[T, T, T, T, F, F, F, F, T, F, F, F, F, F, F] rfl rfl (by kernel_rfl) (fun _ _ _ h => h) (Or.inl ⟨by rfl, ?_⟩) hHeld ?_ ?_
                       rotate_left
                       ·rintro w' ⟨s0, s1, s2, s3, s4, s5, s6, s7, s8, s9, s10⟩
                        go_simp
                        with_reducible rfl
                       rotate_left
                       ·simp only [Act.put, Zj, Zk, Zm, i64_w, i32_w]
                        rfl
                       refine take_ (i := 6) (N := some 12) (v := ?_) (a' := ?_) #[T, T, T, T, F, F, T, F, T, F, F, F, F, F, F] rfl rfl (by kernel_rfl) (fun _ _ _ h => h) (Or.inl ⟨by rfl, ?_⟩) hHeld ?_ ?_
                       rotate_left
                       ·rintro w' ⟨s0, s1, s2, s3, s4, s5, s6, s7, s8, s9, s10⟩
                        go_simp
                        with_reducible rfl
                       rotate_left
                       ·simp only [Act.put, Zj, Zk, Zm, i64_w, i32_w]
                        rfl
                       refine take_ (i := 7) (N := some 13) (v := ?_) (a' := ?_) #[T, T, T, T, F, F, T, T, T, F, F, F, F, F, F] rfl rfl (by kernel_rfl) (fun _ _ _ h => h) (Or.inl ⟨by rfl, ?_⟩) hHeld ?_ ?_
                       rotate_left
                       ·rintro w' ⟨s0, s1, s2, s3, s4, s5, s6, s7, s8, s9, s10⟩
                        go_simp
                        with_reducible rfl
                       rotate_left
                       ·simp only [Act.put, Zj, Zk, Zm, i64_w, i32_w]
                        rfl
                       refine pure_ (i := 9) (N := some 15) (v := ?_) (a' := ?_) #[T, T, T, T, F, F, T, T, T, T, F, F, F, F, F] rfl rfl (by kernel_rfl) (fun _ _ _ h => h) (Or.inl ⟨by rfl, ?_⟩) ?_ ?_
                       rotate_left
                       ·intro w'
                        go_simp
                        with_reducible rfl
                       rotate_left
                       ·simp only [Act.put, Zj, Zk, Zm, i64_w, i32_w]
                        rfl
                       refine take_ (i := 10) (N := some 16) (v := ?_) (a' := ?_) #[T, T, T, T, F, F, T, T, T, T, T, F, F, F, F] rfl rfl (by kernel_rfl) (fun _ _ _ h => h) (Or.inl ⟨by rfl, ?_⟩) hHeld ?_ ?_
                       rotate_left
                       ·rintro w' ⟨s0, s1, s2, s3, s4, s5, s6, s7, s8, s9, s10⟩
                        go_simp
                        with_reducible rfl
                       rotate_left
                       ·simp only [Act.put, Zj, Zk, Zm, i64_w, i32_w]
                        rfl
                       refine pure_ (i := 11) (N := some 17) (v := ?_) (a' := ?_) #[T, T, T, T, F, F, T, T, T, T, T, T, F, F, F] rfl rfl (by kernel_rfl) (fun _ _ _ h => h) (Or.inl ⟨by rfl, ?_⟩) ?_ ?_
                       rotate_left
                       ·intro w'
                        go_simp
                        with_reducible rfl
                       rotate_left
                       ·simp only [Act.put, Zj, Zk, Zm, i64_w, i32_w]
                        rfl
                       refine take_ (i := 12) (N := some 18) (v := ?_) (a' := ?_) #[T, T, T, T, F, F, T, T, T, T, T, T, T, F, F] rfl rfl (by kernel_rfl) (fun _ _ _ h => h) (Or.inl ⟨by rfl, ?_⟩) hHeld ?_ ?_
                       rotate_left
                       ·rintro w' ⟨s0, s1, s2, s3, s4, s5, s6, s7, s8, s9, s10⟩
                        go_simp
                        with_reducible rfl
                       rotate_left
                       ·simp only [Act.put, Zj, Zk, Zm, i64_w, i32_w]
                        rfl
                       refine one_ (i := 4) (N := some 10) #[T, T, T, T, T, F, T, T, T, T, T, T, T, F, F] rfl rfl (by kernel_rfl) (by decide) (fun K hK => ?_)
                       refine goes_ Try.func55 (by kernel_rfl) rfl #[.agg #[.string ((rd_T71 l0 x71_3).f0.f0), .int .i64 ((rd_T71 l0 x71_3).f0.f1), .int .i64 ((rd_T71 l0 x71_3).f0.f2), .int .i64 ((rd_T71 l0 x71_3).f0.f3), .int .i64 ((rd_T71 l0 x71_3).f1), .int .i64 ((rd_T71 l0 x71_3).f2)]] (by rfl) rfl rfl (Zl) ?_
                       with_reducible refine (Qbg.calls ((rd_T71 l0 x71_3).f0.f0) ((rd_T71 l0 x71_3).f0.f1) ((rd_T71 l0 x71_3).f0.f2) ((rd_T71 l0 x71_3).f0.f3) ((rd_T71 l0 x71_3).f1) ((rd_T71 l0 x71_3).f2) t233 _ A54.out).mono ?_
                       rintro e w62 ⟨rfl, hb⟩
                       have HS9_ := (hb.cell (World.block_lt_of_cell? _ _ (hHeld.2.2.2.2.2.2.2.2.2.1))).trans (hHeld.2.2.2.2.2.2.2.2.2.1)
                       refine ⟨_, rfl, ?_⟩
                       replace HO_6 := Aside0.mk (Kd.R_below (Zr HO_6.out) hb)
                       replace HO_17 := Aside0.mk (Kd.R_below (Zr HO_17.out) hb)
                       replace HO_222000 := Aside0.mk (Kd.R_below (Zr HO_222000.out) hb)
                       replace BK215 := Aside0.mk (Zi BK215.out hb)
                       replace BK221 := Aside0.mk (Zi BK221.out hb)
                       replace BK228 := Aside0.mk (Zi BK228.out hb)
                       replace HB := Aside0.mk (Qap (Zc3 GE215.out GE221.out GE228.out) hb)
                       (try clear hb)
                       (try clear hb2)
                       (try clear hk)
                       (try clear hi)
                       refine hK.out _ _ ⟨(Qah BK215.out 0).trans rfl, (Qah BK228.out 0).trans rfl, (Qah BK221.out 0).trans rfl, ((HB.out.cell (World.block_lt_of_cell? w _ hw232_0)).trans hw232_0), ((HB.out.cell (World.block_lt_of_cell? w _ hw232_1)).trans hw232_1), ((HB.out.cell (World.block_lt_of_cell? w _ hw232_2)).trans hw232_2), ((HB.out.cell (World.block_lt_of_cell? w _ hw232_3)).trans hw232_3), ((HB.out.cell (World.block_lt_of_cell? w _ hw232_4)).trans hw232_4), ((HB.out.cell (World.block_lt_of_cell? w _ hw232_5)).trans hw232_5), HS9_, ((HB.out.cell (World.block_lt_of_cell? w _ hw235_0)).trans hw235_0)⟩ (fun hHeld => ?_)
                       clear hK K
                       refine norm_ (a' := ?_) ?_ ?_
                       rotate_left
                       ·show Act.put _ (some 10) _ = _
                        simp only [Act.put, Zj, Zk, Zm, i64_w, i32_w]
                        rfl
                       refine pure_ (i := 5) (N := some 11) (v := ?_) (a' := ?_) #[T, T, T, T, T, T, T, T, T, T, T, T, T, F, F] rfl rfl (by kernel_rfl) (fun _ _ _ h => h) (Or.inl ⟨by rfl, ?_⟩) ?_ ?_
                       rotate_left
                       ·intro w'
                        go_simp
                        with_reducible rfl
                       rotate_left
                       ·simp only [Act.put, Zj, Zk, Zm, i64_w, i32_w]
                        rfl
                       refine pure_ (i := 13) (N := some 19) (v := ?_) (a' := ?_) #[T, T, T, T, T, T, T, T, T, T, T, T, T, T, F] rfl rfl (by kernel_rfl) (fun _ _ _ h => h) (Or.inl ⟨by rfl, ?_⟩) ?_ ?_
                       rotate_left
                       ·intro w'
                        go_simp
                        with_reducible rfl
                       rotate_left
                       ·simp only [Act.put, Zj, Zk, Zm, i64_w, i32_w]
                        rfl
                       refine pure_ (i := 14) (N := some 5) (v := ?_) (a' := ?_) #[T, T, T, T, T, T, T, T, T, T, T, T, T, T, T] rfl rfl (by kernel_rfl) (fun _ _ _ h => h) (Or.inl ⟨by rfl, ?_⟩) ?_ ?_
                       rotate_left
                       ·intro w'
                        go_simp
                        with_reducible rfl
                       rotate_left
                       ·simp only [Act.put, Zj, Zk, Zm, i64_w, i32_w]
                        rfl
                       refine done_ (by kernel_rfl) ?_
                       have p59 : 0 ≤ (x71_3 : Int) := Ze
                       have q59 : (x71_3 : Int) < ((x17_3.length : Int) : Int) := Ze
                       obtain ⟨go59, co59, eo59, gb59, gl59, cl59, HG59⟩ := Kd.R_form HO_17.out (by omega)
                       (first | cases eo59 | (injection eo59 with ea_ en_ ec_; (first | subst ea_ | (injection ea_ with ea_; subst ea_)); subst ec_; clear en_))
                       have GB59 := Aside0.mk gb59
                       have GG59 := Aside0.mk HG59
                       clear gb59 gl59 HG59
                       obtain ⟨hx59_0, hf59_0⟩ := Kd.R_celln 0 HO_17.out (x71_3 : Int) p59 q59
                       replace p59 := eq_true p59
                       replace q59 := eq_true q59
                       obtain ⟨hy63_, hz63_⟩ := Kd.R_celln 0 HO_17.out (x71_3 : Int) (Ze) (Ze)
                       have HP63 := Kd.R_putg HO_17.out (x71_3 : Int) (wrap64 ((wrap64 (-t233)) * (rd (rd_L4 l2 x59_2) (rd x222000_2 x71_3))))
                       go_upto_region 26 with (first | ((with_reducible refine Qbu (t := 3) (p := 79) rfl ?_); (refine gate_n (n := 94) rfl ?_); refine Qbn (t := 3) (p := 79) (v := ?vo_w64) (w1 := (w62.setCell ⟨go59, (x71_3 : Int).toNat, none⟩ (.int .i64 (wrap64 ((wrap64 (-t233)) * (rd (rd_L4 l2 x59_2) (rd x222000_2 x71_3))))))) ?hg ?ho ?hn ?hr ?_; (case ho => rfl); (case hg => rfl); (case hn => rfl); (case hr => first | (go_simp; done) | (go_simp; rfl)); intro w64 hw; have hg : w62.grownBy w64 (some go59) := (by rw [hw]; exact HP63.2); have hp_ : Kd.R (Kd.int .i64) 3 w64 w.heap.size (fun k_ => some k_ ≠ (u6 : Value).ownBlock ∧ some k_ ≠ (.slice (some ad234) x222000_2.length co61 : Value).ownBlock) (.slice (some ⟨go59, 0, none⟩) x17_3.length co59) y236 := (by rw [hw, Ny236.out]; exact HP63.1); clear HP63; replace HO_6 := Aside0.mk (Kd.R_after (v := (.slice (some ⟨go59, 0, none⟩) x17_3.length co59)) (v1 := (.slice (some ⟨go59, 0, none⟩) x17_3.length co59)) (ok := (fun k_ => some k_ ≠ (.slice (some ad234) x222000_2.length co61 : Value).ownBlock)) (by (with_reducible repeat (first | apply Kd.R_alloc | apply Kd.R_drewN | apply Kd.R_drew)); exact Kd.R_mono HO_6.out (fun _ hk => ⟨hk.2, hk.1⟩)) hg (.inl rfl)); replace HO_222000 := Aside0.mk (Kd.R_after (v := (.slice (some ⟨go59, 0, none⟩) x17_3.length co59)) (v1 := (.slice (some ⟨go59, 0, none⟩) x17_3.length co59)) (ok := (fun k_ => some k_ ≠ (u6 : Value).ownBlock)) (Zr HO_222000.out) hg (.inl rfl)); replace BK215 := Aside0.mk (QaY (g := gb215) (o := .cells #[.slice (some ad232) l0.length c0] 22 (0, 0)) (Zu BK215.out) hg (Kd.R_ne HO_17.out BK215.out (by decide))); replace BK221 := Aside0.mk (QaY (g := gb221) (o := .cells #[.slice (some ad234) x222000_2.length co61] 32 (0, 0)) (Zu BK221.out) hg (Kd.R_ne HO_17.out BK221.out (by decide))); replace BK228 := Aside0.mk (QaY (g := gb228) (o := .cells #[.slice (some ad235) (rd_L4 l2 x59_2).length c227_0] 32 (0, 0)) (Zu BK228.out) hg (Kd.R_ne HO_17.out BK228.out (by decide))); replace HO_17 := Aside0.mk (hp_); replace HB := Aside0.mk ((by rw [hw]; exact Qaj (HB.out) GB59.out : Below w.heap.size w w64)); clear hg hw hp_))
                       (try simp only [Act.put, Zj, Zk, Zm])
                       have H' := Aside0.mk H
                       clear H
                       go_wp2
                       go_roundg k3
                       case measure => have := HK1.out; have := HK2.out; have := HK3.out; omega
                       case rel => exact ⟨(y236), (wrap64 (x71_3 + 1)), (Zs), H', ⟨by have := HK1.out; have := HK2.out; have := HK3.out; omega⟩, ⟨by (with_reducible repeat (first | apply Kd.R_alloc | apply Kd.R_drewN | apply Kd.R_drew)); exact Kd.R_mono HO_6.out (fun _ hk => ⟨hk.2, hk.1⟩)⟩, ⟨Zr HO_17.out⟩, ⟨Zr HO_222000.out⟩, ⟨Zu BK215.out⟩, ⟨Zu BK221.out⟩, ⟨Zu BK228.out⟩, ⟨Zc3 GE215.out GE221.out GE228.out⟩⟩
                      rw [if_neg c58] at H
                      exact absurd H (by simp)
                     rw [if_neg c57] at H
                     exact absurd H (by simp)
                    rw [if_neg c56] at H
                    exact absurd H (by simp)
                   rw [if_neg c55] at H
                   exact absurd H (by simp)
                  rw [if_neg c53] at H
                  exact absurd H (by simp)
                 rw [if_neg c52] at H
                 exact absurd H (by simp)
                rw [if_neg c51] at H
                have c51b0 : decide (x71_3 < (l0.length : Int)) = F := decide_eq_false c51
                clear c51
                (try simp only [c51b0])
                replace H := Option.bind_eq_some_iff.mp H
                obtain ⟨⟨t237, t238⟩, A650, H⟩ := H
                replace H : (if t238 = 0 then (if x6_2.length < 17592186044416 then (Qao.l1 k3 (x6_2 ++ [t237]) l2 (l2.length : Int) (wrap64 (x59_2 + 1)) l0 x222000_2) else (none)) else (some (([] : List Int), 3))) = some (r1, r2) := H
                have A65 := Aside0.mk A650
                clear A650
                obtain ⟨Ao66, co66, eo66⟩ := Kd.R_slice HO_17.out
                subst eo66
                go_upto_if 87 with (first | ((with_reducible refine QaI (f := 56) rfl ?_); refine goesL_ (some 83) rfl rfl Try.func56 (by kernel_rfl) rfl #[.slice Ao66 x17_3.length co66] rfl (Zl) ?_; (with_reducible refine (QaD.calls k3 _ _ x17_3 t237 t238 _ ?side1 ?side2 A65.out).mono ?_); (case side1 => exact Zv (Kd.R_reads' HO_17.out).2.2); (case side2 => exact (Kd.R_reads' HO_17.out).2.1); rintro e w' ⟨rfl, ⟨nd, rfl⟩⟩; refine ⟨_, rfl, ?_⟩))
                (try simp only [Act.put, Zj, Zk, Zm])
                by_cases c67 : t238 = 0
                ·rw [if_pos c67] at H
                 have c67b0 : (t238 == 0) = T := beq_iff_eq.mpr c67
                 have c67b1 : (t238 != 0) = F := bne_eq_false_iff_eq.mpr c67
                 clear c67
                 (try simp only [c67b0, c67b1])
                 by_cases c68 : x6_2.length < 17592186044416
                 ·rw [if_pos c68] at H
                  have LMc68 := Aside0.mk c68
                  clear c68
                  obtain ⟨y239, hy239⟩ : ∃ y_ : List Int, y_ = (x6_2 ++ [t237]) := ⟨_, rfl⟩
                  replace H : (Qao.l1 k3 y239 l2 (l2.length : Int) (wrap64 (x59_2 + 1)) l0 x222000_2) = some (r1, r2) := by first | (rw [hy239]; with_reducible exact H) | (have H2_ := (Option.bind_some _ _).symm.trans H; rw [hy239]; with_reducible exact H2_) | (have H2_ := (Option.bind_some _ _).symm.trans H; with_reducible exact H2_) | with_reducible exact H | (rw [hy239]; exact H) | exact H
                  have Ny239 := Aside0.mk hy239
                  clear hy239
                  have H' := Aside0.mk H
                  clear H
                  go_wp2_with (first | ((with_reducible refine Qa8 (b := .append) (xs := #[.tmp 88, .tmp 90]) rfl ?_); at_builtin; refine Kd.R_append (Kd.int .i64) (w0 := w) w.heap.size rfl (.tmp 88) (.tmp 90) 32 3 (.int .i64 0) 8 rfl Try.underlying32 info3 rfl (by decide) (by omega) u6 x6_2 t237 [.int .i64 t237] (fun k_ => some k_ ≠ (.slice Ao66 x17_3.length co66 : Value).ownBlock ∧ some k_ ≠ (u222000 : Value).ownBlock) (fun _ => False) rfl rfl ?aP (fun _ hk => hk.elim) ?aF ?aO ?aB ?aS ?aL ?_; (case aP => exact rfl); (case aB => exact (Zc3 GE215.out GE221.out GE228.out)); (case aF => exact (fun k_ hk => ⟨Kd.fresh' (Kd.R_lt (Zr HO_17.out)) k_ hk, Kd.fresh' (Kd.R_lt (Zr HO_222000.out)) k_ hk⟩)); (case aO => exact (Zr HO_6.out)); (case aS => exact (Qax (Zc3 GE215.out GE221.out GE228.out))); (case aL => have := LMc68.out; omega); intro v240 w69 ho hb hg hat; rw [← Ny239.out] at ho; have HO241 := Aside0.mk (ho); replace HO_17 := Aside0.mk (Kd.R_after (ok := (fun k_ => some k_ ≠ (u222000 : Value).ownBlock)) (by (with_reducible repeat (first | apply Kd.R_alloc | apply Kd.R_drewN | apply Kd.R_drew)); exact Kd.R_mono HO_17.out (fun _ hk => ⟨hk.2, hk.1⟩)) hg hat); replace HO_222000 := Aside0.mk (Kd.R_after (ok := (fun k_ => some k_ ≠ (.slice Ao66 x17_3.length co66 : Value).ownBlock)) (by (with_reducible repeat (first | apply Kd.R_alloc | apply Kd.R_drewN | apply Kd.R_drew)); exact Kd.R_mono HO_222000.out (fun _ hk => ⟨hk.2, hk.1⟩)) hg hat); replace BK215 := Aside0.mk (QaY (g := gb215) (o := .cells #[.slice A0 l0.length c0] 22 (0, 0)) (Zu BK215.out) hg (Kd.R_ne HO_6.out BK215.out (by decide))); replace BK221 := Aside0.mk (QaY (g := gb221) (o := .cells #[u222000] 32 (0, 0)) (Zu BK221.out) hg (Kd.R_ne HO_6.out BK221.out (by decide))); replace BK228 := Aside0.mk (QaY (g := gb228) (o := .cells #[.slice A227_0 (rd_L4 l2 x59_2).length c227_0] 32 (0, 0)) (Zu BK228.out) hg (Kd.R_ne HO_6.out BK228.out (by decide))); replace HB := Aside0.mk (hb); clear HO_6; clear ho hb hg hat))
                  go_roundg k3
                  case measure => have := HK1.out; have := HK2.out; have := HK3.out; omega
                  case rel => exact ⟨(y239), (wrap64 (x59_2 + 1)), (x222000_2), (u222000), (Zs), H', ⟨by have := HK1.out; have := HK2.out; have := HK3.out; omega⟩, ⟨by (with_reducible repeat (first | apply Kd.R_alloc | apply Kd.R_drewN | apply Kd.R_drew)); exact Kd.R_mono HO241.out (fun _ hk => hk.2)⟩, ⟨by (with_reducible repeat (first | apply Kd.R_alloc | apply Kd.R_drewN | apply Kd.R_drew)); exact Kd.R_mono HO_222000.out (fun _ hk => hk.2)⟩, ⟨Zu BK215.out⟩, ⟨Zu BK221.out⟩, ⟨Zc3 GE215.out GE221.out GE228.out⟩⟩
                 rw [if_neg c68] at H
                 exact absurd H (by simp)
                rw [if_neg c67] at H
                have c67b0 : (t238 == 0) = F := beq_eq_false_iff_ne.mpr c67
                have c67b1 : (t238 != 0) = T := bne_iff_ne.mpr c67
                (try simp only [c67b0, c67b1])
                simp only [Option.some.injEq, Prod.mk.injEq] at H
                obtain ⟨rfl, rfl⟩ := H
                go_wp2
                go_ret2
                exact ⟨_, Zq, by first | exact Kd.R_nil _ _ _ _ _ | exact Kd.N_nil _ _ _ _ _ | exact Kd.V_nil _ _ _ _ _ | exact Kd.Q_nil _ _ _ _ _ | exact Kd.S_nil _ _ _ _ _, Zc3 GE215.out GE221.out GE228.out⟩
             rw [if_neg c44] at H
             exact absurd H (by simp)
            rw [if_neg c43] at H
            exact absurd H (by simp)
           rw [if_neg c41] at H
           exact absurd H (by simp)
          rw [if_neg c40] at H
          exact absurd H (by simp)
         rw [if_neg c39] at H
         have c39b0 : decide (x59_2 < (l2.length : Int)) = F := decide_eq_false c39
         clear c39
         (try simp only [c39b0])
         simp only [Option.some.injEq, Prod.mk.injEq] at H
         obtain ⟨rfl, rfl⟩ := H
         go_wp2
         go_ret2
         exact ⟨_, Zq, by (with_reducible repeat (first | apply Kd.R_alloc | apply Kd.R_drewN | apply Kd.R_drew)); exact Kd.R_mono HO_6.out (fun _ hk => trivial), Zc2 GE215.out GE221.out⟩
    rw [if_neg c13] at H
    exact absurd H (by simp)
   rw [if_neg c12] at H
   exact absurd H (by simp)
  rw [if_neg c11] at H
  have c11b0 : (t217 == 0) = F := beq_eq_false_iff_ne.mpr c11
  have c11b1 : (t217 != 0) = T := bne_iff_ne.mpr c11
  (try simp only [c11b0, c11b1])
  simp only [Option.some.injEq, Prod.mk.injEq] at H
  obtain ⟨rfl, rfl⟩ := H
  go_wp2
  go_ret2
  exact ⟨_, Zq, by first | exact Kd.R_nil _ _ _ _ _ | exact Kd.N_nil _ _ _ _ _ | exact Kd.V_nil _ _ _ _ _ | exact Kd.Q_nil _ _ _ _ _ | exact Kd.S_nil _ _ _ _ _, Zc1 GE215.out⟩
 rw [if_neg c7] at H
 have c7b0 : (t216 == 0) = F := beq_eq_false_iff_ne.mpr c7
 have c7b1 : (t216 != 0) = T := bne_iff_ne.mpr c7
 (try simp only [c7b0, c7b1])
 simp only [Option.some.injEq, Prod.mk.injEq] at H
 obtain ⟨rfl, rfl⟩ := H
 go_wp2
 go_ret2
 exact ⟨_, Zq, by first | exact Kd.R_nil _ _ _ _ _ | exact Kd.N_nil _ _ _ _ _ | exact Kd.V_nil _ _ _ _ _ | exact Kd.Q_nil _ _ _ _ _ | exact Kd.S_nil _ _ _ _ _, Zc1 GE215.out⟩
def Qan.l0 : Nat → List Int → Int → Int → Option (Int)
 | 0, _, _, _ => none
 | k + 1, x0, x7, x8 => if x8 < x7 then (if 0 ≤ x8 then (if x8 < (x0.length : Int) then ((Qbf.f (rd x0 x8)).bind fun t366 => (if t366 = T then (some x8) else (Qan.l0 k x0 x7 (wrap64 (x8 + 1))))) else (none)) else (none)) else (some (-1))
def Qan.f (k : Nat) (l0 : List Int)  : Option (Int) := Qan.l0 k l0 (l0.length : Int) 0
theorem Qan.mono_l : ∀ k, (∀ y0 y1 y2, LeO (Qan.l0 k y0 y1 y2) (Qan.l0 (k + 1) y0 y1 y2))
 | 0 => fun _ _ _ r h => by simp [Qan.l0] at h
 | k + 1 => by
  have ih0 := Qan.mono_l k
  intro y0 y1 y2
  unfold Qan.l0
  exact ZM1 ih0
theorem Qan.mono : ∀ a0 k, LeO (Qan.f k a0) (Qan.f (k + 1) a0) := by
 intro a0 k
 have ih0 := Qan.mono_l k
 unfold Qan.f
 exact ZM1 ih0
theorem Qan.calls (k : Nat) (A0 : Option Addr) (c0 : Nat) (l0 : List Int)  (r : Int) (w : World) (hr0 : Kd.C (Kd.int .i64) w A0 l0.length l0) (hc0 : l0.length ≤ c0) (h : Qan.f k l0 = some r) :
  Calls Try.prog 199 #[.slice A0 l0.length c0, .func (.func 138) #[] #[]] w fun e w' => e = .returned (.int .i64 r) ∧ Drawn0 w w' := by
 have HR0 := Aside0.mk hr0
 have HC0 := Aside0.mk hc0
 clear hr0 hc0
 have H : (Qan.l0 k l0 (l0.length : Int) 0) = some r := h
 clear h
 have H' := Aside0.mk H
 clear H
 go_enter Try.func199, Try.ntmps199
 go_wp2
 go_loopg [8] k (fun kq v8 w' => ∃ (x8_1 : Int), v8 = .int .i64 x8_1 ∧ Aside0 (Qan.l0 kq l0 (l0.length : Int) x8_1 = some r) ∧ Aside0 (kq ≤ k) ∧ Drawn0 w w')
 case atStart => exact ⟨(0), (Zs), H', ⟨Nat.le_refl _⟩, Zd⟩
 case round =>
  clear H'
  try clear p2
  obtain ⟨x8_1, rfl, HA, HK1, ⟨m1, rfl⟩⟩ := hrel
  cases gk with
  | zero => exact absurd HA.out (by simp [Qan.l0])
  | succ k1 =>
   have H := HA.out
   clear HA
   simp only [Qan.l0] at H
   by_cases c3 : x8_1 < (l0.length : Int)
   ·rw [if_pos c3] at H
    have c3b0 : decide (x8_1 < (l0.length : Int)) = T := decide_eq_true c3
    clear c3
    (try simp only [c3b0])
    by_cases c4 : 0 ≤ x8_1
    ·rw [if_pos c4] at H
     have c4b0 : decide (0 ≤ x8_1) = T := decide_eq_true c4
     clear c4
     by_cases c5 : x8_1 < (l0.length : Int)
     ·rw [if_pos c5] at H
      have c5b0 : decide (x8_1 < (l0.length : Int)) = T := decide_eq_true c5
      clear c5
      replace H := Option.bind_eq_some_iff.mp H
      obtain ⟨t366, A60, H⟩ := H
      replace H : (if t366 = T then (some x8_1) else (Qan.l0 k1 l0 (l0.length : Int) (wrap64 (x8_1 + 1)))) = some r := H
      have A6 := Aside0.mk A60
      clear A60
      have p365 : 0 ≤ (x8_1 : Int) := Ze
      have q365 : x8_1 < (l0.length : Int) := Ze
      obtain ⟨ad365, e365, hx365_0⟩ := Kd.at_int HR0.out x8_1 p365 q365
      cases e365
      replace p365 := eq_true p365
      replace q365 := eq_true q365
      go_upto_if 16 with (first | (go_at_call 138; (with_reducible refine (Qbf.calls (rd l0 x8_1) t366 _ A6.out).mono ?_); rintro e w' ⟨rfl, ⟨nd, rfl⟩⟩))
      (try simp only [Act.put, Zj, Zk, Zm])
      by_cases c7 : t366 = T
      ·subst c7
       have H1 : (some x8_1) = some r := by rw [if_pos rfl] at H; exact H
       clear H
       have H := H1
       clear H1
       obtain rfl := Option.some.inj H
       go_wp2
       go_ret
       exact ⟨Zs, Zd⟩
      replace c7 := Bool.eq_false_iff.mpr c7
      subst c7
      have H1 : (Qan.l0 k1 l0 (l0.length : Int) (wrap64 (x8_1 + 1))) = some r := by rw [if_neg (show ¬ (F = T) by decide)] at H; exact H
      clear H
      have H := H1
      clear H1
      have H' := Aside0.mk H
      clear H
      go_wp2
      go_roundg k1
      case measure => have := HK1.out; omega
      case rel => exact ⟨(wrap64 (x8_1 + 1)), (Zs), H', ⟨by have := HK1.out; omega⟩, Zd⟩
     rw [if_neg c5] at H
     exact absurd H (by simp)
    rw [if_neg c4] at H
    exact absurd H (by simp)
   rw [if_neg c3] at H
   have c3b0 : decide (x8_1 < (l0.length : Int)) = F := decide_eq_false c3
   clear c3
   (try simp only [c3b0])
   obtain rfl := Option.some.inj H
   go_wp2
   go_ret
   exact ⟨Zs, Zd⟩
def QaB.f (k : Nat) (l0 : List Int)  : Option (Bool) := (Qan.f k l0).bind fun t367 => (some (decide (t367 ≥ 0)))
theorem QaB.mono : ∀ a0 k, LeO (QaB.f k a0) (QaB.f (k + 1) a0) := by
 intro a0 k
 unfold QaB.f
 exact ZM1 Qan.mono
theorem QaB.calls (k : Nat) (A0 : Option Addr) (c0 : Nat) (l0 : List Int)  (r : Bool) (w : World) (hr0 : Kd.C (Kd.int .i64) w A0 l0.length l0) (hc0 : l0.length ≤ c0) (h : QaB.f k l0 = some r) :
  Calls Try.prog 132 #[.slice A0 l0.length c0, .func (.func 138) #[] #[]] w fun e w' => e = .returned (.bool r) ∧ Drawn0 w w' := by
 have HR0 := Aside0.mk hr0
 have HC0 := Aside0.mk hc0
 clear hr0 hc0
 have H : ((Qan.f k l0).bind fun t367 => (some (decide (t367 ≥ 0)))) = some r := h
 clear h
 replace H := Option.bind_eq_some_iff.mp H
 obtain ⟨t367, A30, H⟩ := H
 replace H : (some (decide (t367 ≥ 0))) = some r := H
 have A3 := Aside0.mk A30
 clear A30
 obtain rfl := Option.some.inj H
 go_enter Try.func132, Try.ntmps132
 go_wp2_with (first | ((with_reducible refine QaI (f := 199) rfl ?_); refine goesL_ (some 7) rfl rfl Try.func199 (by kernel_rfl) rfl #[.slice A0 l0.length c0, .func (.func 138) #[] #[]] rfl (Zl) ?_; (with_reducible refine (Qan.calls k _ _ l0  t367 _ ?side1 ?side2 A3.out).mono ?_); (case side1 => exact Zv HR0.out); (case side2 => exact HC0.out); rintro e w' ⟨rfl, ⟨nd, rfl⟩⟩; refine ⟨_, rfl, ?_⟩))
 go_ret
 exact ⟨Zs, Zd⟩
end Go.Proofs.Ytgnmhfjfefgbfaa.Pr
