/- Functions' values and contracts, as the print wrote them. -/
import Derived.Test.YtgnmhfjfefgbfaaQ5C0P0
import Derived.Test.YtgnmhfjfefgbfaaQ5C0P1
namespace Go.Proofs.Ytgnmhfjfefgbfaa.Pr
open Bool renaming true → T
open Bool renaming false → F
open Go.RowKit Go.Proofs.YtgnmhfjfefgbfaaW.PrintWords Go.Proofs.YtgnmhfjfefgbfaaW.PrintLast Go.Proofs.YtgnmhfjfefgbfaaW.PrintMore
attribute [local go_sem] QaR QaT QaY QaZ QaN QaO QaS QaU   -- for this text's walks alone
set_option linter.unusedVariables false
set_option linter.unusedSimpArgs false
set_option maxRecDepth 100000
set_option maxHeartbeats 8000000
mutual
def Qaz.j0 : Nat → List (S71) → List (S128) → List Int → Int → List (S128) → Bool → Option (List Int × Int)
 | 0, _, _, _, _, _, _ => none
 | k + 1, x0, x1, x4, x5, x6, x25 => if x25 = T then (some (([] : List Int), x5)) else (if 0 < (x1.length : Int) then (Qaz.l0 k x0 x4 x6 (((Qaa x1 0).f1).length : Int) 0) else (none))
def Qaz.l0 : Nat → List (S71) → List Int → List (S128) → Int → Int → Option (List Int × Int)
 | 0, _, _, _, _, _ => none
 | k + 1, x0, x4, x6, x31, x32 => if x32 < x31 then (Qaz.l1 k x0 x4 x6 x32 ([] : List Int) x31 x32 x0 (x0.length : Int) 0) else (some (x4, 0))
def Qaz.l1 : Nat → List (S71) → List Int → List (S128) → Int → List Int → Int → Int → List (S71) → Int → Int → Option (List Int × Int)
 | 0, _, _, _, _, _, _, _, _, _, _ => none
 | k + 1, x0, x4, x6, x7, x8, x31, x32, x35, x36, x37 => if x37 < x36 then (if 0 ≤ x37 then (if x37 < (x35.length : Int) then (if x37 < (x6.length : Int) then (if 0 ≤ x7 then (if x7 < (((Qaa x6 x37).f1).length : Int) then (if x8.length < 17592186044416 then (Qaz.l1 k x0 x4 x6 x7 (x8 ++ [wrap64 ((wrap64 (((rd_T71 x35 x37).f1) - ((rd_T71 x35 x37).f2))) * (rd ((Qaa x6 x37).f1) x7))]) x31 x32 x35 x36 (wrap64 (x37 + 1))) else (none)) else (none)) else (none)) else (none)) else (none)) else (none)) else ((QaV.f k x8).bind fun bt146 => (if bt146.2 = 0 then (if x4.length < 17592186044416 then (Qaz.l0 k x0 (x4 ++ [bt146.1]) x6 x31 (wrap64 (x32 + 1))) else (none)) else (some (([] : List Int), bt146.2))))
end
def Qaz.f (k : Nat) (l0 : List (S71)) (l1 : List (S128)) : Option (List Int × Int) := (QaD.f k l0 l1).bind fun bt134 => (if bt134.2 = 0 then (Qaz.j0 k l0 l1 ([] : List Int) bt134.2 bt134.1 ((l1.length : Int) == 0)) else (Qaz.j0 k l0 l1 ([] : List Int) bt134.2 bt134.1 T))
theorem Qaz.mono_l : ∀ k, (∀ y0 y1 y2 y3 y4 y5, LeO (Qaz.j0 k y0 y1 y2 y3 y4 y5) (Qaz.j0 (k + 1) y0 y1 y2 y3 y4 y5)) ∧ (∀ y0 y1 y2 y3 y4, LeO (Qaz.l0 k y0 y1 y2 y3 y4) (Qaz.l0 (k + 1) y0 y1 y2 y3 y4)) ∧ (∀ y0 y1 y2 y3 y4 y5 y6 y7 y8 y9, LeO (Qaz.l1 k y0 y1 y2 y3 y4 y5 y6 y7 y8 y9) (Qaz.l1 (k + 1) y0 y1 y2 y3 y4 y5 y6 y7 y8 y9))
 | 0 => ⟨fun _ _ _ _ _ _ r h => by simp [Qaz.j0] at h, fun _ _ _ _ _ r h => by simp [Qaz.l0] at h, fun _ _ _ _ _ _ _ _ _ _ r h => by simp [Qaz.l1] at h⟩
 | k + 1 => by
  obtain ⟨ih0, ih1, ih2⟩ := Qaz.mono_l k
  refine ⟨?_, ?_, ?_⟩
  ·intro y0 y1 y2 y3 y4 y5
   unfold Qaz.j0
   exact ZM5 ih0 ih1 ih2 QaV.mono QaD.mono
  ·intro y0 y1 y2 y3 y4
   unfold Qaz.l0
   exact ZM5 ih0 ih1 ih2 QaV.mono QaD.mono
  intro y0 y1 y2 y3 y4 y5 y6 y7 y8 y9
  unfold Qaz.l1
  exact ZM5 ih0 ih1 ih2 QaV.mono QaD.mono
theorem Qaz.mono : ∀ a0 a1 k, LeO (Qaz.f k a0 a1) (Qaz.f (k + 1) a0 a1) := by
 intro a0 a1 k
 obtain ⟨ih0, ih1, ih2⟩ := Qaz.mono_l k
 unfold Qaz.f
 exact ZM5 ih0 ih1 ih2 QaV.mono QaD.mono
def Qaz.T11 : Bool × List (List Nat × List Nat) := (T, [([], []), ([], []), ([1], [1]), ([], []), ([3], [3]), ([2, 4], [2, 4]), ([], []), ([], []), ([6, 7], [6, 7]), ([8], [8]), ([9], [9]), ([], []), ([10, 11], [10, 11]), ([12], [12]), ([5, 13], [5, 13]), ([14], [14]), ([0, 15], [0, 15]), ([16, 16, 0, 1, 2, 3, 4, 5, 6, 7, 8, 9, 10, 11, 12, 13, 14, 15, 16], [0, 16])])
def Qaz.B11 : List Nat := [0, 0, 2, 0, 8, 30, 0, 0, 192, 448, 960, 0, 4032, 8128, 16382, 32766, 65535, 131071]
theorem Qaz.tab11 : rtab .any (opsOf Try.f24 11) = Qaz.T11 := by kernel_rfl
theorem Qaz.bits11 : Qbb Qaz.T11.2 Qaz.B11 = T := by kernel_rfl
theorem Qaz.calls (k : Nat) (A0 : Option Addr) (c0 : Nat) (l0 : List (S71)) (A1 : Option Addr) (c1 : Nat) (l1 : List (S128)) (r1 : List Int) (r2 : Int) (w : World) (hr0 : Kd.C k71 w A0 l0.length l0) (hc0 : l0.length ≤ c0) (hr1 : Kd.C k128 w A1 l1.length l1) (hc1 : l1.length ≤ c1) (h : Qaz.f k l0 l1 = some (r1, r2)) :
  Calls Try.prog 24 #[.slice A0 l0.length c0, .slice A1 l1.length c1] w fun e w' => ∃ v0_ : Value, e = .returned (.tuple #[v0_, .int .i64 r2]) ∧ Kd.R (Kd.int .i64) 3 w' w.heap.size (fun _ => True) v0_ r1 ∧ Below w.heap.size w w' := by
 have hu71 := Try.underlying71
 have HR0 := Aside0.mk hr0
 have HC0 := Aside0.mk hc0
 clear hr0 hc0
 have HR1 := Aside0.mk hr1
 have HC1 := Aside0.mk hc1
 clear hr1 hc1
 have HB := Aside0.mk (Below.refl w.heap.size w)
 have H : ((QaD.f k l0 l1).bind fun bt134 => (if bt134.2 = 0 then (Qaz.j0 k l0 l1 ([] : List Int) bt134.2 bt134.1 ((l1.length : Int) == 0)) else (Qaz.j0 k l0 l1 ([] : List Int) bt134.2 bt134.1 T))) = some (r1, r2) := h
 clear h
 replace H := Option.bind_eq_some_iff.mp H
 obtain ⟨⟨t134, t137⟩, A30, H⟩ := H
 replace H : (if t137 = 0 then (Qaz.j0 k l0 l1 ([] : List Int) t137 t134 ((l1.length : Int) == 0)) else (Qaz.j0 k l0 l1 ([] : List Int) t137 t134 T)) = some (r1, r2) := H
 have A3 := Aside0.mk A30
 clear A30
 have HC4 := Aside0.mk H
 clear H
 go_enter Try.func24, Try.ntmps24
 go_upto_region 2 with (first | ((with_reducible refine QaH (f := 58) rfl ?_); refine goesL_ (some 16) rfl rfl Try.func58 (by kernel_rfl) rfl #[.slice A0 l0.length c0, .slice A1 l1.length c1] rfl (Zl) ?_; (with_reducible refine (QaD.calls k _ _ l0 (fun k_ => k_ < w.heap.size) _ _ l1 t134 t137 _ ?side1 ?side2 ?side3 A3.out).mono ?_); (case side1 => exact Zv HR0.out); (case side2 => exact HC0.out); (case side3 => exact Kd.V_mk HC1.out (Kd.F_below (Kd.C_F Qb5 HR1.out) (Zb))); rintro e w5 ⟨v135, rfl, ho0, hb⟩; refine ⟨_, rfl, ?_⟩; have HO136 := Aside0.mk (Kd.N_lower (Kd.N_mono (ok' := fun k_ => True) ho0 (fun k_ hk_ => trivial)) (Qax (Zb))); replace HB := Aside0.mk (Qav (Zb) hb); (try clear hb); (try clear hb2); (try clear hk); (try clear hi); (try clear ho0)))
 (try simp only [Act.put, Zj, Zk, Zm])
 go_cut [25] (fun v25 wc => ∃ (kq : Nat) (x25_3 : Bool), v25 = .bool x25_3 ∧ Aside0 (Qaz.j0 kq l0 l1 ([] : List Int) t137 t134 x25_3 = some (r1, r2)) ∧ Aside0 (kq ≤ k) ∧ Aside0 (Kd.R (Kd.int .i64) 3 wc w.heap.size (fun _ => True) (.slice none 0 0) ([] : List Int)) ∧ Aside0 (Kd.N k128 128 wc w.heap.size (fun k_ => some k_ ≠ ((.slice none 0 0) : Value).ownBlock) v135 t134) ∧ Aside0 (Below w.heap.size w wc))
 case first =>
  have H := HC4.out
  clear HC4
  by_cases c6 : t137 = 0
  ·rw [if_pos c6] at H
   have c6b0 : (t137 == 0) = T := beq_iff_eq.mpr c6
   have c6b1 : (t137 != 0) = F := bne_eq_false_iff_eq.mpr c6
   clear c6
   have H' := Aside0.mk H
   clear H
   go_wp2
   go_meet
   case rel => exact ⟨_, (((l1.length : Int) == 0)), (Zs), H', ⟨by first | omega | exact Nat.le_refl _⟩, ⟨by first | exact Kd.R_nil _ _ _ _ _ | exact Kd.N_nil _ _ _ _ _ | exact Kd.V_nil _ _ _ _ _ | exact Kd.Q_nil _ _ _ _ _ | exact Kd.S_nil _ _ _ _ _⟩, ⟨by (with_reducible repeat (first | apply Kd.N_alloc | apply Kd.N_drewN | apply Kd.N_drew)); exact Kd.N_mono HO136.out (fun _ hk => (by simp [Value.ownBlock]))⟩, ⟨Zb⟩⟩
  rw [if_neg c6] at H
  have c6b0 : (t137 == 0) = F := beq_eq_false_iff_ne.mpr c6
  have c6b1 : (t137 != 0) = T := bne_iff_ne.mpr c6
  have H' := Aside0.mk H
  clear H
  go_wp2
  go_meet
  case rel => exact ⟨_, (T), (Zs), H', ⟨by first | omega | exact Nat.le_refl _⟩, ⟨by first | exact Kd.R_nil _ _ _ _ _ | exact Kd.N_nil _ _ _ _ _ | exact Kd.V_nil _ _ _ _ _ | exact Kd.Q_nil _ _ _ _ _ | exact Kd.S_nil _ _ _ _ _⟩, ⟨by (with_reducible repeat (first | apply Kd.N_alloc | apply Kd.N_drewN | apply Kd.N_drew)); exact Kd.N_mono HO136.out (fun _ hk => (by simp [Value.ownBlock]))⟩, ⟨Zb⟩⟩
 case rest =>
  clear HC4
  try clear c1
  try clear c2
  try clear p2
  try clear c5
  try clear c6
  try clear c6b0
  try clear c6b1
  obtain ⟨kq, x25_3, rfl, HA, HJ3, HO_4, HO_6, HB⟩ := hcut
  cases kq with
  | zero => exact absurd HA.out (by simp [Qaz.j0])
  | succ kj3 =>
   have H := HA.out
   clear HA
   simp only [Qaz.j0] at H
   by_cases c7 : x25_3 = T
   ·subst c7
    have H1 : (some (([] : List Int), t137)) = some (r1, r2) := by rw [if_pos rfl] at H; exact H
    clear H
    have H := H1
    clear H1
    simp only [Option.some.injEq, Prod.mk.injEq] at H
    obtain ⟨rfl, rfl⟩ := H
    go_wp2
    go_ret2
    exact ⟨_, Zq, by first | exact Kd.R_nil _ _ _ _ _ | exact Kd.N_nil _ _ _ _ _ | exact Kd.V_nil _ _ _ _ _ | exact Kd.Q_nil _ _ _ _ _ | exact Kd.S_nil _ _ _ _ _, Zb⟩
   replace c7 := Bool.eq_false_iff.mpr c7
   subst c7
   have H1 : (if 0 < (l1.length : Int) then (Qaz.l0 kj3 l0 ([] : List Int) t134 (((Qaa l1 0).f1).length : Int) 0) else (none)) = some (r1, r2) := by rw [if_neg (show ¬ (F = T) by decide)] at H; exact H
   clear H
   have H := H1
   clear H1
   by_cases c8 : 0 < (l1.length : Int)
   ·rw [if_pos c8] at H
    have c8b0 : decide (0 < (l1.length : Int)) = T := decide_eq_true c8
    have c8b1 : decide (0 < l1.length) = T := decide_eq_true (by omega)
    clear c8
    (try simp only [c8b0, c8b1])
    have H' := Aside0.mk H
    clear H
    have p138 : 0 ≤ (0 : Int) := (by omega)
    have q138 : 0 < (l1.length : Int) := Ze
    obtain ⟨ad138, A138_4, c138_4, e138, hx138_0, hx138_1, hx138_2, hx138_3, hx138_4, hx138_5, hl138_4, hi138_4⟩ := QbO HR1.out 0 p138 q138
    cases e138
    have qi138 : (0 < l1.length) = True := eq_true (by omega)
    (try rw [show ((0 : Int)).toNat = 0 from rfl] at hx138_0)
    (try rw [show 0 * 6 = 0 from rfl] at hx138_0)
    (try rw [Addr.add_zero'] at hx138_0)
    (try rw [show ((0 : Int)).toNat = 0 from rfl] at hx138_1)
    (try rw [show 0 * 6 = 0 from rfl] at hx138_1)
    (try rw [Addr.add_zero'] at hx138_1)
    (try rw [show ((0 : Int)).toNat = 0 from rfl] at hx138_2)
    (try rw [show 0 * 6 = 0 from rfl] at hx138_2)
    (try rw [Addr.add_zero'] at hx138_2)
    (try rw [show ((0 : Int)).toNat = 0 from rfl] at hx138_3)
    (try rw [show 0 * 6 = 0 from rfl] at hx138_3)
    (try rw [Addr.add_zero'] at hx138_3)
    (try rw [show ((0 : Int)).toNat = 0 from rfl] at hx138_4)
    (try rw [show 0 * 6 = 0 from rfl] at hx138_4)
    (try rw [Addr.add_zero'] at hx138_4)
    (try rw [show ((0 : Int)).toNat = 0 from rfl] at hx138_5)
    (try rw [show 0 * 6 = 0 from rfl] at hx138_5)
    (try rw [Addr.add_zero'] at hx138_5)
    replace hx138_0 := Zx HB.out hx138_0
    replace hx138_1 := Zx HB.out hx138_1
    replace hx138_2 := Zx HB.out hx138_2
    replace hx138_3 := Zx HB.out hx138_3
    replace hx138_4 := Zx HB.out hx138_4
    replace hx138_5 := Zx HB.out hx138_5
    have HR138_4 := Aside0.mk hi138_4
    have HC138_4 := Aside0.mk hl138_4
    clear hi138_4 hl138_4
    replace p138 := eq_true p138
    replace q138 := eq_true q138
    go_wp2
    go_loopg [4, 32] kj3 (fun kq v4 v32 w' => ∃ (x4_2 : List Int) (x32_2 : Int), v32 = .int .i64 x32_2 ∧ Aside0 (Qaz.l0 kq l0 x4_2 t134 (((Qaa l1 0).f1).length : Int) x32_2 = some (r1, r2)) ∧ Aside0 (kq ≤ kj3) ∧ Aside0 (Kd.R (Kd.int .i64) 3 w' w.heap.size (fun _ => True) v4 x4_2) ∧ Aside0 (Kd.N k128 128 w' w.heap.size (fun k_ => some k_ ≠ (v4 : Value).ownBlock) v135 t134) ∧ Aside0 (Below w.heap.size w w'))
    case atStart => exact ⟨(([] : List Int)), (0), (Zs), H', ⟨Nat.le_refl _⟩, ⟨Zr HO_4.out⟩, ⟨by (with_reducible repeat (first | apply Kd.N_alloc | apply Kd.N_drewN | apply Kd.N_drew)); exact HO_6.out⟩, ⟨Zb⟩⟩
    case round =>
     clear H'
     try clear c1
     try clear p1
     try clear q1
     try clear hx1
     try clear qi1
     try clear c2
     try clear p2
     try clear c5
     try clear c6
     try clear c6b0
     try clear c6b1
     try clear c7
     try clear c8
     try clear c8b0
     try clear c8b1
     try clear hx138_0
     try clear hx138_1
     try clear hx138_2
     try clear hx138_3
     try clear hx138_4
     try clear hx138_5
     try clear p138
     try clear p2
     try clear q138
     obtain ⟨x4_2, x32_2, rfl, HA, HK2, HO_4, HO_6, HB⟩ := hrel
     cases gk with
     | zero => exact absurd HA.out (by simp [Qaz.l0])
     | succ k2 =>
      have H := HA.out
      clear HA
      simp only [Qaz.l0] at H
      by_cases c9 : x32_2 < (((Qaa l1 0).f1).length : Int)
      ·rw [if_pos c9] at H
       have c9b0 : decide (x32_2 < (((Qaa l1 0).f1).length : Int)) = T := decide_eq_true c9
       clear c9
       (try simp only [c9b0])
       have H' := Aside0.mk H
       clear H
       go_wp2
       go_loopg [8, 37] k2 (fun kq v8 v37 w' => ∃ (x8_3 : List Int) (x37_3 : Int), v37 = .int .i64 x37_3 ∧ Aside0 (Qaz.l1 kq l0 x4_2 t134 x32_2 x8_3 (((Qaa l1 0).f1).length : Int) x32_2 l0 (l0.length : Int) x37_3 = some (r1, r2)) ∧ Aside0 (kq ≤ k2) ∧ Aside0 (Kd.R (Kd.int .i64) 3 w' w.heap.size (fun k_ => some k_ ≠ (v8 : Value).ownBlock) u4 x4_2) ∧ Aside0 (Kd.N k128 128 w' w.heap.size (fun k_ => some k_ ≠ (u4 : Value).ownBlock ∧ some k_ ≠ (v8 : Value).ownBlock) v135 t134) ∧ Aside0 (Kd.R (Kd.int .i64) 3 w' w.heap.size (fun k_ => some k_ ≠ (u4 : Value).ownBlock) v8 x8_3) ∧ Aside0 (Below w.heap.size w w'))
       case atStart => exact ⟨(([] : List Int)), (0), (Zs), H', ⟨Nat.le_refl _⟩, ⟨by (with_reducible repeat (first | apply Kd.R_alloc | apply Kd.R_drewN | apply Kd.R_drew)); exact Kd.R_mono HO_4.out (fun _ hk => (by simp [Value.ownBlock]))⟩, ⟨by (with_reducible repeat (first | apply Kd.N_alloc | apply Kd.N_drewN | apply Kd.N_drew)); exact Kd.N_mono HO_6.out (fun _ hk => ⟨hk, (by simp [Value.ownBlock])⟩)⟩, ⟨by first | exact Kd.R_nil _ _ _ _ _ | exact Kd.N_nil _ _ _ _ _ | exact Kd.V_nil _ _ _ _ _ | exact Kd.Q_nil _ _ _ _ _ | exact Kd.S_nil _ _ _ _ _⟩, ⟨Zb⟩⟩
       case round =>
        clear H'
        try clear c1
        try clear p1
        try clear q1
        try clear hx1
        try clear qi1
        try clear c2
        try clear p2
        try clear c5
        try clear c6
        try clear c6b0
        try clear c6b1
        try clear c7
        try clear c8
        try clear c8b0
        try clear c8b1
        try clear c9
        try clear c9b0
        try clear hx138_0
        try clear hx138_1
        try clear hx138_2
        try clear hx138_3
        try clear hx138_4
        try clear hx138_5
        try clear p1
        try clear p138
        try clear p2
        try clear q1
        try clear q138
        obtain ⟨x8_3, x37_3, rfl, HA, HK3, HO_4, HO_6, HO_8, HB⟩ := hrel
        cases gk with
        | zero => exact absurd HA.out (by simp [Qaz.l1])
        | succ k3 =>
         have H := HA.out
         clear HA
         simp only [Qaz.l1] at H
         by_cases c10 : x37_3 < (l0.length : Int)
         ·rw [if_pos c10] at H
          have c10b0 : decide (x37_3 < (l0.length : Int)) = T := decide_eq_true c10
          clear c10
          (try simp only [c10b0])
          by_cases c11 : 0 ≤ x37_3
          ·rw [if_pos c11] at H
           have c11b0 : decide (0 ≤ x37_3) = T := decide_eq_true c11
           clear c11
           by_cases c12 : x37_3 < (l0.length : Int)
           ·rw [if_pos c12] at H
            have c12b0 : decide (x37_3 < (l0.length : Int)) = T := decide_eq_true c12
            clear c12
            by_cases c13 : x37_3 < (t134.length : Int)
            ·rw [if_pos c13] at H
             have c13b0 : decide (x37_3 < (t134.length : Int)) = T := decide_eq_true c13
             clear c13
             by_cases c14 : 0 ≤ x32_2
             ·rw [if_pos c14] at H
              have c14b0 : decide (0 ≤ x32_2) = T := decide_eq_true c14
              clear c14
              by_cases c15 : x32_2 < (((Qaa t134 x37_3).f1).length : Int)
              ·rw [if_pos c15] at H
               have c15b0 : decide (x32_2 < (((Qaa t134 x37_3).f1).length : Int)) = T := decide_eq_true c15
               clear c15
               by_cases c16 : x8_3.length < 17592186044416
               ·rw [if_pos c16] at H
                have LMc16 := Aside0.mk c16
                clear c16
                obtain ⟨y143, hy143⟩ : ∃ y_ : List Int, y_ = (x8_3 ++ [wrap64 ((wrap64 (((rd_T71 l0 x37_3).f1) - ((rd_T71 l0 x37_3).f2))) * (rd ((Qaa t134 x37_3).f1) x32_2))]) := ⟨_, rfl⟩
                replace H : (Qaz.l1 k3 l0 x4_2 t134 x32_2 y143 (((Qaa l1 0).f1).length : Int) x32_2 l0 (l0.length : Int) (wrap64 (x37_3 + 1))) = some (r1, r2) := by first | (rw [hy143]; with_reducible exact H) | (have H2_ := (Option.bind_some _ _).symm.trans H; rw [hy143]; with_reducible exact H2_) | (have H2_ := (Option.bind_some _ _).symm.trans H; with_reducible exact H2_) | with_reducible exact H | (rw [hy143]; exact H) | exact H
                have Ny143 := Aside0.mk hy143
                clear hy143
                have H' := Aside0.mk H
                clear H
                have p139 : 0 ≤ (x37_3 : Int) := Ze
                have q139 : x37_3 < (l0.length : Int) := Ze
                obtain ⟨ad139, e139, hx139_0, hx139_1, hx139_2, hx139_3, hx139_4, hx139_5⟩ := at_T71 HR0.out x37_3 p139 q139
                cases e139
                replace hx139_0 := Zx HB.out hx139_0
                replace hx139_1 := Zx HB.out hx139_1
                replace hx139_2 := Zx HB.out hx139_2
                replace hx139_3 := Zx HB.out hx139_3
                replace hx139_4 := Zx HB.out hx139_4
                replace hx139_5 := Zx HB.out hx139_5
                replace p139 := eq_true p139
                replace q139 := eq_true q139
                try go_wp2_with (first | ((with_reducible refine Qa2 (N := 10) rfl ?_); (try (refine QbS (by rfl) ?_; dsimp only)); refine Zbx (N := 10) (cs := #[.string (⟨#[]⟩ : ByteArray), .int .i64 0, .int .i64 0, .int .i64 0, .int .i64 0, .int .i64 0]) (t := 71) ?_; intro gb140 hg w17 hbox hb; have BK140 := Aside0.mk (hbox); have GW140 := Aside0.mk (Zt w hg (Zb)); have GE140 := GW140; replace HO_4 := Aside0.mk (Kd.R_below (Zr HO_4.out) hb); replace HO_6 := Aside0.mk (Kd.N_below (Kd.N_elderB (by (with_reducible repeat (first | apply Kd.N_alloc | apply Kd.N_drewN | apply Kd.N_drew)); exact HO_6.out) gb140 (Nat.le_of_eq hg.symm)) hb); replace HO_8 := Aside0.mk (Kd.R_below (Zr HO_8.out) hb); replace HB := Aside0.mk (Qav (Zb) hb); clear hb hbox hg; obtain ⟨hcz18_0, hfz18_0⟩ := Zy (v := (.string (⟨#[]⟩ : ByteArray))) BK140.out 0; obtain ⟨hcz18_1, hfz18_1⟩ := Zy (v := (.int .i64 0)) BK140.out 1; obtain ⟨hcz18_2, hfz18_2⟩ := Zy (v := (.int .i64 0)) BK140.out 2; obtain ⟨hcz18_3, hfz18_3⟩ := Zy (v := (.int .i64 0)) BK140.out 3; obtain ⟨hcz18_4, hfz18_4⟩ := Zy (v := (.int .i64 0)) BK140.out 4; obtain ⟨hcz18_5, hfz18_5⟩ := Zy (v := (.int .i64 0)) BK140.out 5))
                have n0_ : Aside0 (Kd.R (Kd.int .i64) 3 ((((((w17.setCell ⟨gb140, 0, none⟩ (.string ((rd_T71 l0 x37_3).f0.f0))).setCell ⟨gb140, 1, none⟩ (.int .i64 ((rd_T71 l0 x37_3).f0.f1))).setCell ⟨gb140, 2, none⟩ (.int .i64 ((rd_T71 l0 x37_3).f0.f2))).setCell ⟨gb140, 3, none⟩ (.int .i64 ((rd_T71 l0 x37_3).f0.f3))).setCell ⟨gb140, 4, none⟩ (.int .i64 ((rd_T71 l0 x37_3).f1))).setCell ⟨gb140, 5, none⟩ (.int .i64 ((rd_T71 l0 x37_3).f2))) w.heap.size (fun k_ => some k_ ≠ (u8 : Value).ownBlock) u4 x4_2) := ⟨by (with_reducible repeat (first | apply Kd.R_alloc | apply Kd.R_drewN | apply Kd.R_drew)); exact Kd.R_mono (Kd.R_far (p := ⟨gb140, 5, none⟩) (Kd.R_far (p := ⟨gb140, 4, none⟩) (Kd.R_far (p := ⟨gb140, 3, none⟩) (Kd.R_far (p := ⟨gb140, 2, none⟩) (Kd.R_far (p := ⟨gb140, 1, none⟩) (Kd.R_far (p := ⟨gb140, 0, none⟩) (Kd.R_types HO_4.out BK140.out (by decide)) (fun _ hk => hk.2) (.string ((rd_T71 l0 x37_3).f0.f0))) (fun _ hk => hk.2) (.int .i64 ((rd_T71 l0 x37_3).f0.f1))) (fun _ hk => hk.2) (.int .i64 ((rd_T71 l0 x37_3).f0.f2))) (fun _ hk => hk.2) (.int .i64 ((rd_T71 l0 x37_3).f0.f3))) (fun _ hk => hk.2) (.int .i64 ((rd_T71 l0 x37_3).f1))) (fun _ hk => hk.2) (.int .i64 ((rd_T71 l0 x37_3).f2))) (fun _ hk => hk.1)⟩
                have n1_ : Aside0 (Kd.N k128 128 ((((((w17.setCell ⟨gb140, 0, none⟩ (.string ((rd_T71 l0 x37_3).f0.f0))).setCell ⟨gb140, 1, none⟩ (.int .i64 ((rd_T71 l0 x37_3).f0.f1))).setCell ⟨gb140, 2, none⟩ (.int .i64 ((rd_T71 l0 x37_3).f0.f2))).setCell ⟨gb140, 3, none⟩ (.int .i64 ((rd_T71 l0 x37_3).f0.f3))).setCell ⟨gb140, 4, none⟩ (.int .i64 ((rd_T71 l0 x37_3).f1))).setCell ⟨gb140, 5, none⟩ (.int .i64 ((rd_T71 l0 x37_3).f2))) w.heap.size (fun k_ => some k_ ≠ (u4 : Value).ownBlock ∧ some k_ ≠ (u8 : Value).ownBlock ∧ k_ ≠ gb140) v135 t134) := ⟨by (with_reducible repeat (first | apply Kd.N_alloc | apply Kd.N_drewN | apply Kd.N_drew)); exact Kd.N_mono (Kd.N_far (p := ⟨gb140, 5, none⟩) (Kd.N_far (p := ⟨gb140, 4, none⟩) (Kd.N_far (p := ⟨gb140, 3, none⟩) (Kd.N_far (p := ⟨gb140, 2, none⟩) (Kd.N_far (p := ⟨gb140, 1, none⟩) (Kd.N_far (p := ⟨gb140, 0, none⟩) (Kd.N_mono HO_6.out (fun k_ hk => (⟨hk, hk.2⟩ : _ ∧ k_ ≠ gb140))) (fun _ hk => hk.2) (.string ((rd_T71 l0 x37_3).f0.f0))) (fun _ hk => hk.2) (.int .i64 ((rd_T71 l0 x37_3).f0.f1))) (fun _ hk => hk.2) (.int .i64 ((rd_T71 l0 x37_3).f0.f2))) (fun _ hk => hk.2) (.int .i64 ((rd_T71 l0 x37_3).f0.f3))) (fun _ hk => hk.2) (.int .i64 ((rd_T71 l0 x37_3).f1))) (fun _ hk => hk.2) (.int .i64 ((rd_T71 l0 x37_3).f2))) (fun _ hk => ⟨hk.1.1.1, ⟨hk.1.1.2, hk.1.2⟩⟩)⟩
                have n2_ : Aside0 (Kd.R (Kd.int .i64) 3 ((((((w17.setCell ⟨gb140, 0, none⟩ (.string ((rd_T71 l0 x37_3).f0.f0))).setCell ⟨gb140, 1, none⟩ (.int .i64 ((rd_T71 l0 x37_3).f0.f1))).setCell ⟨gb140, 2, none⟩ (.int .i64 ((rd_T71 l0 x37_3).f0.f2))).setCell ⟨gb140, 3, none⟩ (.int .i64 ((rd_T71 l0 x37_3).f0.f3))).setCell ⟨gb140, 4, none⟩ (.int .i64 ((rd_T71 l0 x37_3).f1))).setCell ⟨gb140, 5, none⟩ (.int .i64 ((rd_T71 l0 x37_3).f2))) w.heap.size (fun k_ => some k_ ≠ (u4 : Value).ownBlock) u8 x8_3) := ⟨by (with_reducible repeat (first | apply Kd.R_alloc | apply Kd.R_drewN | apply Kd.R_drew)); exact Kd.R_mono (Kd.R_far (p := ⟨gb140, 5, none⟩) (Kd.R_far (p := ⟨gb140, 4, none⟩) (Kd.R_far (p := ⟨gb140, 3, none⟩) (Kd.R_far (p := ⟨gb140, 2, none⟩) (Kd.R_far (p := ⟨gb140, 1, none⟩) (Kd.R_far (p := ⟨gb140, 0, none⟩) (Kd.R_types HO_8.out BK140.out (by decide)) (fun _ hk => hk.2) (.string ((rd_T71 l0 x37_3).f0.f0))) (fun _ hk => hk.2) (.int .i64 ((rd_T71 l0 x37_3).f0.f1))) (fun _ hk => hk.2) (.int .i64 ((rd_T71 l0 x37_3).f0.f2))) (fun _ hk => hk.2) (.int .i64 ((rd_T71 l0 x37_3).f0.f3))) (fun _ hk => hk.2) (.int .i64 ((rd_T71 l0 x37_3).f1))) (fun _ hk => hk.2) (.int .i64 ((rd_T71 l0 x37_3).f2))) (fun _ hk => hk.1)⟩
                have n3_ : Aside0 (((((((w17.setCell ⟨gb140, 0, none⟩ (.string ((rd_T71 l0 x37_3).f0.f0))).setCell ⟨gb140, 1, none⟩ (.int .i64 ((rd_T71 l0 x37_3).f0.f1))).setCell ⟨gb140, 2, none⟩ (.int .i64 ((rd_T71 l0 x37_3).f0.f2))).setCell ⟨gb140, 3, none⟩ (.int .i64 ((rd_T71 l0 x37_3).f0.f3))).setCell ⟨gb140, 4, none⟩ (.int .i64 ((rd_T71 l0 x37_3).f1))).setCell ⟨gb140, 5, none⟩ (.int .i64 ((rd_T71 l0 x37_3).f2))).heap[gb140]? = some (.cells #[.string ((rd_T71 l0 x37_3).f0.f0), .int .i64 ((rd_T71 l0 x37_3).f0.f1), .int .i64 ((rd_T71 l0 x37_3).f0.f2), .int .i64 ((rd_T71 l0 x37_3).f0.f3), .int .i64 ((rd_T71 l0 x37_3).f1), .int .i64 ((rd_T71 l0 x37_3).f2)] 71 (0, 0))) := ⟨Zp2 BK140.out⟩
                have n4_ : Aside0 (Below w.heap.size w ((((((w17.setCell ⟨gb140, 0, none⟩ (.string ((rd_T71 l0 x37_3).f0.f0))).setCell ⟨gb140, 1, none⟩ (.int .i64 ((rd_T71 l0 x37_3).f0.f1))).setCell ⟨gb140, 2, none⟩ (.int .i64 ((rd_T71 l0 x37_3).f0.f2))).setCell ⟨gb140, 3, none⟩ (.int .i64 ((rd_T71 l0 x37_3).f0.f3))).setCell ⟨gb140, 4, none⟩ (.int .i64 ((rd_T71 l0 x37_3).f1))).setCell ⟨gb140, 5, none⟩ (.int .i64 ((rd_T71 l0 x37_3).f2)))) := ⟨Zc1 GE140.out⟩
                (try clear HO_4)
                (try clear HO_6)
                (try clear HO_8)
                (try clear BK140)
                (try clear HB)
                generalize ((((((w17.setCell ⟨gb140, 0, none⟩ (.string ((rd_T71 l0 x37_3).f0.f0))).setCell ⟨gb140, 1, none⟩ (.int .i64 ((rd_T71 l0 x37_3).f0.f1))).setCell ⟨gb140, 2, none⟩ (.int .i64 ((rd_T71 l0 x37_3).f0.f2))).setCell ⟨gb140, 3, none⟩ (.int .i64 ((rd_T71 l0 x37_3).f0.f3))).setCell ⟨gb140, 4, none⟩ (.int .i64 ((rd_T71 l0 x37_3).f1))).setCell ⟨gb140, 5, none⟩ (.int .i64 ((rd_T71 l0 x37_3).f2))) = w19 at n0_ n1_ n2_ n3_ n4_ ⊢
                have HO_4 := n0_
                have HO_6 := n1_
                have HO_8 := n2_
                have BK140 := n3_
                have HB := n4_
                clear n0_ n1_ n2_ n3_ n4_
                replace HO_4 := Aside0.mk (Kd.R_drew HO_4.out)
                replace HO_6 := Aside0.mk (Kd.N_drew HO_6.out)
                replace HO_8 := Aside0.mk (Kd.R_drew HO_8.out)
                replace BK140 := Aside0.mk (Qai BK140.out)
                replace HB := Aside0.mk (Qac HB.out)
                obtain ⟨Ao21, co21, eo21⟩ := Kd.N_slice HO_6.out
                (first | subst eo21 | (injection eo21 with f1_ f2_ f3_; have f4_ := f1_.symm; have f5_ := f3_.symm; clear f1_ f2_ f3_; subst f4_; subst f5_))
                have p141 : 0 ≤ (x37_3 : Int) := Ze
                have q141 : x37_3 < (t134.length : Int) := Ze
                obtain ⟨ad141, A141_4, c141_4, e141, hx141_0, hx141_1, hx141_2, hx141_3, hx141_4, hx141_5, hl141_4, hi141_4⟩ := QbO (Kd.N_reads' HO_6.out).2.2 x37_3 p141 q141
                cases e141
                obtain ⟨ce141, hce141, hMe141, hcc141⟩ := Kd.N_get HO_6.out z128 x37_3 p141 (by first | exact q141 | exact Ze | (have e_ := (Kd.N_reads' HO_6.out).1; omega))
                obtain ⟨ua141_4, uc141_4, rfl, ul141_4, ge141_4⟩ := QbZ hMe141
                have hv141_4 := hcc141 4 _ rfl
                rw [Qbd _ _ 4 (by omega)] at hv141_4
                replace hv141_4 := Option.some.inj (hv141_4.symm.trans hx141_4)
                injection hv141_4 with hva_ hvn_ hvc_
                rw [hva_] at ge141_4
                rw [hvc_] at ul141_4
                have HL141_4 := Aside0.mk (show Kd.V (Kd.int .i64) 3 _ w.heap.size _ _ ((Qaa t134 x37_3).f1) from Kd.V_mk ul141_4 ge141_4)
                clear hva_ hvn_ hvc_ ge141_4 ul141_4
                clear hcc141 hce141
                have HR141_4 := Aside0.mk hi141_4
                have HC141_4 := Aside0.mk hl141_4
                clear hi141_4 hl141_4
                replace p141 := eq_true p141
                replace q141 := eq_true q141
                have p142 : 0 ≤ (x32_2 : Int) := Ze
                have q142 : x32_2 < (((Qaa t134 x37_3).f1).length : Int) := Ze
                obtain ⟨ad142, e142, hx142_0⟩ := Kd.at_int (by repeat (first | (with_reducible exact HR141_4.out) | (with_reducible refine Kd.C_alloc ?_ _) | (with_reducible refine Kd.C_drewN ?_ _) | (with_reducible refine Kd.C_drew ?_) | exact HR141_4.out)) x32_2 p142 q142
                cases e142
                replace p142 := eq_true p142
                replace q142 := eq_true q142
                refine start_ (n := 18) (S := fun w' => w'.cell? ⟨gb140, 0, none⟩ = some (.string ((rd_T71 l0 x37_3).f0.f0)) ∧ w'.cell? ⟨gb140, 1, none⟩ = some (.int .i64 ((rd_T71 l0 x37_3).f0.f1)) ∧ w'.cell? ⟨gb140, 2, none⟩ = some (.int .i64 ((rd_T71 l0 x37_3).f0.f2)) ∧ w'.cell? ⟨gb140, 3, none⟩ = some (.int .i64 ((rd_T71 l0 x37_3).f0.f3)) ∧ w'.cell? ⟨gb140, 4, none⟩ = some (.int .i64 ((rd_T71 l0 x37_3).f1)) ∧ w'.cell? ⟨gb140, 5, none⟩ = some (.int .i64 ((rd_T71 l0 x37_3).f2)) ∧ w'.cell? (ad141.add ((x37_3).toNat * 6)) = some (.string ((Qaa t134 x37_3).f0.f0)) ∧ w'.cell? ⟨(ad141.add ((x37_3).toNat * 6)).block, (ad141.add ((x37_3).toNat * 6)).off + 1, none⟩ = some (.int .i64 ((Qaa t134 x37_3).f0.f1)) ∧ w'.cell? ⟨(ad141.add ((x37_3).toNat * 6)).block, (ad141.add ((x37_3).toNat * 6)).off + 2, none⟩ = some (.int .i64 ((Qaa t134 x37_3).f0.f2)) ∧ w'.cell? ⟨(ad141.add ((x37_3).toNat * 6)).block, (ad141.add ((x37_3).toNat * 6)).off + 3, none⟩ = some (.int .i64 ((Qaa t134 x37_3).f0.f3)) ∧ w'.cell? ⟨(ad141.add ((x37_3).toNat * 6)).block, (ad141.add ((x37_3).toNat * 6)).off + 4, none⟩ = some (.slice (some ad142) ((Qaa t134 x37_3).f1).length c141_4) ∧ w'.cell? ⟨(ad141.add ((x37_3).toNat * 6)).block, (ad141.add ((x37_3).toNat * 6)).off + 5, none⟩ = some (.int .i64 ((Qaa t134 x37_3).f2)) ∧ w'.cell? (ad142.add (x32_2).toNat) = some (.int .i64 (rd ((Qaa t134 x37_3).f1) x32_2))) (ds := [15, 16]) #[F, F, F, F, F, F, F, F, F, F, F, F, F, F, F, F, F, F] (by kernel_rfl) rfl rfl ⟨(Qad BK140.out 0).trans rfl, (Qad BK140.out 1).trans rfl, (Qad BK140.out 2).trans rfl, (Qad BK140.out 3).trans rfl, (Qad BK140.out 4).trans rfl, (Qad BK140.out 5).trans rfl, hx141_0, hx141_1, hx141_2, hx141_3, hx141_4, hx141_5, hx142_0⟩ (fun hHeld => ?_); refine QaP Qaz.tab11 Qaz.bits11 (fun HT_ HW_ => ?_)
                generalize w19.drew = w20 at HO_4 HO_6 HO_8 BK140 HB HL141_4 HR141_4 hx141_0 hx141_1 hx141_2 hx141_3 hx141_4 hx141_5 hx142_0 hHeld ⊢
                refine Zsp (i := 0) (N := some 42) (pm 18 1) HT_ ?_
                refine Zsp (i := 1) (N := some 43) (pm 18 2) HT_ ?_
                refine Zsp (i := 3) (N := some 45) #[T, T, F, T, F, F, F, F, F, F, F, F, F, F, F, F, F, F] HT_ ?_
                refine Zsp (i := 6) (N := some 48) #[T, T, F, T, F, F, T, F, F, F, F, F, F, F, F, F, F, F] HT_ ?_
                refine Zsp (i := 7) (N := some 49) #[T, T, F, T, F, F, T, T, F, F, F, F, F, F, F, F, F, F] HT_ ?_
                refine Zsp (i := 8) (N := some 50) #[T, T, F, T, F, F, T, T, T, F, F, F, F, F, F, F, F, F] HT_ ?_
                refine Zsp (i := 9) (N := some 51) #[T, T, F, T, F, F, T, T, T, T, F, F, F, F, F, F, F, F] HT_ ?_
                refine Zsp (i := 11) (N := some 53) #[T, T, F, T, F, F, T, T, T, T, F, T, F, F, F, F, F, F] HT_ ?_
                refine Zst (i := 2) (N := some 44) #[T, T, T, T, F, F, T, T, T, T, F, T, F, F, F, F, F, F] HT_ HW_ hHeld ?_ (hy := by (refine Or.inl ⟨by rfl, ?_⟩; rintro w' ⟨s0, s1, s2, s3, s4, s5, s6, s7, s8, s9, s10, s11, s12⟩; go_simp; with_reducible rfl))
                refine Zst (i := 4) (N := some 46) #[T, T, T, T, T, F, T, T, T, T, F, T, F, F, F, F, F, F] HT_ HW_ hHeld ?_ (hy := by (refine Or.inl ⟨by rfl, ?_⟩; rintro w' ⟨s0, s1, s2, s3, s4, s5, s6, s7, s8, s9, s10, s11, s12⟩; go_simp; with_reducible rfl))
                refine Zsp (i := 5) (N := some 47) #[T, T, T, T, T, T, T, T, T, T, F, T, F, F, F, F, F, F] HT_ ?_
                refine Zst (i := 10) (N := some 52) (pm 18 12) HT_ HW_ hHeld ?_ (hy := by (refine Or.inl ⟨by rfl, ?_⟩; rintro w' ⟨s0, s1, s2, s3, s4, s5, s6, s7, s8, s9, s10, s11, s12⟩; go_simp; with_reducible rfl))
                refine Zsp (i := 12) (N := some 54) (pm 18 13) HT_ ?_
                refine Zst (i := 13) (N := some 55) (pm 18 14) HT_ HW_ hHeld ?_ (hy := by (refine Or.inl ⟨by rfl, ?_⟩; rintro w' ⟨s0, s1, s2, s3, s4, s5, s6, s7, s8, s9, s10, s11, s12⟩; go_simp; with_reducible rfl))
                refine Zsp (i := 14) (N := some 56) (pm 18 15) HT_ ?_
                refine last_ (i := 15) (N := some 57) #[T, T, T, T, T, T, T, T, T, T, T, T, T, T, T, T, F, F] rfl rfl (one_of HT_.out (by kernel_rfl)) (by decide) (fun K hK => ?_)
                refine value_ (w1 := ?_) (v := ?_) (by rfl) rfl ?_ ?_
                rotate_left 2
                ·go_simp
                 constructor
                 ·rfl
                 rfl
                refine hK.out _ _ ?_
                clear hK K
                refine norm_ (a' := ?_) ?_ ?_
                rotate_left
                ·show Act.put _ (some 57) _ = _
                 simp only [Act.put, Zj, Zk, Zm, i64_w, i32_w]
                 rfl
                refine last_ (i := 16) (N := some 58) #[T, T, T, T, T, T, T, T, T, T, T, T, T, T, T, T, T, F] rfl rfl (one_of HT_.out (by kernel_rfl)) (by decide) (fun K hK => ?_)
                refine Kd.R_append_step (Kd.int .i64) (w0 := w) w.heap.size (by rfl) (.tmp 42) (.tmp 57) 32 3 (.int .i64 0) 8 rfl Try.underlying32 info3 rfl (by decide) (by omega) u8 x8_3 (wrap64 ((wrap64 (((rd_T71 l0 x37_3).f1) - ((rd_T71 l0 x37_3).f2))) * (rd ((Qaa t134 x37_3).f1) x32_2))) [.int .i64 (wrap64 ((wrap64 (((rd_T71 l0 x37_3).f1) - ((rd_T71 l0 x37_3).f2))) * (rd ((Qaa t134 x37_3).f1) x32_2)))] (fun k_ => some k_ ≠ (u4 : Value).ownBlock) (fun _ => False) rfl rfl ?aP (fun _ hk => hk.elim) ?aF ?aO ?aB ?aS ?aL ?_
                (case aP => exact rfl)
                (case aB => exact (Zc1 GE140.out))
                (case aF => exact (fun k_ hk => Kd.fresh' (Kd.R_lt (Zr HO_4.out)) k_ hk))
                (case aO => exact (Zr HO_8.out))
                (case aS => exact (Qax (Zc1 GE140.out)))
                (case aL => have := LMc16.out; omega)
                intro v144 w22 ho hb hg hat
                rw [← Ny143.out] at ho
                have HO145 := Aside0.mk (ho)
                replace HO_4 := Aside0.mk (Kd.R_after (ok := (fun _ => True)) (by (with_reducible repeat (first | apply Kd.R_alloc | apply Kd.R_drewN | apply Kd.R_drew)); exact Kd.R_mono HO_4.out (fun _ hk => ⟨trivial, hk⟩)) hg hat)
                replace HO_6 := Aside0.mk (Kd.N_afterv (ok := (fun k_ => some k_ ≠ (u4 : Value).ownBlock ∧ k_ ≠ gb140)) (by (with_reducible repeat (first | apply Kd.N_alloc | apply Kd.N_drewN | apply Kd.N_drew)); exact Kd.N_mono HO_6.out (fun _ hk => ⟨⟨hk.1, hk.2.2⟩, hk.2.1⟩)) hg hat)
                replace BK140 := Aside0.mk (Qa0 (g := gb140) (o := .cells #[.string ((rd_T71 l0 x37_3).f0.f0), .int .i64 ((rd_T71 l0 x37_3).f0.f1), .int .i64 ((rd_T71 l0 x37_3).f0.f2), .int .i64 ((rd_T71 l0 x37_3).f0.f3), .int .i64 ((rd_T71 l0 x37_3).f1), .int .i64 ((rd_T71 l0 x37_3).f2)] 71 (0, 0)) (Zu BK140.out) hg (Kd.R_ne HO_8.out BK140.out (by decide)))
                replace HL141_4 := Aside0.mk (Kd.V_afterv (ok := (fun k_ => some k_ ≠ (u4 : Value).ownBlock ∧ some k_ ≠ (.slice (some ad141) t134.length co21 : Value).ownBlock ∧ k_ ≠ gb140)) (by (with_reducible repeat (first | apply Kd.V_alloc | apply Kd.V_drewN | apply Kd.V_drew)); exact Kd.V_mono HL141_4.out (fun _ hk => ⟨⟨hk.1.1, ⟨hk.2, hk.1.2.2⟩⟩, hk.1.2.1⟩)) hg hat)
                replace HB := Aside0.mk (hb)
                clear HO_8
                clear ho hb hg hat
                refine hK.out _ _ ?_
                clear hK K
                refine norm_ (a' := ?_) ?_ ?_
                rotate_left
                ·show Act.put _ (some 58) _ = _
                 simp only [Act.put, Zj, Zk, Zm, i64_w, i32_w]
                 rfl
                refine Zsp (i := 17) (N := some 8) (pm 18 18) HT_ ?_
                refine done_ (QaX HT_.out (by kernel_rfl)) ?_
                try go_wp2
                go_roundg k3
                case measure => have := HJ3.out; have := HK2.out; have := HK3.out; omega
                case rel => exact ⟨(y143), (wrap64 (x37_3 + 1)), (Zs), H', ⟨by have := HJ3.out; have := HK2.out; have := HK3.out; omega⟩, ⟨by (with_reducible repeat (first | apply Kd.R_alloc | apply Kd.R_drewN | apply Kd.R_drew)); exact Kd.R_mono HO_4.out (fun _ hk => hk.2)⟩, ⟨by (with_reducible repeat (first | apply Kd.N_alloc | apply Kd.N_drewN | apply Kd.N_drew)); exact Kd.N_mono HO_6.out (fun _ hk => ⟨hk.1.1, hk.2⟩)⟩, ⟨Zr HO145.out⟩, ⟨Zc1 GE140.out⟩⟩
               rw [if_neg c16] at H
               exact absurd H (by simp)
              rw [if_neg c15] at H
              exact absurd H (by simp)
             rw [if_neg c14] at H
             exact absurd H (by simp)
            rw [if_neg c13] at H
            exact absurd H (by simp)
           rw [if_neg c12] at H
           exact absurd H (by simp)
          rw [if_neg c11] at H
          exact absurd H (by simp)
         rw [if_neg c10] at H
         have c10b0 : decide (x37_3 < (l0.length : Int)) = F := decide_eq_false c10
         clear c10
         (try simp only [c10b0])
         replace H := Option.bind_eq_some_iff.mp H
         obtain ⟨⟨t146, t147⟩, A230, H⟩ := H
         replace H : (if t147 = 0 then (if x4_2.length < 17592186044416 then (Qaz.l0 k3 l0 (x4_2 ++ [t146]) t134 (((Qaa l1 0).f1).length : Int) (wrap64 (x32_2 + 1))) else (none)) else (some (([] : List Int), t147))) = some (r1, r2) := H
         have A23 := Aside0.mk A230
         clear A230
         obtain ⟨Ao24, co24, eo24⟩ := Kd.R_slice HO_8.out
         subst eo24
         go_upto_if 66 with (first | ((with_reducible refine QaH (f := 56) rfl ?_); refine goesL_ (some 62) rfl rfl Try.func56 (by kernel_rfl) rfl #[.slice Ao24 x8_3.length co24] rfl (Zl) ?_; (with_reducible refine (QaV.calls k3 _ _ x8_3 t146 t147 _ ?side1 ?side2 A23.out).mono ?_); (case side1 => exact Zv (Kd.R_reads' HO_8.out).2.2); (case side2 => exact (Kd.R_reads' HO_8.out).2.1); rintro e w' ⟨rfl, ⟨nd, rfl⟩⟩; refine ⟨_, rfl, ?_⟩))
         (try simp only [Act.put, Zj, Zk, Zm])
         by_cases c25 : t147 = 0
         ·rw [if_pos c25] at H
          have c25b0 : (t147 == 0) = T := beq_iff_eq.mpr c25
          have c25b1 : (t147 != 0) = F := bne_eq_false_iff_eq.mpr c25
          clear c25
          (try simp only [c25b0, c25b1])
          by_cases c26 : x4_2.length < 17592186044416
          ·rw [if_pos c26] at H
           have LMc26 := Aside0.mk c26
           clear c26
           obtain ⟨y148, hy148⟩ : ∃ y_ : List Int, y_ = (x4_2 ++ [t146]) := ⟨_, rfl⟩
           replace H : (Qaz.l0 k3 l0 y148 t134 (((Qaa l1 0).f1).length : Int) (wrap64 (x32_2 + 1))) = some (r1, r2) := by first | (rw [hy148]; with_reducible exact H) | (have H2_ := (Option.bind_some _ _).symm.trans H; rw [hy148]; with_reducible exact H2_) | (have H2_ := (Option.bind_some _ _).symm.trans H; with_reducible exact H2_) | with_reducible exact H | (rw [hy148]; exact H) | exact H
           have Ny148 := Aside0.mk hy148
           clear hy148
           have H' := Aside0.mk H
           clear H
           go_wp2_with (first | ((with_reducible refine Qbr (b := .append) (xs := #[.tmp 68, .tmp 70]) rfl ?_); (try (refine QbS (by rfl) ?_; dsimp only)); at_builtin; refine Kd.R_append (Kd.int .i64) (w0 := w) w.heap.size rfl (.tmp 68) (.tmp 70) 32 3 (.int .i64 0) 8 rfl Try.underlying32 info3 rfl (by decide) (by omega) u4 x4_2 t146 [.int .i64 t146] (fun k_ => some k_ ≠ (.slice Ao24 x8_3.length co24 : Value).ownBlock) (fun _ => False) rfl rfl ?aP (fun _ hk => hk.elim) ?aF ?aO ?aB ?aS ?aL ?_; (case aP => exact rfl); (case aB => exact (Zb)); (case aF => exact (fun k_ hk => Kd.fresh' (Kd.R_lt (Zr HO_8.out)) k_ hk)); (case aO => exact (Zr HO_4.out)); (case aS => exact (Qax (Zb))); (case aL => have := LMc26.out; omega); intro v149 w27 ho hb hg hat; rw [← Ny148.out] at ho; have HO150 := Aside0.mk (ho); replace HO_6 := Aside0.mk (Kd.N_afterv (ok := (fun k_ => some k_ ≠ (.slice Ao24 x8_3.length co24 : Value).ownBlock)) (by (with_reducible repeat (first | apply Kd.N_alloc | apply Kd.N_drewN | apply Kd.N_drew)); exact Kd.N_mono HO_6.out (fun _ hk => ⟨hk.2, hk.1⟩)) hg hat); replace HO_8 := Aside0.mk (Kd.R_after (ok := (fun _ => True)) (by (with_reducible repeat (first | apply Kd.R_alloc | apply Kd.R_drewN | apply Kd.R_drew)); exact Kd.R_mono HO_8.out (fun _ hk => ⟨trivial, hk⟩)) hg hat); replace HB := Aside0.mk (hb); clear HO_4; clear ho hb hg hat))
           go_roundg k3
           case measure => have := HJ3.out; have := HK2.out; have := HK3.out; omega
           case rel => exact ⟨(y148), (wrap64 (x32_2 + 1)), (Zs), H', ⟨by have := HJ3.out; have := HK2.out; have := HK3.out; omega⟩, ⟨by (with_reducible repeat (first | apply Kd.R_alloc | apply Kd.R_drewN | apply Kd.R_drew)); exact Kd.R_mono HO150.out (fun _ hk => trivial)⟩, ⟨by (with_reducible repeat (first | apply Kd.N_alloc | apply Kd.N_drewN | apply Kd.N_drew)); exact Kd.N_mono HO_6.out (fun _ hk => hk.2)⟩, ⟨Zb⟩⟩
          rw [if_neg c26] at H
          exact absurd H (by simp)
         rw [if_neg c25] at H
         have c25b0 : (t147 == 0) = F := beq_eq_false_iff_ne.mpr c25
         have c25b1 : (t147 != 0) = T := bne_iff_ne.mpr c25
         (try simp only [c25b0, c25b1])
         simp only [Option.some.injEq, Prod.mk.injEq] at H
         obtain ⟨rfl, rfl⟩ := H
         go_wp2
         go_ret2
         exact ⟨_, Zq, by first | exact Kd.R_nil _ _ _ _ _ | exact Kd.N_nil _ _ _ _ _ | exact Kd.V_nil _ _ _ _ _ | exact Kd.Q_nil _ _ _ _ _ | exact Kd.S_nil _ _ _ _ _, Zb⟩
      rw [if_neg c9] at H
      have c9b0 : decide (x32_2 < (((Qaa l1 0).f1).length : Int)) = F := decide_eq_false c9
      clear c9
      (try simp only [c9b0])
      simp only [Option.some.injEq, Prod.mk.injEq] at H
      obtain ⟨rfl, rfl⟩ := H
      go_wp2
      go_ret2
      exact ⟨_, Zq, Zr HO_4.out, Zb⟩
   rw [if_neg c8] at H
   exact absurd H (by simp)
def QaI.l0 : Nat → Int → Int → Int → List Int → Int → Int → Option (Int × Int × Int)
 | 0, _, _, _, _, _, _ => none
 | k + 1, x4, x5, x6, x16, x17, x18 => if x18 < x17 then (if 0 ≤ x18 then (if x18 < (x16.length : Int) then (if (rd x16 x18) > x4 then (QaI.l0 k (rd x16 x18) x18 x6 x16 x17 (wrap64 (x18 + 1))) else (QaI.l0 k x4 x5 x6 x16 x17 (wrap64 (x18 + 1)))) else (none)) else (none)) else (some (x4, x5, x6))
def QaI.f (k : Nat) (l0 : List (S71)) (l1 : List (S128)) : Option (Int × Int × Int) := (Qaz.f k l0 l1).bind fun bt151 => (QaI.l0 k 0 0 bt151.2 bt151.1 (bt151.1.length : Int) 0)
theorem QaI.mono_l : ∀ k, (∀ y0 y1 y2 y3 y4 y5, LeO (QaI.l0 k y0 y1 y2 y3 y4 y5) (QaI.l0 (k + 1) y0 y1 y2 y3 y4 y5))
 | 0 => fun _ _ _ _ _ _ r h => by simp [QaI.l0] at h
 | k + 1 => by
  have ih0 := QaI.mono_l k
  intro y0 y1 y2 y3 y4 y5
  unfold QaI.l0
  exact ZM2 ih0 Qaz.mono
theorem QaI.mono : ∀ a0 a1 k, LeO (QaI.f k a0 a1) (QaI.f (k + 1) a0 a1) := by
 intro a0 a1 k
 have ih0 := QaI.mono_l k
 unfold QaI.f
 exact ZM2 ih0 Qaz.mono
theorem QaI.calls (k : Nat) (A0 : Option Addr) (c0 : Nat) (l0 : List (S71)) (A1 : Option Addr) (c1 : Nat) (l1 : List (S128)) (r1 : Int) (r2 : Int) (r3 : Int) (w : World) (hr0 : Kd.C k71 w A0 l0.length l0) (hc0 : l0.length ≤ c0) (hr1 : Kd.C k128 w A1 l1.length l1) (hc1 : l1.length ≤ c1) (h : QaI.f k l0 l1 = some (r1, r2, r3)) :
  Calls Try.prog 15 #[.slice A0 l0.length c0, .slice A1 l1.length c1] w fun e w' => e = .returned (.tuple #[.int .i64 r1, .int .i64 r2, .int .i64 r3]) ∧ Below w.heap.size w w' := by
 have HR0 := Aside0.mk hr0
 have HC0 := Aside0.mk hc0
 clear hr0 hc0
 have HR1 := Aside0.mk hr1
 have HC1 := Aside0.mk hc1
 clear hr1 hc1
 have HB := Aside0.mk (Below.refl w.heap.size w)
 have H : ((Qaz.f k l0 l1).bind fun bt151 => (QaI.l0 k 0 0 bt151.2 bt151.1 (bt151.1.length : Int) 0)) = some (r1, r2, r3) := h
 clear h
 replace H := Option.bind_eq_some_iff.mp H
 obtain ⟨⟨t151, t152⟩, A30, H⟩ := H
 replace H : (QaI.l0 k 0 0 t152 t151 (t151.length : Int) 0) = some (r1, r2, r3) := H
 have A3 := Aside0.mk A30
 clear A30
 have H' := Aside0.mk H
 clear H
 go_enter Try.func15, Try.ntmps15
 go_wp2_with (first | ((with_reducible refine QaH (f := 24) rfl ?_); refine goesL_ (some 13) rfl rfl Try.func24 (by kernel_rfl) rfl #[.slice A0 l0.length c0, .slice A1 l1.length c1] rfl (Zl) ?_; (with_reducible refine (Qaz.calls k _ _ l0 _ _ l1 t151 t152 _ ?side1 ?side2 ?side3 ?side4 A3.out).mono ?_); (case side1 => exact Zv HR0.out); (case side2 => exact HC0.out); (case side3 => exact Zv HR1.out); (case side4 => exact HC1.out); rintro e w4 ⟨v153, rfl, ho0, hb⟩; refine ⟨_, rfl, ?_⟩; have HO154 := Aside0.mk (Kd.R_lower ho0 (Qax (Zb))); replace HB := Aside0.mk (Qav (Zb) hb); (try clear hb); (try clear hb2); (try clear hk); (try clear hi); (try clear ho0); obtain ⟨Ao5, co5, eo5⟩ := Kd.R_slice HO154.out; subst eo5))
 go_loopg [4, 5, 18] k (fun kq v4 v5 v18 w' => ∃ (x4_1 : Int) (x5_1 : Int) (x18_1 : Int), v4 = .int .i64 x4_1 ∧ v5 = .int .i64 x5_1 ∧ v18 = .int .i64 x18_1 ∧ Aside0 (QaI.l0 kq x4_1 x5_1 t152 t151 (t151.length : Int) x18_1 = some (r1, r2, r3)) ∧ Aside0 (kq ≤ k) ∧ Aside0 (Kd.R (Kd.int .i64) 3 w' w.heap.size (fun _ => True) (.slice Ao5 t151.length co5) t151) ∧ Aside0 (Below w.heap.size w w'))
 case atStart => exact ⟨(0), (0), (0), (Zs), (Zs), (Zs), H', ⟨Nat.le_refl _⟩, ⟨Zr HO154.out⟩, ⟨Zb⟩⟩
 case round =>
  clear H'
  try clear c1
  try clear c2
  try clear p2
  obtain ⟨x4_1, x5_1, x18_1, rfl, rfl, rfl, HA, HK1, HO_16, HB⟩ := hrel
  cases gk with
  | zero => exact absurd HA.out (by simp [QaI.l0])
  | succ k1 =>
   have H := HA.out
   clear HA
   simp only [QaI.l0] at H
   by_cases c6 : x18_1 < (t151.length : Int)
   ·rw [if_pos c6] at H
    have c6b0 : decide (x18_1 < (t151.length : Int)) = T := decide_eq_true c6
    clear c6
    (try simp only [c6b0])
    by_cases c7 : 0 ≤ x18_1
    ·rw [if_pos c7] at H
     have c7b0 : decide (0 ≤ x18_1) = T := decide_eq_true c7
     clear c7
     by_cases c8 : x18_1 < (t151.length : Int)
     ·rw [if_pos c8] at H
      have c8b0 : decide (x18_1 < (t151.length : Int)) = T := decide_eq_true c8
      clear c8
      have p155 : 0 ≤ (x18_1 : Int) := Ze
      have q155 : x18_1 < (t151.length : Int) := Ze
      obtain ⟨ad155, e155, hx155_0⟩ := Kd.at_int (Kd.R_reads' HO_16.out).2.2 x18_1 p155 q155
      cases e155
      replace p155 := eq_true p155
      replace q155 := eq_true q155
      go_upto_if 25 with (fail)
      by_cases c9 : (rd t151 x18_1) > x4_1
      ·rw [if_pos c9] at H
       have c9b0 : decide (x4_1 < (rd t151 x18_1)) = T := decide_eq_true c9
       clear c9
       (try simp only [c9b0])
       have H' := Aside0.mk H
       clear H
       go_wp2
       go_roundg k1
       case measure => have := HK1.out; omega
       case rel => exact ⟨(rd t151 x18_1), (x18_1), (wrap64 (x18_1 + 1)), (Zs), (Zs), (Zs), H', ⟨by have := HK1.out; omega⟩, ⟨Zr HO_16.out⟩, ⟨Zb⟩⟩
      rw [if_neg c9] at H
      have c9b0 : decide (x4_1 < (rd t151 x18_1)) = F := decide_eq_false c9
      clear c9
      (try simp only [c9b0])
      have H' := Aside0.mk H
      clear H
      go_wp2
      go_roundg k1
      case measure => have := HK1.out; omega
      case rel => exact ⟨(x4_1), (x5_1), (wrap64 (x18_1 + 1)), (Zs), (Zs), (Zs), H', ⟨by have := HK1.out; omega⟩, ⟨Zr HO_16.out⟩, ⟨Zb⟩⟩
     rw [if_neg c8] at H
     exact absurd H (by simp)
    rw [if_neg c7] at H
    exact absurd H (by simp)
   rw [if_neg c6] at H
   have c6b0 : decide (x18_1 < (t151.length : Int)) = F := decide_eq_false c6
   clear c6
   (try simp only [c6b0])
   simp only [Option.some.injEq, Prod.mk.injEq] at H
   obtain ⟨rfl, rfl, rfl⟩ := H
   go_wp2
   go_ret3
   exact ⟨Zq, Zb⟩
def QaA.f (k : Nat)  : Option (Bool) := (QaI.f k (([(⟨(⟨(⟨#[111, 105, 108]⟩ : ByteArray), 1, 20, 0⟩ : S69), 1, 0⟩ : S71), (⟨(⟨(⟨#[111, 105, 108]⟩ : ByteArray), 3, 20, 5⟩ : S69), 2, 0⟩ : S71)] : List (S71))) (([(⟨(⟨(⟨#[111, 105, 108]⟩ : ByteArray), 1, 20, 0⟩ : S69), (([(-100), 0, 100] : List Int)), 1000⟩ : S128), (⟨(⟨(⟨#[111, 105, 108]⟩ : ByteArray), 3, 20, 5⟩ : S69), (([60, 10, (-20)] : List Int)), (-400)⟩ : S128)] : List (S128)))).bind fun bt170 => (if bt170.1 = 60 then (if bt170.2.1 = 2 then (some (bt170.2.2 == 0)) else (some F)) else (some F))
theorem QaA.mono : ∀ k, LeO (QaA.f k ) (QaA.f (k + 1) ) := by
 intro  k
 unfold QaA.f
 exact ZM1 QaI.mono
theorem QaA.calls (k : Nat)  (r : Bool) (w : World) (h : QaA.f k  = some r) :
  Calls Try.prog 10 #[] w fun e w' => e = .returned (.bool r) ∧ Below w.heap.size w w' := by
 have hu69 := Try.underlying69
 have hu128 := Try.underlying128
 have hu71 := Try.underlying71
 have HB := Aside0.mk (Below.refl w.heap.size w)
 have H : ((QaI.f k (([(⟨(⟨(⟨#[111, 105, 108]⟩ : ByteArray), 1, 20, 0⟩ : S69), 1, 0⟩ : S71), (⟨(⟨(⟨#[111, 105, 108]⟩ : ByteArray), 3, 20, 5⟩ : S69), 2, 0⟩ : S71)] : List (S71))) (([(⟨(⟨(⟨#[111, 105, 108]⟩ : ByteArray), 1, 20, 0⟩ : S69), (([(-100), 0, 100] : List Int)), 1000⟩ : S128), (⟨(⟨(⟨#[111, 105, 108]⟩ : ByteArray), 3, 20, 5⟩ : S69), (([60, 10, (-20)] : List Int)), (-400)⟩ : S128)] : List (S128)))).bind fun bt170 => (if bt170.1 = 60 then (if bt170.2.1 = 2 then (some (bt170.2.2 == 0)) else (some F)) else (some F))) = some r := h
 clear h
 obtain ⟨y158, hy158⟩ : ∃ y_ : List Int, y_ = (([(-100), 0, 100] : List Int)) := ⟨_, rfl⟩
 replace H : ((QaI.f k (([(⟨(⟨(⟨#[111, 105, 108]⟩ : ByteArray), 1, 20, 0⟩ : S69), 1, 0⟩ : S71), (⟨(⟨(⟨#[111, 105, 108]⟩ : ByteArray), 3, 20, 5⟩ : S69), 2, 0⟩ : S71)] : List (S71))) (([(⟨(⟨(⟨#[111, 105, 108]⟩ : ByteArray), 1, 20, 0⟩ : S69), y158, 1000⟩ : S128), (⟨(⟨(⟨#[111, 105, 108]⟩ : ByteArray), 3, 20, 5⟩ : S69), (([60, 10, (-20)] : List Int)), (-400)⟩ : S128)] : List (S128)))).bind fun bt170 => (if bt170.1 = 60 then (if bt170.2.1 = 2 then (some (bt170.2.2 == 0)) else (some F)) else (some F))) = some r := by first | (rw [hy158]; with_reducible exact H) | (have H2_ := (Option.bind_some _ _).symm.trans H; rw [hy158]; with_reducible exact H2_) | (have H2_ := (Option.bind_some _ _).symm.trans H; with_reducible exact H2_) | with_reducible exact H | (rw [hy158]; exact H) | exact H
 have Ny158 := Aside0.mk hy158
 clear hy158
 obtain ⟨y161, hy161⟩ : ∃ y_ : List Int, y_ = (([60, 10, (-20)] : List Int)) := ⟨_, rfl⟩
 replace H : ((QaI.f k (([(⟨(⟨(⟨#[111, 105, 108]⟩ : ByteArray), 1, 20, 0⟩ : S69), 1, 0⟩ : S71), (⟨(⟨(⟨#[111, 105, 108]⟩ : ByteArray), 3, 20, 5⟩ : S69), 2, 0⟩ : S71)] : List (S71))) (([(⟨(⟨(⟨#[111, 105, 108]⟩ : ByteArray), 1, 20, 0⟩ : S69), y158, 1000⟩ : S128), (⟨(⟨(⟨#[111, 105, 108]⟩ : ByteArray), 3, 20, 5⟩ : S69), y161, (-400)⟩ : S128)] : List (S128)))).bind fun bt170 => (if bt170.1 = 60 then (if bt170.2.1 = 2 then (some (bt170.2.2 == 0)) else (some F)) else (some F))) = some r := by first | (rw [hy161]; with_reducible exact H) | (have H2_ := (Option.bind_some _ _).symm.trans H; rw [hy161]; with_reducible exact H2_) | (have H2_ := (Option.bind_some _ _).symm.trans H; with_reducible exact H2_) | with_reducible exact H | (rw [hy161]; exact H) | exact H
 have Ny161 := Aside0.mk hy161
 clear hy161
 obtain ⟨y164, hy164⟩ : ∃ y_ : List (S128), y_ = (([(⟨(⟨(⟨#[111, 105, 108]⟩ : ByteArray), 1, 20, 0⟩ : S69), y158, 1000⟩ : S128), (⟨(⟨(⟨#[111, 105, 108]⟩ : ByteArray), 3, 20, 5⟩ : S69), y161, (-400)⟩ : S128)] : List (S128))) := ⟨_, rfl⟩
 replace H : ((QaI.f k (([(⟨(⟨(⟨#[111, 105, 108]⟩ : ByteArray), 1, 20, 0⟩ : S69), 1, 0⟩ : S71), (⟨(⟨(⟨#[111, 105, 108]⟩ : ByteArray), 3, 20, 5⟩ : S69), 2, 0⟩ : S71)] : List (S71))) y164).bind fun bt170 => (if bt170.1 = 60 then (if bt170.2.1 = 2 then (some (bt170.2.2 == 0)) else (some F)) else (some F))) = some r := by first | (rw [hy164]; with_reducible exact H) | (have H2_ := (Option.bind_some _ _).symm.trans H; rw [hy164]; with_reducible exact H2_) | (have H2_ := (Option.bind_some _ _).symm.trans H; with_reducible exact H2_) | with_reducible exact H | (rw [hy164]; exact H) | exact H
 have Ny164 := Aside0.mk hy164
 clear hy164
 obtain ⟨y167, hy167⟩ : ∃ y_ : List (S71), y_ = (([(⟨(⟨(⟨#[111, 105, 108]⟩ : ByteArray), 1, 20, 0⟩ : S69), 1, 0⟩ : S71), (⟨(⟨(⟨#[111, 105, 108]⟩ : ByteArray), 3, 20, 5⟩ : S69), 2, 0⟩ : S71)] : List (S71))) := ⟨_, rfl⟩
 replace H : ((QaI.f k y167 y164).bind fun bt170 => (if bt170.1 = 60 then (if bt170.2.1 = 2 then (some (bt170.2.2 == 0)) else (some F)) else (some F))) = some r := by first | (rw [hy167]; with_reducible exact H) | (have H2_ := (Option.bind_some _ _).symm.trans H; rw [hy167]; with_reducible exact H2_) | (have H2_ := (Option.bind_some _ _).symm.trans H; with_reducible exact H2_) | with_reducible exact H | (rw [hy167]; exact H) | exact H
 have Ny167 := Aside0.mk hy167
 clear hy167
 replace H := Option.bind_eq_some_iff.mp H
 obtain ⟨⟨t170, t171, t172⟩, A10, H⟩ := H
 replace H : (if t170 = 60 then (if t171 = 2 then (some (t172 == 0)) else (some F)) else (some F)) = some r := H
 have A1 := Aside0.mk A10
 clear A10
 go_enter Try.func10, Try.ntmps10
 go_upto_region 4 with (first | ((with_reducible refine Qa2 (N := 1) rfl ?_); refine Zbx (N := 1) (cs := #[.string (⟨#[]⟩ : ByteArray), .int .i64 0, .int .i64 0, .int .i64 0]) (t := 69) ?_; intro gb156 hg w2 hbox hb; have BK156 := Aside0.mk (hbox); have GW156 := Aside0.mk (Zt w hg (Zb)); have GE156 := GW156; replace HB := Aside0.mk (Qav (Zb) hb); clear hb hbox hg) | ((with_reducible refine Qa2 (N := 2) rfl ?_); refine Zbx (N := 2) (cs := #[.string (⟨#[]⟩ : ByteArray), .int .i64 0, .int .i64 0, .int .i64 0]) (t := 69) ?_; intro gb157 hg w3 hbox hb; have BK157 := Aside0.mk (hbox); have GW157 := Aside0.mk (Zt w hg (Zc1 GE156.out)); have GE157 := GW157; have NB156_157 := Aside0.mk (Zn hg BK156.out); have NB157_156 := Aside0.mk NB156_157.out.symm; replace BK156 := Aside0.mk (Zi BK156.out hb); replace HB := Aside0.mk (Qav (Zc1 GE156.out) hb); clear hb hbox hg; have hnb4 := NB156_157.out; have hnc4 := NB157_156.out; obtain ⟨hcz5_0, hfz5_0⟩ := Zy (v := (.string (⟨#[]⟩ : ByteArray))) BK156.out 0; obtain ⟨hcz5_1, hfz5_1⟩ := Zy (v := (.int .i64 0)) BK156.out 1; obtain ⟨hcz5_2, hfz5_2⟩ := Zy (v := (.int .i64 0)) BK156.out 2; obtain ⟨hcz5_3, hfz5_3⟩ := Zy (v := (.int .i64 0)) BK156.out 3; obtain ⟨hcz6_0, hfz6_0⟩ := Zy (v := (.string (⟨#[]⟩ : ByteArray))) BK157.out 0; obtain ⟨hcz6_1, hfz6_1⟩ := Zy (v := (.int .i64 0)) BK157.out 1; obtain ⟨hcz6_2, hfz6_2⟩ := Zy (v := (.int .i64 0)) BK157.out 2; obtain ⟨hcz6_3, hfz6_3⟩ := Zy (v := (.int .i64 0)) BK157.out 3) | ((with_reducible refine Qa2 (N := 10) rfl ?_); refine Kd.R_lit (Kd.int .i64) _ 3 ?hg (N := 10) ?hd (xs := ([(-100), 0, 100] : List Int)) (inner := [.int .i64 (-100), .int .i64 0, .int .i64 100]) (ok := fun _ => True) (okp := fun _ => True) ?hr ?hp (fun _ hk => hk) trivial (Below.refl _ _) (Nat.le_refl _) (by simp) ?_; (case hd => rfl); (case hg => rfl); (case hr => first | (go_simp; done) | (go_simp; rfl)); (case hp => exact (Reps.one (show Kd.M (Kd.int .i64) _ _ _ (-100) [.int .i64 (-100)] from rfl) (Reps.one (show Kd.M (Kd.int .i64) _ _ _ 0 [.int .i64 0] from rfl) (Reps.one (show Kd.M (Kd.int .i64) _ _ _ 100 [.int .i64 100] from rfl) (Reps.none _ _))))); intro v159 w7 ho8 hb hg_ hnew_; clear hg_ hnew_; (first | rw [← Ny158.out] at ho8 | (simp only [Int.reduceToNat] at ho8; rw [← Ny158.out] at ho8)); have HO160 := Aside0.mk (Kd.R_lower ho8 (Qax (Zc2 GE156.out GE157.out))); replace BK156 := Aside0.mk (Qaq (g := gb156) (o := .cells #[.string (⟨#[111, 105, 108]⟩ : ByteArray), .int .i64 1, .int .i64 20, .int .i64 0] 69 (0, 0)) (by (with_reducible repeat (first | refine Qah ?_ _ | refine Qai ?_ | refine Qag ?_ _)); refine Qa1 ?_ NB156_157.out _; (with_reducible repeat (first | refine Qah ?_ _ | refine Qai ?_ | refine Qag ?_ _)); refine Qa1 ?_ NB156_157.out _; (with_reducible repeat (first | refine Qah ?_ _ | refine Qai ?_ | refine Qag ?_ _)); refine Qa1 ?_ NB156_157.out _; (with_reducible repeat (first | refine Qah ?_ _ | refine Qai ?_ | refine Qag ?_ _)); refine Qa1 ?_ NB156_157.out _; (with_reducible repeat (first | refine Qah ?_ _ | refine Qai ?_ | refine Qag ?_ _)); refine Qaw (cs := #[.string (⟨#[111, 105, 108]⟩ : ByteArray), .int .i64 1, .int .i64 20, .int .i64 0]) ?_ 3 _ rfl; (with_reducible repeat (first | refine Qah ?_ _ | refine Qai ?_ | refine Qag ?_ _)); refine Qaw (cs := #[.string (⟨#[111, 105, 108]⟩ : ByteArray), .int .i64 1, .int .i64 0, .int .i64 0]) ?_ 2 _ rfl; (with_reducible repeat (first | refine Qah ?_ _ | refine Qai ?_ | refine Qag ?_ _)); refine Qaw (cs := #[.string (⟨#[111, 105, 108]⟩ : ByteArray), .int .i64 0, .int .i64 0, .int .i64 0]) ?_ 1 _ rfl; (with_reducible repeat (first | refine Qah ?_ _ | refine Qai ?_ | refine Qag ?_ _)); refine Qaw (cs := #[.string (⟨#[]⟩ : ByteArray), .int .i64 0, .int .i64 0, .int .i64 0]) ?_ 0 _ rfl; (with_reducible repeat (first | refine Qah ?_ _ | refine Qai ?_ | refine Qag ?_ _)); exact BK156.out) hb); replace BK157 := Aside0.mk (Qaq (g := gb157) (o := .cells #[.string (⟨#[111, 105, 108]⟩ : ByteArray), .int .i64 3, .int .i64 20, .int .i64 5] 69 (0, 0)) (by (with_reducible repeat (first | refine Qah ?_ _ | refine Qai ?_ | refine Qag ?_ _)); refine Qaw (cs := #[.string (⟨#[111, 105, 108]⟩ : ByteArray), .int .i64 3, .int .i64 20, .int .i64 0]) ?_ 3 _ rfl; (with_reducible repeat (first | refine Qah ?_ _ | refine Qai ?_ | refine Qag ?_ _)); refine Qaw (cs := #[.string (⟨#[111, 105, 108]⟩ : ByteArray), .int .i64 3, .int .i64 0, .int .i64 0]) ?_ 2 _ rfl; (with_reducible repeat (first | refine Qah ?_ _ | refine Qai ?_ | refine Qag ?_ _)); refine Qaw (cs := #[.string (⟨#[111, 105, 108]⟩ : ByteArray), .int .i64 0, .int .i64 0, .int .i64 0]) ?_ 1 _ rfl; (with_reducible repeat (first | refine Qah ?_ _ | refine Qai ?_ | refine Qag ?_ _)); refine Qaw (cs := #[.string (⟨#[]⟩ : ByteArray), .int .i64 0, .int .i64 0, .int .i64 0]) ?_ 0 _ rfl; (with_reducible repeat (first | refine Qah ?_ _ | refine Qai ?_ | refine Qag ?_ _)); refine Qa1 ?_ NB157_156.out _; (with_reducible repeat (first | refine Qah ?_ _ | refine Qai ?_ | refine Qag ?_ _)); refine Qa1 ?_ NB157_156.out _; (with_reducible repeat (first | refine Qah ?_ _ | refine Qai ?_ | refine Qag ?_ _)); refine Qa1 ?_ NB157_156.out _; (with_reducible repeat (first | refine Qah ?_ _ | refine Qai ?_ | refine Qag ?_ _)); refine Qa1 ?_ NB157_156.out _; (with_reducible repeat (first | refine Qah ?_ _ | refine Qai ?_ | refine Qag ?_ _)); exact BK157.out) hb); replace HB := Aside0.mk (Qav (Zc2 GE156.out GE157.out) hb); clear hb ho8; obtain ⟨Ao9, co9, eo9⟩ := Kd.R_slice HO160.out; subst eo9; obtain ⟨hcz10_0, hfz10_0⟩ := Zy (v := (.string (⟨#[111, 105, 108]⟩ : ByteArray))) BK157.out 0; obtain ⟨hcz10_1, hfz10_1⟩ := Zy (v := (.int .i64 3)) BK157.out 1; obtain ⟨hcz10_2, hfz10_2⟩ := Zy (v := (.int .i64 20)) BK157.out 2; obtain ⟨hcz10_3, hfz10_3⟩ := Zy (v := (.int .i64 5)) BK157.out 3) | ((with_reducible refine Qa2 (N := 13) rfl ?_); refine Kd.R_lit (Kd.int .i64) _ 3 ?hg (N := 13) ?hd (xs := ([60, 10, (-20)] : List Int)) (inner := [.int .i64 60, .int .i64 10, .int .i64 (-20)]) (ok := fun _ => True) (okp := fun _ => True) ?hr ?hp (fun _ hk => hk) trivial (Below.refl _ _) (Nat.le_refl _) (by simp) ?_; (case hd => rfl); (case hg => rfl); (case hr => first | (go_simp; done) | (go_simp; rfl)); (case hp => exact (Reps.one (show Kd.M (Kd.int .i64) _ _ _ 60 [.int .i64 60] from rfl) (Reps.one (show Kd.M (Kd.int .i64) _ _ _ 10 [.int .i64 10] from rfl) (Reps.one (show Kd.M (Kd.int .i64) _ _ _ (-20) [.int .i64 (-20)] from rfl) (Reps.none _ _))))); intro v162 w11 ho12 hb hg_ hnew_; clear hg_ hnew_; (first | rw [← Ny161.out] at ho12 | (simp only [Int.reduceToNat] at ho12; rw [← Ny161.out] at ho12)); have HO163 := Aside0.mk (Kd.R_lower (Kd.R_new' ho12 (Kd.R_lt (Zr HO160.out))) (Qax (Zc2 GE156.out GE157.out))); replace HO160 := Aside0.mk (Kd.R_elder' (Zr HO160.out) (Kd.R_base ho12) hb); replace BK156 := Aside0.mk (Zi BK156.out hb); replace BK157 := Aside0.mk (Zi BK157.out hb); replace HB := Aside0.mk (Qav (Zc2 GE156.out GE157.out) hb); clear hb ho12; obtain ⟨Ao13, co13, eo13⟩ := Kd.R_slice HO163.out; subst eo13) | ((with_reducible refine Qa2 (N := 15) rfl ?_); refine Kd.N_lit k128 _ 128 ?hg (N' := 15) ?hd (xs := ([(⟨(⟨(⟨#[111, 105, 108]⟩ : ByteArray), 1, 20, 0⟩ : S69), y158, 1000⟩ : S128), (⟨(⟨(⟨#[111, 105, 108]⟩ : ByteArray), 3, 20, 5⟩ : S69), y161, (-400)⟩ : S128)] : List (S128))) (inner := [.string (⟨#[111, 105, 108]⟩ : ByteArray), .int .i64 1, .int .i64 20, .int .i64 0, .slice Ao9 y158.length co9, .int .i64 1000, .string (⟨#[111, 105, 108]⟩ : ByteArray), .int .i64 3, .int .i64 20, .int .i64 5, .slice Ao13 y161.length co13, .int .i64 (-400)]) (ok := (fun k_ => k_ ≠ gb156 ∧ k_ ≠ gb157)) (okp := (fun k_ => k_ ≠ gb156 ∧ k_ ≠ gb157)) ?hr ?hp (fun _ hk => hk) ((show ∀ k_, w11.heap.size ≤ k_ → (fun k_ => k_ ≠ gb156 ∧ k_ ≠ gb157) k_ from fun k_ hk => ⟨Kd.freshB (g := gb156) (o := .cells #[.string (⟨#[111, 105, 108]⟩ : ByteArray), .int .i64 1, .int .i64 20, .int .i64 0] 69 (0, 0)) (Zu BK156.out) k_ hk, Kd.freshB (g := gb157) (o := .cells #[.string (⟨#[111, 105, 108]⟩ : ByteArray), .int .i64 3, .int .i64 20, .int .i64 5] 69 (0, 0)) (Zu BK157.out) k_ hk⟩) _ (Nat.le_refl _)) (Below.refl _ _) (Nat.le_refl _) (by simp) ?_; (case hd => rfl); (case hg => rfl); (case hr => first | (go_simp; done) | (go_simp; rfl)); (case hp => exact (Reps.c6 (show Kd.FK k128 _ _ (⟨(⟨(⟨#[111, 105, 108]⟩ : ByteArray), 1, 20, 0⟩ : S69), y158, 1000⟩ : S128) [.string (⟨#[111, 105, 108]⟩ : ByteArray), .int .i64 1, .int .i64 20, .int .i64 0, .slice Ao9 y158.length co9, .int .i64 1000] from (Qc4 _ _ (⟨(⟨(⟨#[111, 105, 108]⟩ : ByteArray), 1, 20, 0⟩ : S69), y158, 1000⟩ : S128) (Kd.R_reads' (Kd.R_mono (ok' := (fun k_ => k_ ≠ gb156 ∧ k_ ≠ gb157)) (Kd.R_types (Kd.R_types (HO160.out) BK156.out (by decide)) BK157.out (by decide)) (fun k_ hk => ⟨hk.1.2, hk.2⟩))).2.1 (Kd.R_F (Kd.R_mono (ok' := (fun k_ => k_ ≠ gb156 ∧ k_ ≠ gb157)) (Kd.R_types (Kd.R_types (HO160.out) BK156.out (by decide)) BK157.out (by decide)) (fun k_ hk => ⟨hk.1.2, hk.2⟩))))) (Reps.c6 (show Kd.FK k128 _ _ (⟨(⟨(⟨#[111, 105, 108]⟩ : ByteArray), 3, 20, 5⟩ : S69), y161, (-400)⟩ : S128) [.string (⟨#[111, 105, 108]⟩ : ByteArray), .int .i64 3, .int .i64 20, .int .i64 5, .slice Ao13 y161.length co13, .int .i64 (-400)] from (Qc4 _ _ (⟨(⟨(⟨#[111, 105, 108]⟩ : ByteArray), 3, 20, 5⟩ : S69), y161, (-400)⟩ : S128) (Kd.R_reads' (Kd.R_mono (ok' := (fun k_ => k_ ≠ gb156 ∧ k_ ≠ gb157)) (Kd.R_types (Kd.R_types (HO163.out) BK156.out (by decide)) BK157.out (by decide)) (fun k_ hk => ⟨hk.1.2, hk.2⟩))).2.1 (Kd.R_F (Kd.R_mono (ok' := (fun k_ => k_ ≠ gb156 ∧ k_ ≠ gb157)) (Kd.R_types (Kd.R_types (HO163.out) BK156.out (by decide)) BK157.out (by decide)) (fun k_ hk => ⟨hk.1.2, hk.2⟩))))) (Reps.none _ _)))); intro v165 w14 ho15 hb hg_ hnew_; clear hg_ hnew_; (first | rw [← Ny164.out] at ho15 | (simp only [Int.reduceToNat] at ho15; rw [← Ny164.out] at ho15)); have HO166 := Aside0.mk (Kd.N_lower ho15 (Qax (Zc2 GE156.out GE157.out))); replace BK156 := Aside0.mk (Zi BK156.out hb); replace BK157 := Aside0.mk (Zi BK157.out hb); replace HB := Aside0.mk (Qav (Zc2 GE156.out GE157.out) hb); clear HO160 HO163; clear hb ho15; obtain ⟨hcz16_0, hfz16_0⟩ := Zy (v := (.string (⟨#[111, 105, 108]⟩ : ByteArray))) BK156.out 0; obtain ⟨hcz16_1, hfz16_1⟩ := Zy (v := (.int .i64 1)) BK156.out 1; obtain ⟨hcz16_2, hfz16_2⟩ := Zy (v := (.int .i64 20)) BK156.out 2; obtain ⟨hcz16_3, hfz16_3⟩ := Zy (v := (.int .i64 0)) BK156.out 3; obtain ⟨hcz17_0, hfz17_0⟩ := Zy (v := (.string (⟨#[111, 105, 108]⟩ : ByteArray))) BK157.out 0; obtain ⟨hcz17_1, hfz17_1⟩ := Zy (v := (.int .i64 3)) BK157.out 1; obtain ⟨hcz17_2, hfz17_2⟩ := Zy (v := (.int .i64 20)) BK157.out 2; obtain ⟨hcz17_3, hfz17_3⟩ := Zy (v := (.int .i64 5)) BK157.out 3) | ((with_reducible refine Qa2 (N := 21) rfl ?_); refine Kd.R_lit k71 _ 71 ?hg (N := 21) ?hd (xs := ([(⟨(⟨(⟨#[111, 105, 108]⟩ : ByteArray), 1, 20, 0⟩ : S69), 1, 0⟩ : S71), (⟨(⟨(⟨#[111, 105, 108]⟩ : ByteArray), 3, 20, 5⟩ : S69), 2, 0⟩ : S71)] : List (S71))) (inner := [.string (⟨#[111, 105, 108]⟩ : ByteArray), .int .i64 1, .int .i64 20, .int .i64 0, .int .i64 1, .int .i64 0, .string (⟨#[111, 105, 108]⟩ : ByteArray), .int .i64 3, .int .i64 20, .int .i64 5, .int .i64 2, .int .i64 0]) (ok := fun _ => True) (okp := fun _ => True) ?hr ?hp (fun _ hk => hk) trivial (Below.refl _ _) (Nat.le_refl _) (by simp) ?_; (case hd => rfl); (case hg => rfl); (case hr => first | (go_simp; done) | (go_simp; rfl)); (case hp => exact (Reps.c6 (show Kd.M k71 _ _ _ (⟨(⟨(⟨#[111, 105, 108]⟩ : ByteArray), 1, 20, 0⟩ : S69), 1, 0⟩ : S71) [.string (⟨#[111, 105, 108]⟩ : ByteArray), .int .i64 1, .int .i64 20, .int .i64 0, .int .i64 1, .int .i64 0] from (Qcs _ _ _ (⟨(⟨(⟨#[111, 105, 108]⟩ : ByteArray), 1, 20, 0⟩ : S69), 1, 0⟩ : S71) )) (Reps.c6 (show Kd.M k71 _ _ _ (⟨(⟨(⟨#[111, 105, 108]⟩ : ByteArray), 3, 20, 5⟩ : S69), 2, 0⟩ : S71) [.string (⟨#[111, 105, 108]⟩ : ByteArray), .int .i64 3, .int .i64 20, .int .i64 5, .int .i64 2, .int .i64 0] from (Qcs _ _ _ (⟨(⟨(⟨#[111, 105, 108]⟩ : ByteArray), 3, 20, 5⟩ : S69), 2, 0⟩ : S71) )) (Reps.none _ _)))); intro v168 w18 ho19 hb hg_ hnew_; clear hg_ hnew_; (first | rw [← Ny167.out] at ho19 | (simp only [Int.reduceToNat] at ho19; rw [← Ny167.out] at ho19)); have HO169 := Aside0.mk (Kd.R_lower ho19 (Qax (Zc2 GE156.out GE157.out))); replace HO166 := Aside0.mk (Kd.N_elder' (by (with_reducible repeat (first | apply Kd.N_alloc | apply Kd.N_drewN | apply Kd.N_drew)); exact HO166.out) (Kd.R_base ho19) hb); replace BK156 := Aside0.mk (Zi BK156.out hb); replace BK157 := Aside0.mk (Zi BK157.out hb); replace HB := Aside0.mk (Qav (Zc2 GE156.out GE157.out) hb); clear hb ho19; obtain ⟨Ao20, co20, eo20⟩ := Kd.R_slice HO169.out; subst eo20; obtain ⟨Ao21, co21, eo21⟩ := Kd.N_slice HO166.out; subst eo21) | ((with_reducible refine QaH (f := 15) rfl ?_); refine goesL_ (some 23) rfl rfl Try.func15 (by kernel_rfl) rfl #[.slice Ao20 y167.length co20, .slice Ao21 y164.length co21] rfl (Zl) ?_; (with_reducible refine (QaI.calls k _ _ y167 _ _ y164 t170 t171 t172 _ ?side1 ?side2 ?side3 ?side4 A1.out).mono ?_); (case side1 => exact Zv (Kd.R_reads' HO169.out).2.2); (case side2 => exact (Kd.R_reads' HO169.out).2.1); (case side3 => exact Zv (Kd.N_reads' HO166.out).2.2); (case side4 => exact (Kd.N_reads' HO166.out).2.1); rintro e w22 ⟨rfl, hb⟩; refine ⟨_, rfl, ?_⟩; replace HO166 := Aside0.mk (Kd.N_below (by (with_reducible repeat (first | apply Kd.N_alloc | apply Kd.N_drewN | apply Kd.N_drew)); exact HO166.out) hb); replace HO169 := Aside0.mk (Kd.R_below (Zr HO169.out) hb); replace BK156 := Aside0.mk (Zi BK156.out hb); replace BK157 := Aside0.mk (Zi BK157.out hb); replace HB := Aside0.mk (Qav (Zc2 GE156.out GE157.out) hb); (try clear hb); (try clear hb2); (try clear hk); (try clear hi)))
 (try simp only [Act.put, Zj, Zk, Zm])
 by_cases c23 : t170 = 60
 ·rw [if_pos c23] at H
  have c23b0 : (t170 == 60) = T := beq_iff_eq.mpr c23
  have c23b1 : (t170 != 60) = F := bne_eq_false_iff_eq.mpr c23
  clear c23
  (try simp only [c23b0, c23b1])
  by_cases c24 : t171 = 2
  ·rw [if_pos c24] at H
   have c24b0 : (t171 == 2) = T := beq_iff_eq.mpr c24
   have c24b1 : (t171 != 2) = F := bne_eq_false_iff_eq.mpr c24
   clear c24
   obtain rfl := Option.some.inj H
   go_wp2
   go_ret
   exact ⟨Zq, Zc2 GE156.out GE157.out⟩
  rw [if_neg c24] at H
  have c24b0 : (t171 == 2) = F := beq_eq_false_iff_ne.mpr c24
  have c24b1 : (t171 != 2) = T := bne_iff_ne.mpr c24
  obtain rfl := Option.some.inj H
  go_wp2
  go_ret
  exact ⟨Zq, Zc2 GE156.out GE157.out⟩
 rw [if_neg c23] at H
 have c23b0 : (t170 == 60) = F := beq_eq_false_iff_ne.mpr c23
 have c23b1 : (t170 != 60) = T := bne_iff_ne.mpr c23
 (try simp only [c23b0, c23b1])
 obtain rfl := Option.some.inj H
 go_wp2
 go_ret
 exact ⟨Zq, Zc2 GE156.out GE157.out⟩
def Qap.l0 : Nat → List ByteArray → List (List (S71)) → List (S71) → Int → Int → Option (List ByteArray × (List (List (S71))))
 | 0, _, _, _, _, _ => none
 | k + 1, x2, x3, x10, x11, x12 => if x12 < x11 then (if 0 ≤ x12 then (if x12 < (x10.length : Int) then (if (x2.length : Int) = 0 then (if x2.length < 8796093022208 then (if x3.length < 5864062014805 then ((some (x3 ++ [[]] : List (List (S71)))).bind fun y366 => (if 0 ≤ (wrap64 ((y366.length : Int) - 1)) then (if (wrap64 ((y366.length : Int) - 1)) < (y366.length : Int) then (if (rd_L7 y366 (wrap64 ((y366.length : Int) - 1))).length < 2513169434916 then (Qap.l0 k (x2 ++ [(rd_T71 x10 x12).f0.f0]) (y366.set ((wrap64 ((y366.length : Int) - 1)) : Int).toNat ((rd_L7 y366 (wrap64 ((y366.length : Int) - 1))) ++ [(⟨(⟨(rd_T71 x10 x12).f0.f0, (rd_T71 x10 x12).f0.f1, (rd_T71 x10 x12).f0.f2, (rd_T71 x10 x12).f0.f3⟩ : S69), (rd_T71 x10 x12).f1, (rd_T71 x10 x12).f2⟩ : S71)])) x10 x11 (wrap64 (x12 + 1))) else (none)) else (none)) else (none))) else (none)) else (none)) else (if 0 ≤ (wrap64 ((x2.length : Int) - 1)) then (if (wrap64 ((x2.length : Int) - 1)) < (x2.length : Int) then (if (rdOf ByteArray.empty x2 (wrap64 ((x2.length : Int) - 1))).toList = ((rd_T71 x10 x12).f0.f0).toList then (if 0 ≤ (wrap64 ((x3.length : Int) - 1)) then (if (wrap64 ((x3.length : Int) - 1)) < (x3.length : Int) then (if (rd_L7 x3 (wrap64 ((x3.length : Int) - 1))).length < 2513169434916 then (Qap.l0 k x2 (x3.set ((wrap64 ((x3.length : Int) - 1)) : Int).toNat ((rd_L7 x3 (wrap64 ((x3.length : Int) - 1))) ++ [(⟨(⟨(rd_T71 x10 x12).f0.f0, (rd_T71 x10 x12).f0.f1, (rd_T71 x10 x12).f0.f2, (rd_T71 x10 x12).f0.f3⟩ : S69), (rd_T71 x10 x12).f1, (rd_T71 x10 x12).f2⟩ : S71)])) x10 x11 (wrap64 (x12 + 1))) else (none)) else (none)) else (none)) else (if x2.length < 8796093022208 then (if x3.length < 5864062014805 then ((some (x3 ++ [[]] : List (List (S71)))).bind fun y383 => (if 0 ≤ (wrap64 ((y383.length : Int) - 1)) then (if (wrap64 ((y383.length : Int) - 1)) < (y383.length : Int) then (if (rd_L7 y383 (wrap64 ((y383.length : Int) - 1))).length < 2513169434916 then (Qap.l0 k (x2 ++ [(rd_T71 x10 x12).f0.f0]) (y383.set ((wrap64 ((y383.length : Int) - 1)) : Int).toNat ((rd_L7 y383 (wrap64 ((y383.length : Int) - 1))) ++ [(⟨(⟨(rd_T71 x10 x12).f0.f0, (rd_T71 x10 x12).f0.f1, (rd_T71 x10 x12).f0.f2, (rd_T71 x10 x12).f0.f3⟩ : S69), (rd_T71 x10 x12).f1, (rd_T71 x10 x12).f2⟩ : S71)])) x10 x11 (wrap64 (x12 + 1))) else (none)) else (none)) else (none))) else (none)) else (none))) else (none)) else (none))) else (none)) else (none)) else (some (x2, x3))
def Qap.f (k : Nat) (l0 : List (S71)) : Option (List ByteArray × (List (List (S71)))) := (Qao.f k l0).bind fun t360 => (if t360 = 0 then (Qap.l0 k ([] : List ByteArray) ([] : List (List (S71))) l0 (l0.length : Int) 0) else (some (([] : List ByteArray), ([] : List (List (S71))))))
theorem Qap.mono_l : ∀ k, (∀ y0 y1 y2 y3 y4, LeO (Qap.l0 k y0 y1 y2 y3 y4) (Qap.l0 (k + 1) y0 y1 y2 y3 y4))
 | 0 => fun _ _ _ _ _ r h => by simp [Qap.l0] at h
 | k + 1 => by
  have ih0 := Qap.mono_l k
  intro y0 y1 y2 y3 y4
  unfold Qap.l0
  exact ZM2 ih0 Qao.mono
theorem Qap.mono : ∀ a0 k, LeO (Qap.f k a0) (Qap.f (k + 1) a0) := by
 intro a0 k
 have ih0 := Qap.mono_l k
 unfold Qap.f
 exact ZM2 ih0 Qao.mono
def Qap.T7 : Bool × List (List Nat × List Nat) := (T, [([], []), ([0], [0]), ([1], [1]), ([2], [2]), ([2], [2]), ([4, 2], [2, 4]), ([3, 5, 2], [2, 3, 5]), ([6, 2], [2, 6]), ([2], [2]), ([8, 2], [2, 8]), ([9, 2], [2, 9]), ([7, 10, 2], [2, 7, 10]), ([2, 11], [2, 11])])
def Qap.B7 : List Nat := [0, 1, 3, 7, 7, 23, 63, 127, 7, 263, 775, 2047, 4095]
theorem Qap.tab7 : rtab .any (opsOf Try.f14 7) = Qap.T7 := by kernel_rfl
theorem Qap.bits7 : Qbb Qap.T7.2 Qap.B7 = T := by kernel_rfl
def Qap.T10 : Bool × List (List Nat × List Nat) := (T, [([], []), ([], []), ([1], [1]), ([2], [2]), ([], []), ([], []), ([5], [5]), ([6], [6]), ([4, 7], [4, 7]), ([8], [8]), ([], []), ([10], [10]), ([9, 11], [9, 11]), ([0, 3, 0, 1, 2, 3, 4, 5, 6, 7, 8, 9, 10, 11, 12], [0, 3]), ([13, 12, 12, 0, 1, 2, 3, 4, 5, 6, 7, 8, 9, 10, 11, 12], [12, 13])])
def Qap.B10 : List Nat := [0, 0, 2, 6, 0, 0, 32, 96, 240, 496, 0, 1024, 4080, 8191, 16383]
theorem Qap.tab10 : rtab .any (opsOf Try.f14 10) = Qap.T10 := by kernel_rfl
theorem Qap.bits10 : Qbb Qap.T10.2 Qap.B10 = T := by kernel_rfl
theorem Qap.calls (k : Nat) (A0 : Option Addr) (c0 : Nat) (l0 : List (S71)) (r1 : List ByteArray) (r2 : List (List (S71))) (w : World) (hr0 : Kd.C k71 w A0 l0.length l0) (hc0 : l0.length ≤ c0) (h : Qap.f k l0 = some (r1, r2)) :
  Calls Try.prog 14 #[.slice A0 l0.length c0] w fun e w' => ∃ v0_ v1_ : Value, e = .returned (.tuple #[v0_, v1_]) ∧ Kd.R Kd.string 9 w' w.heap.size (fun _ => True) v0_ r1 ∧ Kd.S (Kd.slice 71 k71) 22 w' w.heap.size (fun _ => True) v1_ r2 ∧ Below w.heap.size w w' := by
 have hu71 := Try.underlying71
 have HR0 := Aside0.mk hr0
 have HC0 := Aside0.mk hc0
 clear hr0 hc0
 have HB := Aside0.mk (Below.refl w.heap.size w)
 have H : ((Qao.f k l0).bind fun t360 => (if t360 = 0 then (Qap.l0 k ([] : List ByteArray) ([] : List (List (S71))) l0 (l0.length : Int) 0) else (some (([] : List ByteArray), ([] : List (List (S71))))))) = some (r1, r2) := h
 clear h
 replace H := Option.bind_eq_some_iff.mp H
 obtain ⟨t360, A20, H⟩ := H
 replace H : (if t360 = 0 then (Qap.l0 k ([] : List ByteArray) ([] : List (List (S71))) l0 (l0.length : Int) 0) else (some (([] : List ByteArray), ([] : List (List (S71)))))) = some (r1, r2) := H
 have A2 := Aside0.mk A20
 clear A20
 go_enter Try.func14, Try.ntmps14
 go_upto_if 9 with (first | ((with_reducible refine QaH (f := 9) rfl ?_); refine goesL_ (some 8) rfl rfl Try.func9 (by kernel_rfl) rfl #[.slice A0 l0.length c0] rfl (Zl) ?_; (with_reducible refine (Qao.calls k _ _ l0 t360 _ ?side1 ?side2 A2.out).mono ?_); (case side1 => exact Zv HR0.out); (case side2 => exact HC0.out); rintro e w3 ⟨rfl, hb⟩; refine ⟨_, rfl, ?_⟩; replace HB := Aside0.mk (Qav (Zb) hb); (try clear hb); (try clear hb2); (try clear hk); (try clear hi)))
 (try simp only [Act.put, Zj, Zk, Zm])
 by_cases c4 : t360 = 0
 ·rw [if_pos c4] at H
  have c4b0 : (t360 == 0) = T := beq_iff_eq.mpr c4
  have c4b1 : (t360 != 0) = F := bne_eq_false_iff_eq.mpr c4
  clear c4
  (try simp only [c4b0, c4b1])
  have H' := Aside0.mk H
  clear H
  go_wp2
  go_loopg [2, 3, 12] k (fun kq v2 v3 v12 w' => ∃ (x2_1 : List ByteArray) (x3_1 : List (List (S71))) (x12_1 : Int), v12 = .int .i64 x12_1 ∧ Aside0 (Qap.l0 kq x2_1 x3_1 l0 (l0.length : Int) x12_1 = some (r1, r2)) ∧ Aside0 (kq ≤ k) ∧ Aside0 (Kd.R Kd.string 9 w' w.heap.size (fun _ => True) v2 x2_1) ∧ Aside0 (Kd.S (Kd.slice 71 k71) 22 w' w.heap.size (fun _ => True) v3 x3_1) ∧ Aside0 (Below w.heap.size w w'))
  case atStart => exact ⟨(([] : List ByteArray)), (([] : List (List (S71)))), (0), (Zs), H', ⟨Nat.le_refl _⟩, ⟨by first | exact Kd.R_nil _ _ _ _ _ | exact Kd.N_nil _ _ _ _ _ | exact Kd.V_nil _ _ _ _ _ | exact Kd.Q_nil _ _ _ _ _ | exact Kd.S_nil _ _ _ _ _⟩, ⟨by first | exact Kd.S_nil _ _ _ _ _ | exact Kd.N_nil _ _ _ _ _ | exact Kd.V_nil _ _ _ _ _ | exact Kd.Q_nil _ _ _ _ _ | exact Kd.R_nil _ _ _ _ _⟩, ⟨Zb⟩⟩
  case round =>
   clear H'
   try clear c1
   try clear p2
   try clear c4
   try clear c4b0
   try clear c4b1
   obtain ⟨x2_1, x3_1, x12_1, rfl, HA, HK1, HO_2, HO_3, HB⟩ := hrel
   cases gk with
   | zero => exact absurd HA.out (by simp [Qap.l0])
   | succ k1 =>
    have H := HA.out
    clear HA
    simp only [Qap.l0] at H
    by_cases c5 : x12_1 < (l0.length : Int)
    ·rw [if_pos c5] at H
     have c5b0 : decide (x12_1 < (l0.length : Int)) = T := decide_eq_true c5
     clear c5
     (try simp only [c5b0])
     by_cases c6 : 0 ≤ x12_1
     ·rw [if_pos c6] at H
      have c6b0 : decide (0 ≤ x12_1) = T := decide_eq_true c6
      clear c6
      by_cases c7 : x12_1 < (l0.length : Int)
      ·rw [if_pos c7] at H
       have c7b0 : decide (x12_1 < (l0.length : Int)) = T := decide_eq_true c7
       clear c7
       by_cases c8 : (x2_1.length : Int) = 0
       ·rw [if_pos c8] at H
        have c8b0 : ((x2_1.length : Int) == 0) = T := beq_iff_eq.mpr c8
        have c8b1 : ((x2_1.length : Int) != 0) = F := bne_eq_false_iff_eq.mpr c8
        clear c8
        by_cases c9 : x2_1.length < 8796093022208
        ·rw [if_pos c9] at H
         have LMc9 := Aside0.mk c9
         clear c9
         obtain ⟨y363, hy363⟩ : ∃ y_ : List ByteArray, y_ = (x2_1 ++ [(rd_T71 l0 x12_1).f0.f0]) := ⟨_, rfl⟩
         replace H : (if x3_1.length < 5864062014805 then ((some (x3_1 ++ [[]] : List (List (S71)))).bind fun y366 => (if 0 ≤ (wrap64 ((y366.length : Int) - 1)) then (if (wrap64 ((y366.length : Int) - 1)) < (y366.length : Int) then (if (rd_L7 y366 (wrap64 ((y366.length : Int) - 1))).length < 2513169434916 then (Qap.l0 k1 y363 (y366.set ((wrap64 ((y366.length : Int) - 1)) : Int).toNat ((rd_L7 y366 (wrap64 ((y366.length : Int) - 1))) ++ [(⟨(⟨(rd_T71 l0 x12_1).f0.f0, (rd_T71 l0 x12_1).f0.f1, (rd_T71 l0 x12_1).f0.f2, (rd_T71 l0 x12_1).f0.f3⟩ : S69), (rd_T71 l0 x12_1).f1, (rd_T71 l0 x12_1).f2⟩ : S71)])) l0 (l0.length : Int) (wrap64 (x12_1 + 1))) else (none)) else (none)) else (none))) else (none)) = some (r1, r2) := by first | (rw [hy363]; with_reducible exact H) | (have H2_ := (Option.bind_some _ _).symm.trans H; rw [hy363]; with_reducible exact H2_) | (have H2_ := (Option.bind_some _ _).symm.trans H; with_reducible exact H2_) | with_reducible exact H | (rw [hy363]; exact H) | exact H
         have Ny363 := Aside0.mk hy363
         clear hy363
         by_cases c10 : x3_1.length < 5864062014805
         ·rw [if_pos c10] at H
          have LMc10 := Aside0.mk c10
          clear c10
          obtain ⟨y366, hy366⟩ : ∃ y_ : List (List (S71)), y_ = (x3_1 ++ [[]]) := ⟨_, rfl⟩
          replace H : (if 0 ≤ (wrap64 ((y366.length : Int) - 1)) then (if (wrap64 ((y366.length : Int) - 1)) < (y366.length : Int) then (if (rd_L7 y366 (wrap64 ((y366.length : Int) - 1))).length < 2513169434916 then (Qap.l0 k1 y363 (y366.set ((wrap64 ((y366.length : Int) - 1)) : Int).toNat ((rd_L7 y366 (wrap64 ((y366.length : Int) - 1))) ++ [(⟨(⟨(rd_T71 l0 x12_1).f0.f0, (rd_T71 l0 x12_1).f0.f1, (rd_T71 l0 x12_1).f0.f2, (rd_T71 l0 x12_1).f0.f3⟩ : S69), (rd_T71 l0 x12_1).f1, (rd_T71 l0 x12_1).f2⟩ : S71)])) l0 (l0.length : Int) (wrap64 (x12_1 + 1))) else (none)) else (none)) else (none)) = some (r1, r2) := by first | (rw [hy366]; with_reducible exact H) | (have H2_ := (Option.bind_some _ _).symm.trans H; rw [hy366]; with_reducible exact H2_) | (have H2_ := (Option.bind_some _ _).symm.trans H; with_reducible exact H2_) | with_reducible exact H | (rw [hy366]; exact H) | exact H
          have Ny366 := Aside0.mk hy366
          clear hy366
          obtain ⟨ji11, hji11⟩ : ∃ j_ : Int, (wrap64 ((y366.length : Int) - 1)) = j_ := ⟨_, rfl⟩
          replace H : (if 0 ≤ (ji11) then (if (ji11) < (y366.length : Int) then (if (rd_L7 y366 (ji11)).length < 2513169434916 then (Qap.l0 k1 y363 (y366.set ((ji11) : Int).toNat ((rd_L7 y366 (ji11)) ++ [(⟨(⟨(rd_T71 l0 x12_1).f0.f0, (rd_T71 l0 x12_1).f0.f1, (rd_T71 l0 x12_1).f0.f2, (rd_T71 l0 x12_1).f0.f3⟩ : S69), (rd_T71 l0 x12_1).f1, (rd_T71 l0 x12_1).f2⟩ : S71)])) l0 (l0.length : Int) (wrap64 (x12_1 + 1))) else (none)) else (none)) else (none)) = some (r1, r2) := by first | (rw [hji11] at H; exact H) | (simp only [hji11] at H ⊢; exact H)
          have hji11w : (IntKind.i64.wrap ((y366.length : Int) - 1)) = ji11 := (i64_w _).trans hji11
          by_cases c12 : 0 ≤ (ji11)
          ·rw [if_pos c12] at H
           have c12b0 : decide (0 ≤ (ji11)) = T := decide_eq_true c12
           clear c12
           by_cases c13 : (ji11) < (y366.length : Int)
           ·rw [if_pos c13] at H
            have c13b0 : decide ((ji11) < (y366.length : Int)) = T := decide_eq_true c13
            clear c13
            by_cases c14 : (rd_L7 y366 (ji11)).length < 2513169434916
            ·rw [if_pos c14] at H
             have LMc14 := Aside0.mk c14
             clear c14
             obtain ⟨y370, hy370⟩ : ∃ y_ : List (S71), y_ = ((rd_L7 y366 (ji11)) ++ [(⟨(⟨(rd_T71 l0 x12_1).f0.f0, (rd_T71 l0 x12_1).f0.f1, (rd_T71 l0 x12_1).f0.f2, (rd_T71 l0 x12_1).f0.f3⟩ : S69), (rd_T71 l0 x12_1).f1, (rd_T71 l0 x12_1).f2⟩ : S71)]) := ⟨_, rfl⟩
             replace H : (Qap.l0 k1 y363 (y366.set ((ji11) : Int).toNat y370) l0 (l0.length : Int) (wrap64 (x12_1 + 1))) = some (r1, r2) := by first | (rw [hy370]; with_reducible exact H) | (have H2_ := (Option.bind_some _ _).symm.trans H; rw [hy370]; with_reducible exact H2_) | (have H2_ := (Option.bind_some _ _).symm.trans H; with_reducible exact H2_) | with_reducible exact H | (rw [hy370]; exact H) | exact H
             have Ny370 := Aside0.mk hy370
             clear hy370
             obtain ⟨y373, hy373⟩ : ∃ y_ : List (List (S71)), y_ = (y366.set ((ji11) : Int).toNat y370) := ⟨_, rfl⟩
             replace H : (Qap.l0 k1 y363 y373 l0 (l0.length : Int) (wrap64 (x12_1 + 1))) = some (r1, r2) := by first | (rw [hy373]; with_reducible exact H) | (have H2_ := (Option.bind_some _ _).symm.trans H; rw [hy373]; with_reducible exact H2_) | (have H2_ := (Option.bind_some _ _).symm.trans H; with_reducible exact H2_) | with_reducible exact H | (rw [hy373]; exact H) | exact H
             have Ny373 := Aside0.mk hy373
             clear hy373
             have H' := Aside0.mk H
             clear H
             have p361 : 0 ≤ (x12_1 : Int) := Ze
             have q361 : x12_1 < (l0.length : Int) := Ze
             obtain ⟨ad361, e361, hx361_0, hx361_1, hx361_2, hx361_3, hx361_4, hx361_5⟩ := at_T71 HR0.out x12_1 p361 q361
             cases e361
             replace hx361_0 := Zx HB.out hx361_0
             replace hx361_1 := Zx HB.out hx361_1
             replace hx361_2 := Zx HB.out hx361_2
             replace hx361_3 := Zx HB.out hx361_3
             replace hx361_4 := Zx HB.out hx361_4
             replace hx361_5 := Zx HB.out hx361_5
             replace p361 := eq_true p361
             replace q361 := eq_true q361
             try go_wp2_with (first | ((with_reducible refine Qa2 (N := 5) rfl ?_); refine Zbx (N := 5) (cs := #[.string (⟨#[]⟩ : ByteArray), .int .i64 0, .int .i64 0, .int .i64 0, .int .i64 0, .int .i64 0]) (t := 71) ?_; intro gb362 hg w16 hbox hb; have BK362 := Aside0.mk (hbox); have GW362 := Aside0.mk (Zt w hg (Zb)); have GE362 := GW362; replace HO_2 := Aside0.mk (Kd.R_below (Zr HO_2.out) hb); replace HO_3 := Aside0.mk (Kd.S_below (Kd.S_elderB (by (with_reducible repeat (first | apply Kd.S_alloc | apply Kd.S_drewN | apply Kd.S_drew)); exact HO_3.out) gb362 (Nat.le_of_eq hg.symm)) hb); replace HB := Aside0.mk (Qav (Zb) hb); clear hb hbox hg; obtain ⟨hcz17_0, hfz17_0⟩ := Zy (v := (.string (⟨#[]⟩ : ByteArray))) BK362.out 0; obtain ⟨hcz17_1, hfz17_1⟩ := Zy (v := (.int .i64 0)) BK362.out 1; obtain ⟨hcz17_2, hfz17_2⟩ := Zy (v := (.int .i64 0)) BK362.out 2; obtain ⟨hcz17_3, hfz17_3⟩ := Zy (v := (.int .i64 0)) BK362.out 3; obtain ⟨hcz17_4, hfz17_4⟩ := Zy (v := (.int .i64 0)) BK362.out 4; obtain ⟨hcz17_5, hfz17_5⟩ := Zy (v := (.int .i64 0)) BK362.out 5; obtain ⟨Ao18, co18, eo18⟩ := Kd.R_slice HO_2.out; subst eo18))
             have n0_ : Aside0 (Kd.R Kd.string 9 ((((((w16.setCell ⟨gb362, 0, none⟩ (.string ((rd_T71 l0 x12_1).f0.f0))).setCell ⟨gb362, 1, none⟩ (.int .i64 ((rd_T71 l0 x12_1).f0.f1))).setCell ⟨gb362, 2, none⟩ (.int .i64 ((rd_T71 l0 x12_1).f0.f2))).setCell ⟨gb362, 3, none⟩ (.int .i64 ((rd_T71 l0 x12_1).f0.f3))).setCell ⟨gb362, 4, none⟩ (.int .i64 ((rd_T71 l0 x12_1).f1))).setCell ⟨gb362, 5, none⟩ (.int .i64 ((rd_T71 l0 x12_1).f2))) w.heap.size (fun _ => True) (.slice Ao18 x2_1.length co18) x2_1) := ⟨by (with_reducible repeat (first | apply Kd.R_alloc | apply Kd.R_drewN | apply Kd.R_drew)); exact Kd.R_mono (Kd.R_far (p := ⟨gb362, 5, none⟩) (Kd.R_far (p := ⟨gb362, 4, none⟩) (Kd.R_far (p := ⟨gb362, 3, none⟩) (Kd.R_far (p := ⟨gb362, 2, none⟩) (Kd.R_far (p := ⟨gb362, 1, none⟩) (Kd.R_far (p := ⟨gb362, 0, none⟩) (Kd.R_types HO_2.out BK362.out (by decide)) (fun _ hk => hk.2) (.string ((rd_T71 l0 x12_1).f0.f0))) (fun _ hk => hk.2) (.int .i64 ((rd_T71 l0 x12_1).f0.f1))) (fun _ hk => hk.2) (.int .i64 ((rd_T71 l0 x12_1).f0.f2))) (fun _ hk => hk.2) (.int .i64 ((rd_T71 l0 x12_1).f0.f3))) (fun _ hk => hk.2) (.int .i64 ((rd_T71 l0 x12_1).f1))) (fun _ hk => hk.2) (.int .i64 ((rd_T71 l0 x12_1).f2))) (fun _ hk => trivial)⟩
             have n1_ : Aside0 (Kd.S (Kd.slice 71 k71) 22 ((((((w16.setCell ⟨gb362, 0, none⟩ (.string ((rd_T71 l0 x12_1).f0.f0))).setCell ⟨gb362, 1, none⟩ (.int .i64 ((rd_T71 l0 x12_1).f0.f1))).setCell ⟨gb362, 2, none⟩ (.int .i64 ((rd_T71 l0 x12_1).f0.f2))).setCell ⟨gb362, 3, none⟩ (.int .i64 ((rd_T71 l0 x12_1).f0.f3))).setCell ⟨gb362, 4, none⟩ (.int .i64 ((rd_T71 l0 x12_1).f1))).setCell ⟨gb362, 5, none⟩ (.int .i64 ((rd_T71 l0 x12_1).f2))) w.heap.size (fun k_ => k_ ≠ gb362) u3 x3_1) := ⟨by (with_reducible repeat (first | apply Kd.S_alloc | apply Kd.S_drewN | apply Kd.S_drew)); exact Kd.S_mono (Kd.S_far (p := ⟨gb362, 5, none⟩) (Kd.S_far (p := ⟨gb362, 4, none⟩) (Kd.S_far (p := ⟨gb362, 3, none⟩) (Kd.S_far (p := ⟨gb362, 2, none⟩) (Kd.S_far (p := ⟨gb362, 1, none⟩) (Kd.S_far (p := ⟨gb362, 0, none⟩) (Kd.S_mono HO_3.out (fun k_ hk => (⟨hk, hk.2⟩ : _ ∧ k_ ≠ gb362))) (fun _ hk => hk.2) (.string ((rd_T71 l0 x12_1).f0.f0))) (fun _ hk => hk.2) (.int .i64 ((rd_T71 l0 x12_1).f0.f1))) (fun _ hk => hk.2) (.int .i64 ((rd_T71 l0 x12_1).f0.f2))) (fun _ hk => hk.2) (.int .i64 ((rd_T71 l0 x12_1).f0.f3))) (fun _ hk => hk.2) (.int .i64 ((rd_T71 l0 x12_1).f1))) (fun _ hk => hk.2) (.int .i64 ((rd_T71 l0 x12_1).f2))) (fun _ hk => hk.1.2)⟩
             have n2_ : Aside0 (((((((w16.setCell ⟨gb362, 0, none⟩ (.string ((rd_T71 l0 x12_1).f0.f0))).setCell ⟨gb362, 1, none⟩ (.int .i64 ((rd_T71 l0 x12_1).f0.f1))).setCell ⟨gb362, 2, none⟩ (.int .i64 ((rd_T71 l0 x12_1).f0.f2))).setCell ⟨gb362, 3, none⟩ (.int .i64 ((rd_T71 l0 x12_1).f0.f3))).setCell ⟨gb362, 4, none⟩ (.int .i64 ((rd_T71 l0 x12_1).f1))).setCell ⟨gb362, 5, none⟩ (.int .i64 ((rd_T71 l0 x12_1).f2))).heap[gb362]? = some (.cells #[.string ((rd_T71 l0 x12_1).f0.f0), .int .i64 ((rd_T71 l0 x12_1).f0.f1), .int .i64 ((rd_T71 l0 x12_1).f0.f2), .int .i64 ((rd_T71 l0 x12_1).f0.f3), .int .i64 ((rd_T71 l0 x12_1).f1), .int .i64 ((rd_T71 l0 x12_1).f2)] 71 (0, 0))) := ⟨Zp2 BK362.out⟩
             have n3_ : Aside0 (Below w.heap.size w ((((((w16.setCell ⟨gb362, 0, none⟩ (.string ((rd_T71 l0 x12_1).f0.f0))).setCell ⟨gb362, 1, none⟩ (.int .i64 ((rd_T71 l0 x12_1).f0.f1))).setCell ⟨gb362, 2, none⟩ (.int .i64 ((rd_T71 l0 x12_1).f0.f2))).setCell ⟨gb362, 3, none⟩ (.int .i64 ((rd_T71 l0 x12_1).f0.f3))).setCell ⟨gb362, 4, none⟩ (.int .i64 ((rd_T71 l0 x12_1).f1))).setCell ⟨gb362, 5, none⟩ (.int .i64 ((rd_T71 l0 x12_1).f2)))) := ⟨Zc1 GE362.out⟩
             (try clear HO_2)
             (try clear HO_3)
             (try clear BK362)
             (try clear HB)
             generalize ((((((w16.setCell ⟨gb362, 0, none⟩ (.string ((rd_T71 l0 x12_1).f0.f0))).setCell ⟨gb362, 1, none⟩ (.int .i64 ((rd_T71 l0 x12_1).f0.f1))).setCell ⟨gb362, 2, none⟩ (.int .i64 ((rd_T71 l0 x12_1).f0.f2))).setCell ⟨gb362, 3, none⟩ (.int .i64 ((rd_T71 l0 x12_1).f0.f3))).setCell ⟨gb362, 4, none⟩ (.int .i64 ((rd_T71 l0 x12_1).f1))).setCell ⟨gb362, 5, none⟩ (.int .i64 ((rd_T71 l0 x12_1).f2))) = w19 at n0_ n1_ n2_ n3_ ⊢
             have HO_2 := n0_
             have HO_3 := n1_
             have BK362 := n2_
             have HB := n3_
             clear n0_ n1_ n2_ n3_
             replace HO_2 := Aside0.mk (Kd.R_drew HO_2.out)
             replace HO_3 := Aside0.mk (Kd.S_drew HO_3.out)
             replace BK362 := Aside0.mk (Qai BK362.out)
             replace HB := Aside0.mk (Qac HB.out)
             refine start_ (n := 13) (S := fun w' => True) (ds := []) #[F, F, F, F, F, F, F, F, F, F, F, F, F] (by kernel_rfl) rfl rfl trivial (fun hHeld => ?_); refine QaP Qap.tab7 Qap.bits7 (fun HT_ HW_ => ?_)
             generalize w19.drew = w20 at HO_2 HO_3 BK362 HB hHeld ⊢
             refine Zsp (i := 0) (N := some 18) (pm 13 1) HT_ ?_
             refine Zsp (i := 1) (N := some 19) (pm 13 2) HT_ ?_
             refine Zsp (i := 2) (N := some 20) (pm 13 3) HT_ ?_
             refine Zso (i := 3) (N := some 21) (pm 13 4) HT_ ?_
             refine Zso (i := 4) (N := some 22) (pm 13 5) HT_ ?_
             refine Zso (i := 5) (N := some 23) (pm 13 6) HT_ ?_
             refine Zso (i := 6) (N := some 24) (pm 13 7) HT_ ?_
             refine Zso (i := 7) (N := some 25) (pm 13 8) HT_ ?_
             refine Zso (i := 8) (N := some 26) (pm 13 9) HT_ ?_
             refine Zso (i := 9) (N := some 27) (pm 13 10) HT_ ?_
             refine Zso (i := 10) (N := some 28) (pm 13 11) HT_ ?_
             refine Zso (i := 11) (N := some 29) (pm 13 12) HT_ ?_
             refine Zsp (i := 12) (N := some 30) (pm 13 13) HT_ ?_
             refine done_ (QaX HT_.out (by kernel_rfl)) ?_
             obtain ⟨hcz21_0, hfz21_0⟩ := Zy (v := (.string ((rd_T71 l0 x12_1).f0.f0))) BK362.out 0
             obtain ⟨hcz21_1, hfz21_1⟩ := Zy (v := (.int .i64 ((rd_T71 l0 x12_1).f0.f1))) BK362.out 1
             obtain ⟨hcz21_2, hfz21_2⟩ := Zy (v := (.int .i64 ((rd_T71 l0 x12_1).f0.f2))) BK362.out 2
             obtain ⟨hcz21_3, hfz21_3⟩ := Zy (v := (.int .i64 ((rd_T71 l0 x12_1).f0.f3))) BK362.out 3
             obtain ⟨hcz21_4, hfz21_4⟩ := Zy (v := (.int .i64 ((rd_T71 l0 x12_1).f1))) BK362.out 4
             obtain ⟨hcz21_5, hfz21_5⟩ := Zy (v := (.int .i64 ((rd_T71 l0 x12_1).f2))) BK362.out 5
             try go_wp2_with (first | ((with_reducible refine Qbr (b := .append) (xs := #[.tmp 31, .tmp 35]) rfl ?_); at_builtin; refine Kd.R_append Kd.string (w0 := w) w.heap.size rfl (.tmp 31) (.tmp 35) 43 9 (.string ⟨#[]⟩) 16 rfl Try.underlying43 info9 rfl (by decide) (by omega) (.slice Ao18 x2_1.length co18) x2_1 ((rd_T71 l0 x12_1).f0.f0) [.string ((rd_T71 l0 x12_1).f0.f0)] (fun _ => True) (fun _ => False) rfl rfl ?aP (fun _ hk => hk.elim) ?aF ?aO ?aB ?aS ?aL ?_; (case aP => exact rfl); (case aB => exact (Zc1 GE362.out)); (case aF => exact (fun _ _ => trivial)); (case aO => exact (Zr HO_2.out)); (case aS => exact (Qax (Zc1 GE362.out))); (case aL => have := LMc9.out; omega); intro v364 w22 ho hb hg hat; rw [← Ny363.out] at ho; have HO365 := Aside0.mk (ho); replace HO_3 := Aside0.mk (Kd.S_over' (by (with_reducible repeat (first | apply Kd.S_alloc | apply Kd.S_drewN | apply Kd.S_drew)); exact HO_3.out) (Kd.R_typed (Zr HO_2.out)) (by decide) hg); replace BK362 := Aside0.mk (Qa0 (g := gb362) (o := .cells #[.string ((rd_T71 l0 x12_1).f0.f0), .int .i64 ((rd_T71 l0 x12_1).f0.f1), .int .i64 ((rd_T71 l0 x12_1).f0.f2), .int .i64 ((rd_T71 l0 x12_1).f0.f3), .int .i64 ((rd_T71 l0 x12_1).f1), .int .i64 ((rd_T71 l0 x12_1).f2)] 71 (0, 0)) (Zu BK362.out) hg (Kd.R_ne HO_2.out BK362.out (by decide))); replace HB := Aside0.mk (hb); clear HO_2; clear ho hb hg hat) | ((with_reducible refine Qbr (b := .append) (xs := #[.tmp 37, .tmp 38]) rfl ?_); at_builtin; refine Kd.S_append (Kd.slice 71 k71) (w0 := w) w.heap.size rfl (.tmp 37) (.tmp 38) 44 22 (.slice none 0 0) 24 rfl Try.underlying44 info22 rfl (by decide) (by omega) u3 x3_1 [] [.slice none 0 0] (fun k_ => k_ ≠ gb362) (fun _ => False) rfl rfl ?aP (fun _ hk => hk.elim) ?aF ?aO ?aB ?aS ?aL ?_; (case aP => exact ⟨_, rfl, Kd.R_nil _ _ _ _ _⟩); (case aB => exact (Zc1 GE362.out)); (case aF => exact (fun k_ hk => Kd.freshB (g := gb362) (o := .cells #[.string ((rd_T71 l0 x12_1).f0.f0), .int .i64 ((rd_T71 l0 x12_1).f0.f1), .int .i64 ((rd_T71 l0 x12_1).f0.f2), .int .i64 ((rd_T71 l0 x12_1).f0.f3), .int .i64 ((rd_T71 l0 x12_1).f1), .int .i64 ((rd_T71 l0 x12_1).f2)] 71 (0, 0)) (Zu BK362.out) k_ hk)); (case aO => exact (by (with_reducible repeat (first | apply Kd.S_alloc | apply Kd.S_drewN | apply Kd.S_drew)); exact Kd.S_mono HO_3.out (fun k_ hk => ⟨hk, fun e_ => e_⟩))); (case aS => exact (Qax (Zc1 GE362.out))); (case aL => have := LMc10.out; omega); intro v367 w23 ho hb hg hat; rw [← Ny366.out] at ho; have HO368 := Aside0.mk (ho); replace BK362 := Aside0.mk (Qa0 (g := gb362) (o := .cells #[.string ((rd_T71 l0 x12_1).f0.f0), .int .i64 ((rd_T71 l0 x12_1).f0.f1), .int .i64 ((rd_T71 l0 x12_1).f0.f2), .int .i64 ((rd_T71 l0 x12_1).f0.f3), .int .i64 ((rd_T71 l0 x12_1).f1), .int .i64 ((rd_T71 l0 x12_1).f2)] 71 (0, 0)) (Zu BK362.out) hg (Kd.S_ne HO_3.out BK362.out (by decide))); replace HO365 := Aside0.mk (Kd.R_over' (Zr HO365.out) (Kd.S_typed (by (with_reducible repeat (first | apply Kd.S_alloc | apply Kd.S_drewN | apply Kd.S_drew)); exact HO_3.out)) (by decide) hg); replace HB := Aside0.mk (hb); clear HO_3; clear ho hb hg hat))
             replace HO365 := Aside0.mk (Kd.R_drew HO365.out)
             replace HO368 := Aside0.mk (Kd.S_drew HO368.out)
             replace BK362 := Aside0.mk (Qai BK362.out)
             replace HB := Aside0.mk (Qac HB.out)
             obtain ⟨Ao25, co25, eo25⟩ := Kd.S_slice HO368.out
             (first | subst eo25 | (injection eo25 with f1_ f2_ f3_; have f4_ := f1_.symm; have f5_ := f3_.symm; clear f1_ f2_ f3_; subst f4_; subst f5_))
             have p369 : 0 ≤ ((ji11) : Int) := Ze
             have q369 : (ji11) < (y366.length : Int) := Ze
             obtain ⟨ad369, A369_0, c369_0, e369, hx369_0, hl369_0, hi369_0⟩ := at_L7 (Kd.S_reads' HO368.out).2.2 (ji11) p369 q369
             cases e369
             obtain ⟨ce369, hce369, hMe369, hcc369⟩ := Kd.S_get HO368.out [] (ji11) p369 (by first | exact q369 | exact Ze | (have e_ := (Kd.S_reads' HO368.out).1; omega))
             obtain ⟨ve369_0, rfl, ge369_0⟩ := hMe369
             have hv369_0 := hcc369 0 _ rfl
             rw [Nat.add_zero, show ((Kd.slice 71 k71)).sz = 1 from rfl, Nat.mul_one] at hv369_0
             replace hv369_0 := Option.some.inj (hv369_0.symm.trans hx369_0)
             rw [hv369_0] at ge369_0
             have HL369_0 := Aside0.mk (show Kd.R k71 71 _ _ _ _ (rd_L7 y366 (ji11)) from ge369_0)
             clear hv369_0 ge369_0
             have HX369_0 := Aside0.mk hx369_0
             clear hcc369 hce369
             have HR369_0 := Aside0.mk hi369_0
             have HC369_0 := Aside0.mk hl369_0
             clear hi369_0 hl369_0
             replace p369 := eq_true p369
             replace q369 := eq_true q369
             obtain ⟨go26, co26, eo26, gb26, gl26, cl26, HG26⟩ := Kd.S_form HO368.out (by have h_ : ((ji11) : Int) < ((y366.length : Int) : Int) := Ze; have h2_ : 0 ≤ ((ji11) : Int) := (Ze); omega)
             (first | cases eo26 | (injection eo26 with ea_ en_ ec_; (first | subst ea_ | (injection ea_ with ea_; subst ea_)); subst ec_; clear en_))
             have GB26 := Aside0.mk gb26
             have GG26 := Aside0.mk HG26
             clear gb26 gl26 HG26
             (first | simp only [Qa4] at hx369_0 | skip)
             obtain ⟨oki26, ce26, hcl26, hM26, hcc26, _, _, hH26⟩ := Kd.S_elem HO368.out [] ((ji11) : Int) (Ze) (by have h_ : ((ji11) : Int) < ((y366.length : Int) : Int) := Ze; first | exact h_ | (have e_ := (Kd.S_reads' HO368.out).1; omega) | simpa using h_)
             obtain ⟨ve26_0, rfl, ge26_0⟩ := hM26
             have hv26 := hcc26 0 _ rfl
             have hX26 := HX369_0.out
             (try simp only [Qa4] at hX26)
             (try simp only [Nat.add_zero] at hv26)
             (try rw [show ((Kd.slice 71 k71)).sz = 1 from rfl, Nat.mul_one] at hv26)
             replace hv26 := Option.some.inj (hv26.symm.trans hX26)
             subst hv26
             clear hX26 hcc26 hcl26
             have UU26 := Aside0.mk (show Kd.R k71 71 _ w.heap.size oki26 (.slice A369_0 (rd_L7 y366 (ji11)).length c369_0) (rd_L7 y366 (ji11)) from ge26_0)
             have HH26 := Aside0.mk hH26
             have HN26 := Aside0.mk (Kd.S_reads' HO368.out).1
             clear hH26 ge26_0
             refine start_ (n := 15) (S := fun w' => w'.cell? ⟨gb362, 0, none⟩ = some (.string ((rd_T71 l0 x12_1).f0.f0)) ∧ w'.cell? ⟨gb362, 1, none⟩ = some (.int .i64 ((rd_T71 l0 x12_1).f0.f1)) ∧ w'.cell? ⟨gb362, 2, none⟩ = some (.int .i64 ((rd_T71 l0 x12_1).f0.f2)) ∧ w'.cell? ⟨gb362, 3, none⟩ = some (.int .i64 ((rd_T71 l0 x12_1).f0.f3)) ∧ w'.cell? ⟨gb362, 4, none⟩ = some (.int .i64 ((rd_T71 l0 x12_1).f1)) ∧ w'.cell? ⟨gb362, 5, none⟩ = some (.int .i64 ((rd_T71 l0 x12_1).f2)) ∧ w'.cell? ⟨go26, ((ji11)).toNat, none⟩ = some (.slice A369_0 (rd_L7 y366 (ji11)).length c369_0)) (ds := [14]) #[F, F, F, F, F, F, F, F, F, F, F, F, F, F, F] (by kernel_rfl) rfl rfl ⟨(Qad BK362.out 0).trans rfl, (Qad BK362.out 1).trans rfl, (Qad BK362.out 2).trans rfl, (Qad BK362.out 3).trans rfl, (Qad BK362.out 4).trans rfl, (Qad BK362.out 5).trans rfl, hx369_0⟩ (fun hHeld => ?_); refine QaP Qap.tab10 Qap.bits10 (fun HT_ HW_ => ?_)
             generalize w23.drew = w24 at HO365 HO368 BK362 HB GG26 HH26 HL369_0 HR369_0 HX369_0 UU26 hx369_0 hHeld ⊢
             refine Zsp (i := 0) (N := some 40) (pm 15 1) HT_ ?_
             refine Zsp (i := 1) (N := some 41) (pm 15 2) HT_ ?_
             refine Zsp (i := 2) (N := some 42) (pm 15 3) HT_ ?_
             refine Zsp (i := 3) (N := some 43) (pm 15 4) HT_ ?_
             refine Zsp (i := 4) (N := some 44) (pm 15 5) HT_ ?_
             refine Zsp (i := 5) (N := some 45) (pm 15 6) HT_ ?_
             refine Zsp (i := 6) (N := some 46) (pm 15 7) HT_ ?_
             refine Zsp (i := 7) (N := some 47) (pm 15 8) HT_ ?_
             refine Zsp (i := 8) (N := some 48) (pm 15 9) HT_ ?_
             refine Zst (i := 9) (N := some 49) (pm 15 10) HT_ HW_ hHeld ?_ (hy := by (refine Or.inl ⟨by rfl, ?_⟩; rintro w' ⟨s0, s1, s2, s3, s4, s5, s6⟩; go_simp; with_reducible rfl))
             refine Zst (i := 10) (N := some 50) (pm 15 11) HT_ HW_ hHeld ?_ (hy := by (refine Or.inl ⟨by rfl, ?_⟩; rintro w' ⟨s0, s1, s2, s3, s4, s5, s6⟩; go_simp; with_reducible rfl))
             refine one_ (i := 11) (N := some 51) #[T, T, T, T, T, T, T, T, T, T, T, T, F, F, F] rfl rfl (one_of HT_.out (by kernel_rfl)) (by decide) (fun K hK => ?_)
             refine value_ (w1 := ?_) (v := ?_) (by rfl) rfl ?_ ?_
             rotate_left 2
             ·go_simp
              constructor
              ·rfl
              rfl
             refine hK.out _ _ ⟨(Qad (Qag BK362.out _) 0).trans rfl, (Qad (Qag BK362.out _) 1).trans rfl, (Qad (Qag BK362.out _) 2).trans rfl, (Qad (Qag BK362.out _) 3).trans rfl, (Qad (Qag BK362.out _) 4).trans rfl, (Qad (Qag BK362.out _) 5).trans rfl, (World.cell?_alloc_lt _ _ _ (World.block_lt_of_cell? _ _ (hHeld.2.2.2.2.2.2))).trans (hHeld.2.2.2.2.2.2)⟩ (fun hHeld => ?_)
             clear hK K
             refine norm_ (a' := ?_) ?_ ?_
             rotate_left
             ·show Act.put _ (some 51) _ = _
              simp only [Act.put, Zj, Zk, Zm, i64_w, i32_w]
              rfl
             refine one_ (i := 12) (N := some 52) #[T, T, T, T, T, T, T, T, T, T, T, T, T, F, F] rfl rfl (one_of HT_.out (by kernel_rfl)) (by decide) (fun K hK => ?_)
             refine Kd.R_append_step k71 (w0 := w) w.heap.size (by rfl) (.tmp 49) (.tmp 51) 22 71 (.agg #[(.string ⟨#[]⟩), (.int .i64 0), (.int .i64 0), (.int .i64 0), (.int .i64 0), (.int .i64 0)]) 56 rfl Try.underlying22 info71 rfl (by decide) (by omega) (.slice A369_0 (rd_L7 y366 (ji11)).length c369_0) (rd_L7 y366 (ji11)) (⟨(⟨(rd_T71 l0 x12_1).f0.f0, (rd_T71 l0 x12_1).f0.f1, (rd_T71 l0 x12_1).f0.f2, (rd_T71 l0 x12_1).f0.f3⟩ : S69), (rd_T71 l0 x12_1).f1, (rd_T71 l0 x12_1).f2⟩ : S71) [.string ((rd_T71 l0 x12_1).f0.f0), .int .i64 ((rd_T71 l0 x12_1).f0.f1), .int .i64 ((rd_T71 l0 x12_1).f0.f2), .int .i64 ((rd_T71 l0 x12_1).f0.f3), .int .i64 ((rd_T71 l0 x12_1).f1), .int .i64 ((rd_T71 l0 x12_1).f2)] (fun k_ => oki26 k_ ∨ ((fun k_ => k_ ≠ gb362)) k_ ∧ w24.heap.size ≤ k_) (fun _ => False) rfl rfl ?aP (fun _ hk => hk.elim) ?aF ?aO ?aB ?aS ?aL ?_
             (case aP => exact Qcs _ _ _ (⟨(⟨(rd_T71 l0 x12_1).f0.f0, (rd_T71 l0 x12_1).f0.f1, (rd_T71 l0 x12_1).f0.f2, (rd_T71 l0 x12_1).f0.f3⟩ : S69), (rd_T71 l0 x12_1).f1, (rd_T71 l0 x12_1).f2⟩ : S71))
             (case aB => exact (Zc1 GE362.out))
             (case aF => exact (fun k_ hk => .inr ⟨Kd.freshB (g := gb362) (o := .cells #[.string ((rd_T71 l0 x12_1).f0.f0), .int .i64 ((rd_T71 l0 x12_1).f0.f1), .int .i64 ((rd_T71 l0 x12_1).f0.f2), .int .i64 ((rd_T71 l0 x12_1).f0.f3), .int .i64 ((rd_T71 l0 x12_1).f1), .int .i64 ((rd_T71 l0 x12_1).f2)] 71 (0, 0)) (Zu BK362.out) k_ hk, hk⟩))
             (case aO => exact (by (with_reducible repeat (first | apply Kd.R_alloc | apply Kd.R_drewN | apply Kd.R_drew)); exact Kd.R_mono UU26.out (fun _ hk => .inl hk)))
             (case aS => exact (Qax (Zc1 GE362.out)))
             (case aL => have := LMc14.out; omega)
             intro v371 w27 ho hb hg hat
             (first | have HS6_ := QbP hg (hHeld.2.2.2.2.2.2) (by first | (rw [Qbc]; exact (fun e_ => ((HL369_0.out.1 _ e_.symm).2) rfl)) | (show some (Addr.add _ _).block ≠ _; rw [Qbc]; exact (fun e_ => ((HL369_0.out.1 _ e_.symm).2) rfl)) | exact (fun e_ => ((HL369_0.out.1 _ e_.symm).2) rfl)) | have HS6_ := QbP hg (Qcc (hHeld.2.2.2.2.2.2) (by first | (rw [Qbc]; exact Kd.S_lt HO368.out _ rfl) | (show (Addr.add _ _).block < _; rw [Qbc]; exact Kd.S_lt HO368.out _ rfl) | exact Kd.S_lt HO368.out _ rfl)) (by first | (rw [Qbc]; exact (fun e_ => ((HL369_0.out.1 _ e_.symm).2) rfl)) | (show some (Addr.add _ _).block ≠ _; rw [Qbc]; exact (fun e_ => ((HL369_0.out.1 _ e_.symm).2) rfl)) | exact (fun e_ => ((HL369_0.out.1 _ e_.symm).2) rfl)))
             rw [← Ny370.out] at ho
             have HO372 := Aside0.mk (ho)
             replace BK362 := Aside0.mk (Qa0 (g := gb362) (o := .cells #[.string ((rd_T71 l0 x12_1).f0.f0), .int .i64 ((rd_T71 l0 x12_1).f0.f1), .int .i64 ((rd_T71 l0 x12_1).f0.f2), .int .i64 ((rd_T71 l0 x12_1).f0.f3), .int .i64 ((rd_T71 l0 x12_1).f1), .int .i64 ((rd_T71 l0 x12_1).f2)] 71 (0, 0)) (Zu BK362.out) hg (Kd.R_away HL369_0.out (fun _ hk => hk.1)))
             replace HO365 := Aside0.mk (Kd.R_over' (v := (.slice A369_0 (rd_L7 y366 (ji11)).length c369_0)) (Zr HO365.out) (Kd.R_typed HL369_0.out) (by decide) hg)
             replace HB := Aside0.mk (hb)
             replace HH26 := Aside0.mk (Kd.H_grown (Kd.H_widen (by repeat (first | exact HH26.out | refine Kd.H_alloc ?_ _ | refine Kd.H_drewN ?_ _ | refine Kd.H_drew ?_))) hg (fun k_ e_ => .inl (UU26.out.1 k_ e_)))
             clear HO368 UU26 HL369_0
             clear ho hb hg hat
             have p15 : 0 ≤ ((ji11) : Int) := Ze
             have q15 : ((ji11) : Int) < ((y366.length : Int) : Int) := Ze
             replace p15 := eq_true p15
             replace q15 := eq_true q15
             obtain ⟨Ao30, co30, eo30⟩ := Kd.R_slice HO372.out
             (first | subst eo30 | (injection eo30 with f1_ f2_ f3_; have f4_ := f1_.symm; have f5_ := f3_.symm; clear f1_ f2_ f3_; subst f4_; subst f5_))
             obtain ⟨_, _, hraw28, _, _, hcc28, _⟩ := Kd.H_raw HH26.out (Ze) (by have h_ : ((ji11) : Int) < ((y366.length : Int) : Int) := Ze; first | exact h_ | (have e_ := (HN26.out); omega) | simpa using h_)
             obtain ⟨_, hfr28⟩ := Kd.H_at HH26.out (Ze) (by have h_ : ((ji11) : Int) < ((y366.length : Int) : Int) := Ze; first | exact h_ | (have e_ := (HN26.out); omega) | simpa using h_)
             have hx28_0 := hcc28 0 _ rfl
             have hf28_0 := hfr28 0
             (try simp only [Nat.add_zero] at hx28_0 hf28_0)
             (try rw [show ((Kd.slice 71 k71)).sz = 1 from rfl, Nat.mul_one] at hx28_0)
             (try rw [show ((Kd.slice 71 k71)).sz = 1 from rfl, Nat.mul_one] at hf28_0)
             have HP28 := Kd.S_seg0 HH26.out (Ze) (by have h_ : ((ji11) : Int) < ((y366.length : Int) : Int) := Ze; first | exact h_ | (have e_ := (HN26.out); omega) | simpa using h_) (seg := [.slice Ao30 y370.length co30]) (j := 0) (show 1 ≤ 1 from by decide) (x' := y370) (Kd.M_row HO372.out) (fun _ hk => hk)
             (try simp only [show ((Kd.slice 71 k71)).sz = 1 from rfl, Nat.mul_one, Nat.add_zero] at HP28)
             clear hcc28 hfr28
             have HNB362_go26 := Aside0.mk (show gb362 ≠ go26 from by have h_ := Kd.R_ne hraw28 BK362.out (by decide); intro e_; exact h_ (by rw [e_]; rfl))
             have HS28 := HP28.1
             rw [← Ny373.out] at HS28
             have HQ28 := Aside0.mk HS28
             obtain ⟨_, hgg28⟩ := Kd.R_typed hraw28 go26 rfl
             have GG28_ := Aside0.mk hgg28
             clear HP28 HS28 hgg28
             refine hK.out _ _ ⟨(Qad BK362.out 0).trans rfl, (Qad BK362.out 1).trans rfl, (Qad BK362.out 2).trans rfl, (Qad BK362.out 3).trans rfl, (Qad BK362.out 4).trans rfl, (Qad BK362.out 5).trans rfl, HS6_⟩ (fun hHeld => ?_)
             clear hK K
             refine norm_ (a' := ?_) ?_ ?_
             rotate_left
             ·show Act.put _ (some 52) _ = _
              simp only [Act.put, Zj, Zk, Zm, i64_w, i32_w]
              rfl
             refine Zsp (i := 13) (N := some 53) (pm 15 14) HT_ ?_
             refine last_ (i := 14) (N := none) #[T, T, T, T, T, T, T, T, T, T, T, T, T, T, T] rfl rfl (one_of HT_.out (by kernel_rfl)) (by decide) (fun K hK => ?_)
             refine skip_ (w1 := ?_) (by rfl) rfl ?_ ?_
             rotate_left
             ·go_simp
              rfl
             refine hK.out _ _ ?_
             clear hK K
             refine done_ (QaX HT_.out (by kernel_rfl)) ?_
             try go_wp2
             go_roundg k1
             case measure => have := HK1.out; omega
             case rel => exact ⟨(y363), (y373), (wrap64 (x12_1 + 1)), (Zs), H', ⟨by have := HK1.out; omega⟩, ⟨by (with_reducible repeat (first | apply Kd.R_alloc | apply Kd.R_drewN | apply Kd.R_drew)); exact Kd.R_mono (Kd.R_far (p := ⟨go26, ((ji11) : Int).toNat, none⟩) (Kd.R_types HO365.out GG28_.out (by decide)) (fun _ hk => hk.2) (.slice Ao30 y370.length co30)) (fun _ hk => trivial)⟩, ⟨by (with_reducible repeat (first | apply Kd.S_alloc | apply Kd.S_drewN | apply Kd.S_drew)); exact Kd.S_mono HQ28.out (fun _ hk => trivial)⟩, ⟨by repeat (first | (with_reducible first | exact HB.out | apply Qae | apply Qab | apply Qac | refine Qaj ?_ GB26.out | refine Qaj ?_ GE362.out) | exact HB.out)⟩⟩
            rw [if_neg c14] at H
            exact absurd H (by simp)
           rw [if_neg c13] at H
           exact absurd H (by simp)
          rw [if_neg c12] at H
          exact absurd H (by simp)
         rw [if_neg c10] at H
         exact absurd H (by simp)
        rw [if_neg c9] at H
        exact absurd H (by simp)
       rw [if_neg c8] at H
       have c8b0 : ((x2_1.length : Int) == 0) = F := beq_eq_false_iff_ne.mpr c8
       have c8b1 : ((x2_1.length : Int) != 0) = T := bne_iff_ne.mpr c8
       have c8b2 : ¬ (x2_1 = []) := fun h_ => c8 (by rw [h_]; rfl)
       obtain ⟨ji31, hji31⟩ : ∃ j_ : Int, (wrap64 ((x2_1.length : Int) - 1)) = j_ := ⟨_, rfl⟩
       replace H : (if 0 ≤ (ji31) then (if (ji31) < (x2_1.length : Int) then (if (rdOf ByteArray.empty x2_1 (ji31)).toList = ((rd_T71 l0 x12_1).f0.f0).toList then (if 0 ≤ (wrap64 ((x3_1.length : Int) - 1)) then (if (wrap64 ((x3_1.length : Int) - 1)) < (x3_1.length : Int) then (if (rd_L7 x3_1 (wrap64 ((x3_1.length : Int) - 1))).length < 2513169434916 then (Qap.l0 k1 x2_1 (x3_1.set ((wrap64 ((x3_1.length : Int) - 1)) : Int).toNat ((rd_L7 x3_1 (wrap64 ((x3_1.length : Int) - 1))) ++ [(⟨(⟨(rd_T71 l0 x12_1).f0.f0, (rd_T71 l0 x12_1).f0.f1, (rd_T71 l0 x12_1).f0.f2, (rd_T71 l0 x12_1).f0.f3⟩ : S69), (rd_T71 l0 x12_1).f1, (rd_T71 l0 x12_1).f2⟩ : S71)])) l0 (l0.length : Int) (wrap64 (x12_1 + 1))) else (none)) else (none)) else (none)) else (if x2_1.length < 8796093022208 then (if x3_1.length < 5864062014805 then ((some (x3_1 ++ [[]] : List (List (S71)))).bind fun y383 => (if 0 ≤ (wrap64 ((y383.length : Int) - 1)) then (if (wrap64 ((y383.length : Int) - 1)) < (y383.length : Int) then (if (rd_L7 y383 (wrap64 ((y383.length : Int) - 1))).length < 2513169434916 then (Qap.l0 k1 (x2_1 ++ [(rd_T71 l0 x12_1).f0.f0]) (y383.set ((wrap64 ((y383.length : Int) - 1)) : Int).toNat ((rd_L7 y383 (wrap64 ((y383.length : Int) - 1))) ++ [(⟨(⟨(rd_T71 l0 x12_1).f0.f0, (rd_T71 l0 x12_1).f0.f1, (rd_T71 l0 x12_1).f0.f2, (rd_T71 l0 x12_1).f0.f3⟩ : S69), (rd_T71 l0 x12_1).f1, (rd_T71 l0 x12_1).f2⟩ : S71)])) l0 (l0.length : Int) (wrap64 (x12_1 + 1))) else (none)) else (none)) else (none))) else (none)) else (none))) else (none)) else (none)) = some (r1, r2) := by first | (rw [hji31] at H; exact H) | (simp only [hji31] at H ⊢; exact H)
       have hji31w : (IntKind.i64.wrap ((x2_1.length : Int) - 1)) = ji31 := (i64_w _).trans hji31
       by_cases c32 : 0 ≤ (ji31)
       ·rw [if_pos c32] at H
        have c32b0 : decide (0 ≤ (ji31)) = T := decide_eq_true c32
        clear c32
        by_cases c33 : (ji31) < (x2_1.length : Int)
        ·rw [if_pos c33] at H
         have c33b0 : decide ((ji31) < (x2_1.length : Int)) = T := decide_eq_true c33
         clear c33
         have p361 : 0 ≤ (x12_1 : Int) := Ze
         have q361 : x12_1 < (l0.length : Int) := Ze
         obtain ⟨ad361, e361, hx361_0, hx361_1, hx361_2, hx361_3, hx361_4, hx361_5⟩ := at_T71 HR0.out x12_1 p361 q361
         cases e361
         replace hx361_0 := Zx HB.out hx361_0
         replace hx361_1 := Zx HB.out hx361_1
         replace hx361_2 := Zx HB.out hx361_2
         replace hx361_3 := Zx HB.out hx361_3
         replace hx361_4 := Zx HB.out hx361_4
         replace hx361_5 := Zx HB.out hx361_5
         replace p361 := eq_true p361
         replace q361 := eq_true q361
         try go_wp2_with (first | ((with_reducible refine Qa2 (N := 5) rfl ?_); refine Zbx (N := 5) (cs := #[.string (⟨#[]⟩ : ByteArray), .int .i64 0, .int .i64 0, .int .i64 0, .int .i64 0, .int .i64 0]) (t := 71) ?_; intro gb362 hg w34 hbox hb; have BK362 := Aside0.mk (hbox); have GW362 := Aside0.mk (Zt w hg (Zb)); have GE362 := GW362; replace HO_2 := Aside0.mk (Kd.R_below (Zr HO_2.out) hb); replace HO_3 := Aside0.mk (Kd.S_below (Kd.S_elderB (by (with_reducible repeat (first | apply Kd.S_alloc | apply Kd.S_drewN | apply Kd.S_drew)); exact HO_3.out) gb362 (Nat.le_of_eq hg.symm)) hb); replace HB := Aside0.mk (Qav (Zb) hb); clear hb hbox hg; obtain ⟨hcz35_0, hfz35_0⟩ := Zy (v := (.string (⟨#[]⟩ : ByteArray))) BK362.out 0; obtain ⟨hcz35_1, hfz35_1⟩ := Zy (v := (.int .i64 0)) BK362.out 1; obtain ⟨hcz35_2, hfz35_2⟩ := Zy (v := (.int .i64 0)) BK362.out 2; obtain ⟨hcz35_3, hfz35_3⟩ := Zy (v := (.int .i64 0)) BK362.out 3; obtain ⟨hcz35_4, hfz35_4⟩ := Zy (v := (.int .i64 0)) BK362.out 4; obtain ⟨hcz35_5, hfz35_5⟩ := Zy (v := (.int .i64 0)) BK362.out 5; obtain ⟨Ao36, co36, eo36⟩ := Kd.R_slice HO_2.out; subst eo36))
         have n0_ : Aside0 (Kd.R Kd.string 9 ((((((w34.setCell ⟨gb362, 0, none⟩ (.string ((rd_T71 l0 x12_1).f0.f0))).setCell ⟨gb362, 1, none⟩ (.int .i64 ((rd_T71 l0 x12_1).f0.f1))).setCell ⟨gb362, 2, none⟩ (.int .i64 ((rd_T71 l0 x12_1).f0.f2))).setCell ⟨gb362, 3, none⟩ (.int .i64 ((rd_T71 l0 x12_1).f0.f3))).setCell ⟨gb362, 4, none⟩ (.int .i64 ((rd_T71 l0 x12_1).f1))).setCell ⟨gb362, 5, none⟩ (.int .i64 ((rd_T71 l0 x12_1).f2))) w.heap.size (fun _ => True) (.slice Ao36 x2_1.length co36) x2_1) := ⟨by (with_reducible repeat (first | apply Kd.R_alloc | apply Kd.R_drewN | apply Kd.R_drew)); exact Kd.R_mono (Kd.R_far (p := ⟨gb362, 5, none⟩) (Kd.R_far (p := ⟨gb362, 4, none⟩) (Kd.R_far (p := ⟨gb362, 3, none⟩) (Kd.R_far (p := ⟨gb362, 2, none⟩) (Kd.R_far (p := ⟨gb362, 1, none⟩) (Kd.R_far (p := ⟨gb362, 0, none⟩) (Kd.R_types HO_2.out BK362.out (by decide)) (fun _ hk => hk.2) (.string ((rd_T71 l0 x12_1).f0.f0))) (fun _ hk => hk.2) (.int .i64 ((rd_T71 l0 x12_1).f0.f1))) (fun _ hk => hk.2) (.int .i64 ((rd_T71 l0 x12_1).f0.f2))) (fun _ hk => hk.2) (.int .i64 ((rd_T71 l0 x12_1).f0.f3))) (fun _ hk => hk.2) (.int .i64 ((rd_T71 l0 x12_1).f1))) (fun _ hk => hk.2) (.int .i64 ((rd_T71 l0 x12_1).f2))) (fun _ hk => trivial)⟩
         have n1_ : Aside0 (Kd.S (Kd.slice 71 k71) 22 ((((((w34.setCell ⟨gb362, 0, none⟩ (.string ((rd_T71 l0 x12_1).f0.f0))).setCell ⟨gb362, 1, none⟩ (.int .i64 ((rd_T71 l0 x12_1).f0.f1))).setCell ⟨gb362, 2, none⟩ (.int .i64 ((rd_T71 l0 x12_1).f0.f2))).setCell ⟨gb362, 3, none⟩ (.int .i64 ((rd_T71 l0 x12_1).f0.f3))).setCell ⟨gb362, 4, none⟩ (.int .i64 ((rd_T71 l0 x12_1).f1))).setCell ⟨gb362, 5, none⟩ (.int .i64 ((rd_T71 l0 x12_1).f2))) w.heap.size (fun k_ => k_ ≠ gb362) u3 x3_1) := ⟨by (with_reducible repeat (first | apply Kd.S_alloc | apply Kd.S_drewN | apply Kd.S_drew)); exact Kd.S_mono (Kd.S_far (p := ⟨gb362, 5, none⟩) (Kd.S_far (p := ⟨gb362, 4, none⟩) (Kd.S_far (p := ⟨gb362, 3, none⟩) (Kd.S_far (p := ⟨gb362, 2, none⟩) (Kd.S_far (p := ⟨gb362, 1, none⟩) (Kd.S_far (p := ⟨gb362, 0, none⟩) (Kd.S_mono HO_3.out (fun k_ hk => (⟨hk, hk.2⟩ : _ ∧ k_ ≠ gb362))) (fun _ hk => hk.2) (.string ((rd_T71 l0 x12_1).f0.f0))) (fun _ hk => hk.2) (.int .i64 ((rd_T71 l0 x12_1).f0.f1))) (fun _ hk => hk.2) (.int .i64 ((rd_T71 l0 x12_1).f0.f2))) (fun _ hk => hk.2) (.int .i64 ((rd_T71 l0 x12_1).f0.f3))) (fun _ hk => hk.2) (.int .i64 ((rd_T71 l0 x12_1).f1))) (fun _ hk => hk.2) (.int .i64 ((rd_T71 l0 x12_1).f2))) (fun _ hk => hk.1.2)⟩
         have n2_ : Aside0 (((((((w34.setCell ⟨gb362, 0, none⟩ (.string ((rd_T71 l0 x12_1).f0.f0))).setCell ⟨gb362, 1, none⟩ (.int .i64 ((rd_T71 l0 x12_1).f0.f1))).setCell ⟨gb362, 2, none⟩ (.int .i64 ((rd_T71 l0 x12_1).f0.f2))).setCell ⟨gb362, 3, none⟩ (.int .i64 ((rd_T71 l0 x12_1).f0.f3))).setCell ⟨gb362, 4, none⟩ (.int .i64 ((rd_T71 l0 x12_1).f1))).setCell ⟨gb362, 5, none⟩ (.int .i64 ((rd_T71 l0 x12_1).f2))).heap[gb362]? = some (.cells #[.string ((rd_T71 l0 x12_1).f0.f0), .int .i64 ((rd_T71 l0 x12_1).f0.f1), .int .i64 ((rd_T71 l0 x12_1).f0.f2), .int .i64 ((rd_T71 l0 x12_1).f0.f3), .int .i64 ((rd_T71 l0 x12_1).f1), .int .i64 ((rd_T71 l0 x12_1).f2)] 71 (0, 0))) := ⟨Zp2 BK362.out⟩
         have n3_ : Aside0 (Below w.heap.size w ((((((w34.setCell ⟨gb362, 0, none⟩ (.string ((rd_T71 l0 x12_1).f0.f0))).setCell ⟨gb362, 1, none⟩ (.int .i64 ((rd_T71 l0 x12_1).f0.f1))).setCell ⟨gb362, 2, none⟩ (.int .i64 ((rd_T71 l0 x12_1).f0.f2))).setCell ⟨gb362, 3, none⟩ (.int .i64 ((rd_T71 l0 x12_1).f0.f3))).setCell ⟨gb362, 4, none⟩ (.int .i64 ((rd_T71 l0 x12_1).f1))).setCell ⟨gb362, 5, none⟩ (.int .i64 ((rd_T71 l0 x12_1).f2)))) := ⟨Zc1 GE362.out⟩
         (try clear HO_2)
         (try clear HO_3)
         (try clear BK362)
         (try clear HB)
         generalize ((((((w34.setCell ⟨gb362, 0, none⟩ (.string ((rd_T71 l0 x12_1).f0.f0))).setCell ⟨gb362, 1, none⟩ (.int .i64 ((rd_T71 l0 x12_1).f0.f1))).setCell ⟨gb362, 2, none⟩ (.int .i64 ((rd_T71 l0 x12_1).f0.f2))).setCell ⟨gb362, 3, none⟩ (.int .i64 ((rd_T71 l0 x12_1).f0.f3))).setCell ⟨gb362, 4, none⟩ (.int .i64 ((rd_T71 l0 x12_1).f1))).setCell ⟨gb362, 5, none⟩ (.int .i64 ((rd_T71 l0 x12_1).f2))) = w37 at n0_ n1_ n2_ n3_ ⊢
         have HO_2 := n0_
         have HO_3 := n1_
         have BK362 := n2_
         have HB := n3_
         clear n0_ n1_ n2_ n3_
         replace HO_2 := Aside0.mk (Kd.R_drew HO_2.out)
         replace HO_3 := Aside0.mk (Kd.S_drew HO_3.out)
         replace BK362 := Aside0.mk (Qai BK362.out)
         replace HB := Aside0.mk (Qac HB.out)
         have p374 : 0 ≤ ((ji31) : Int) := Ze
         have q374 : (ji31) < (x2_1.length : Int) := Ze
         obtain ⟨ad374, e374, hx374_0⟩ := Kd.at_string (Kd.R_reads' HO_2.out).2.2 (ji31) p374 q374
         cases e374
         replace p374 := eq_true p374
         replace q374 := eq_true q374
         refine start_ (n := 13) (S := fun w' => w'.cell? ⟨gb362, 0, none⟩ = some (.string ((rd_T71 l0 x12_1).f0.f0)) ∧ w'.cell? ⟨gb362, 1, none⟩ = some (.int .i64 ((rd_T71 l0 x12_1).f0.f1)) ∧ w'.cell? ⟨gb362, 2, none⟩ = some (.int .i64 ((rd_T71 l0 x12_1).f0.f2)) ∧ w'.cell? ⟨gb362, 3, none⟩ = some (.int .i64 ((rd_T71 l0 x12_1).f0.f3)) ∧ w'.cell? ⟨gb362, 4, none⟩ = some (.int .i64 ((rd_T71 l0 x12_1).f1)) ∧ w'.cell? ⟨gb362, 5, none⟩ = some (.int .i64 ((rd_T71 l0 x12_1).f2)) ∧ w'.cell? (ad374.add ((ji31)).toNat) = some (.string (rdOf ByteArray.empty x2_1 (ji31)))) (ds := []) #[F, F, F, F, F, F, F, F, F, F, F, F, F] (by kernel_rfl) rfl rfl ⟨(Qad BK362.out 0).trans rfl, (Qad BK362.out 1).trans rfl, (Qad BK362.out 2).trans rfl, (Qad BK362.out 3).trans rfl, (Qad BK362.out 4).trans rfl, (Qad BK362.out 5).trans rfl, hx374_0⟩ (fun hHeld => ?_); refine QaP Qap.tab7 Qap.bits7 (fun HT_ HW_ => ?_)
         generalize w37.drew = w38 at HO_2 HO_3 BK362 HB hx374_0 hHeld ⊢
         refine Zsp (i := 0) (N := some 18) (pm 13 1) HT_ ?_
         refine Zsp (i := 1) (N := some 19) (pm 13 2) HT_ ?_
         refine Zsp (i := 2) (N := some 20) (pm 13 3) HT_ ?_
         refine Zsp (i := 3) (N := some 21) (pm 13 4) HT_ ?_
         refine Zsp (i := 4) (N := some 22) (pm 13 5) HT_ ?_
         refine Zsp (i := 5) (N := some 23) (pm 13 6) HT_ ?_
         refine Zsp (i := 6) (N := some 24) (pm 13 7) HT_ ?_
         refine Zsp (i := 8) (N := some 26) #[T, T, T, T, T, T, T, F, T, F, F, F, F] HT_ ?_
         refine Zsp (i := 9) (N := some 27) #[T, T, T, T, T, T, T, F, T, T, F, F, F] HT_ ?_
         refine Zst (i := 7) (N := some 25) (pm 13 10) HT_ HW_ hHeld ?_ (hy := by (refine Or.inl ⟨by rfl, ?_⟩; rintro w' ⟨s0, s1, s2, s3, s4, s5, s6⟩; go_simp; with_reducible rfl))
         refine Zst (i := 10) (N := some 28) (pm 13 11) HT_ HW_ hHeld ?_ (hy := by (refine Or.inl ⟨by rfl, ?_⟩; rintro w' ⟨s0, s1, s2, s3, s4, s5, s6⟩; go_simp; with_reducible rfl))
         refine Zsp (i := 11) (N := some 29) (pm 13 12) HT_ ?_
         refine Zsp (i := 12) (N := some 30) (pm 13 13) HT_ ?_
         refine done_ (QaX HT_.out (by kernel_rfl)) ?_
         go_upto_if 30 with (fail)
         by_cases c39 : (rdOf ByteArray.empty x2_1 (ji31)).toList = ((rd_T71 l0 x12_1).f0.f0).toList
         ·rw [if_pos c39] at H
          have c39b0 : ((rdOf ByteArray.empty x2_1 (ji31)).toList == ((rd_T71 l0 x12_1).f0.f0).toList) = T := beq_iff_eq.mpr c39
          have c39b1 : ((rdOf ByteArray.empty x2_1 (ji31)).toList != ((rd_T71 l0 x12_1).f0.f0).toList) = F := bne_eq_false_iff_eq.mpr c39
          clear c39
          (try simp only [c39b0, c39b1])
          obtain ⟨ji40, hji40⟩ : ∃ j_ : Int, (wrap64 ((x3_1.length : Int) - 1)) = j_ := ⟨_, rfl⟩
          replace H : (if 0 ≤ (ji40) then (if (ji40) < (x3_1.length : Int) then (if (rd_L7 x3_1 (ji40)).length < 2513169434916 then (Qap.l0 k1 x2_1 (x3_1.set ((ji40) : Int).toNat ((rd_L7 x3_1 (ji40)) ++ [(⟨(⟨(rd_T71 l0 x12_1).f0.f0, (rd_T71 l0 x12_1).f0.f1, (rd_T71 l0 x12_1).f0.f2, (rd_T71 l0 x12_1).f0.f3⟩ : S69), (rd_T71 l0 x12_1).f1, (rd_T71 l0 x12_1).f2⟩ : S71)])) l0 (l0.length : Int) (wrap64 (x12_1 + 1))) else (none)) else (none)) else (none)) = some (r1, r2) := by first | (rw [hji40] at H; exact H) | (simp only [hji40] at H ⊢; exact H)
          have hji40w : (IntKind.i64.wrap ((x3_1.length : Int) - 1)) = ji40 := (i64_w _).trans hji40
          by_cases c41 : 0 ≤ (ji40)
          ·rw [if_pos c41] at H
           have c41b0 : decide (0 ≤ (ji40)) = T := decide_eq_true c41
           clear c41
           by_cases c42 : (ji40) < (x3_1.length : Int)
           ·rw [if_pos c42] at H
            have c42b0 : decide ((ji40) < (x3_1.length : Int)) = T := decide_eq_true c42
            clear c42
            by_cases c43 : (rd_L7 x3_1 (ji40)).length < 2513169434916
            ·rw [if_pos c43] at H
             have LMc43 := Aside0.mk c43
             clear c43
             obtain ⟨y376, hy376⟩ : ∃ y_ : List (S71), y_ = ((rd_L7 x3_1 (ji40)) ++ [(⟨(⟨(rd_T71 l0 x12_1).f0.f0, (rd_T71 l0 x12_1).f0.f1, (rd_T71 l0 x12_1).f0.f2, (rd_T71 l0 x12_1).f0.f3⟩ : S69), (rd_T71 l0 x12_1).f1, (rd_T71 l0 x12_1).f2⟩ : S71)]) := ⟨_, rfl⟩
             replace H : (Qap.l0 k1 x2_1 (x3_1.set ((ji40) : Int).toNat y376) l0 (l0.length : Int) (wrap64 (x12_1 + 1))) = some (r1, r2) := by first | (rw [hy376]; with_reducible exact H) | (have H2_ := (Option.bind_some _ _).symm.trans H; rw [hy376]; with_reducible exact H2_) | (have H2_ := (Option.bind_some _ _).symm.trans H; with_reducible exact H2_) | with_reducible exact H | (rw [hy376]; exact H) | exact H
             have Ny376 := Aside0.mk hy376
             clear hy376
             obtain ⟨y379, hy379⟩ : ∃ y_ : List (List (S71)), y_ = (x3_1.set ((ji40) : Int).toNat y376) := ⟨_, rfl⟩
             replace H : (Qap.l0 k1 x2_1 y379 l0 (l0.length : Int) (wrap64 (x12_1 + 1))) = some (r1, r2) := by first | (rw [hy379]; with_reducible exact H) | (have H2_ := (Option.bind_some _ _).symm.trans H; rw [hy379]; with_reducible exact H2_) | (have H2_ := (Option.bind_some _ _).symm.trans H; with_reducible exact H2_) | with_reducible exact H | (rw [hy379]; exact H) | exact H
             have Ny379 := Aside0.mk hy379
             clear hy379
             have H' := Aside0.mk H
             clear H
             try go_wp2
             replace HO_2 := Aside0.mk (Kd.R_drew HO_2.out)
             replace HO_3 := Aside0.mk (Kd.S_drew HO_3.out)
             replace BK362 := Aside0.mk (Qai BK362.out)
             replace HB := Aside0.mk (Qac HB.out)
             obtain ⟨Ao46, co46, eo46⟩ := Kd.S_slice HO_3.out
             (first | subst eo46 | (injection eo46 with f1_ f2_ f3_; have f4_ := f1_.symm; have f5_ := f3_.symm; clear f1_ f2_ f3_; subst f4_; subst f5_))
             have p375 : 0 ≤ ((ji40) : Int) := Ze
             have q375 : (ji40) < (x3_1.length : Int) := Ze
             obtain ⟨ad375, A375_0, c375_0, e375, hx375_0, hl375_0, hi375_0⟩ := at_L7 (Kd.S_reads' HO_3.out).2.2 (ji40) p375 q375
             cases e375
             obtain ⟨ce375, hce375, hMe375, hcc375⟩ := Kd.S_get HO_3.out [] (ji40) p375 (by first | exact q375 | exact Ze | (have e_ := (Kd.S_reads' HO_3.out).1; omega))
             obtain ⟨ve375_0, rfl, ge375_0⟩ := hMe375
             have hv375_0 := hcc375 0 _ rfl
             rw [Nat.add_zero, show ((Kd.slice 71 k71)).sz = 1 from rfl, Nat.mul_one] at hv375_0
             replace hv375_0 := Option.some.inj (hv375_0.symm.trans hx375_0)
             rw [hv375_0] at ge375_0
             have HL375_0 := Aside0.mk (show Kd.R k71 71 _ _ _ _ (rd_L7 x3_1 (ji40)) from ge375_0)
             clear hv375_0 ge375_0
             have HX375_0 := Aside0.mk hx375_0
             clear hcc375 hce375
             have HR375_0 := Aside0.mk hi375_0
             have HC375_0 := Aside0.mk hl375_0
             clear hi375_0 hl375_0
             replace p375 := eq_true p375
             replace q375 := eq_true q375
             obtain ⟨go47, co47, eo47, gb47, gl47, cl47, HG47⟩ := Kd.S_form HO_3.out (by have h_ : ((ji40) : Int) < ((x3_1.length : Int) : Int) := Ze; have h2_ : 0 ≤ ((ji40) : Int) := (Ze); omega)
             (first | cases eo47 | (injection eo47 with ea_ en_ ec_; (first | subst ea_ | (injection ea_ with ea_; subst ea_)); subst ec_; clear en_))
             have GB47 := Aside0.mk gb47
             have GG47 := Aside0.mk HG47
             clear gb47 gl47 HG47
             (first | simp only [Qa4] at hx375_0 | skip)
             obtain ⟨oki47, ce47, hcl47, hM47, hcc47, _, _, hH47⟩ := Kd.S_elem HO_3.out [] ((ji40) : Int) (Ze) (by have h_ : ((ji40) : Int) < ((x3_1.length : Int) : Int) := Ze; first | exact h_ | (have e_ := (Kd.S_reads' HO_3.out).1; omega) | simpa using h_)
             obtain ⟨ve47_0, rfl, ge47_0⟩ := hM47
             have hv47 := hcc47 0 _ rfl
             have hX47 := HX375_0.out
             (try simp only [Qa4] at hX47)
             (try simp only [Nat.add_zero] at hv47)
             (try rw [show ((Kd.slice 71 k71)).sz = 1 from rfl, Nat.mul_one] at hv47)
             replace hv47 := Option.some.inj (hv47.symm.trans hX47)
             subst hv47
             clear hX47 hcc47 hcl47
             have UU47 := Aside0.mk (show Kd.R k71 71 _ w.heap.size oki47 (.slice A375_0 (rd_L7 x3_1 (ji40)).length c375_0) (rd_L7 x3_1 (ji40)) from ge47_0)
             have HH47 := Aside0.mk hH47
             have HN47 := Aside0.mk (Kd.S_reads' HO_3.out).1
             clear hH47 ge47_0
             refine start_ (n := 15) (S := fun w' => w'.cell? ⟨gb362, 0, none⟩ = some (.string ((rd_T71 l0 x12_1).f0.f0)) ∧ w'.cell? ⟨gb362, 1, none⟩ = some (.int .i64 ((rd_T71 l0 x12_1).f0.f1)) ∧ w'.cell? ⟨gb362, 2, none⟩ = some (.int .i64 ((rd_T71 l0 x12_1).f0.f2)) ∧ w'.cell? ⟨gb362, 3, none⟩ = some (.int .i64 ((rd_T71 l0 x12_1).f0.f3)) ∧ w'.cell? ⟨gb362, 4, none⟩ = some (.int .i64 ((rd_T71 l0 x12_1).f1)) ∧ w'.cell? ⟨gb362, 5, none⟩ = some (.int .i64 ((rd_T71 l0 x12_1).f2)) ∧ w'.cell? ⟨go47, ((ji40)).toNat, none⟩ = some (.slice A375_0 (rd_L7 x3_1 (ji40)).length c375_0)) (ds := [14]) #[F, F, F, F, F, F, F, F, F, F, F, F, F, F, F] (by kernel_rfl) rfl rfl ⟨(Qad BK362.out 0).trans rfl, (Qad BK362.out 1).trans rfl, (Qad BK362.out 2).trans rfl, (Qad BK362.out 3).trans rfl, (Qad BK362.out 4).trans rfl, (Qad BK362.out 5).trans rfl, hx375_0⟩ (fun hHeld => ?_); refine QaP Qap.tab10 Qap.bits10 (fun HT_ HW_ => ?_)
             generalize w38.drew = w45 at HO_2 HO_3 BK362 HB GG47 HH47 HL375_0 HR375_0 HX375_0 UU47 hx375_0 hHeld ⊢
             refine Zsp (i := 0) (N := some 40) (pm 15 1) HT_ ?_
             refine Zsp (i := 1) (N := some 41) (pm 15 2) HT_ ?_
             refine Zsp (i := 2) (N := some 42) (pm 15 3) HT_ ?_
             refine Zsp (i := 3) (N := some 43) (pm 15 4) HT_ ?_
             refine Zsp (i := 4) (N := some 44) (pm 15 5) HT_ ?_
             refine Zsp (i := 5) (N := some 45) (pm 15 6) HT_ ?_
             refine Zsp (i := 6) (N := some 46) (pm 15 7) HT_ ?_
             refine Zsp (i := 7) (N := some 47) (pm 15 8) HT_ ?_
             refine Zsp (i := 8) (N := some 48) (pm 15 9) HT_ ?_
             refine Zst (i := 9) (N := some 49) (pm 15 10) HT_ HW_ hHeld ?_ (hy := by (refine Or.inl ⟨by rfl, ?_⟩; rintro w' ⟨s0, s1, s2, s3, s4, s5, s6⟩; go_simp; with_reducible rfl))
             refine Zst (i := 10) (N := some 50) (pm 15 11) HT_ HW_ hHeld ?_ (hy := by (refine Or.inl ⟨by rfl, ?_⟩; rintro w' ⟨s0, s1, s2, s3, s4, s5, s6⟩; go_simp; with_reducible rfl))
             refine one_ (i := 11) (N := some 51) #[T, T, T, T, T, T, T, T, T, T, T, T, F, F, F] rfl rfl (one_of HT_.out (by kernel_rfl)) (by decide) (fun K hK => ?_)
             refine value_ (w1 := ?_) (v := ?_) (by rfl) rfl ?_ ?_
             rotate_left 2
             ·go_simp
              constructor
              ·rfl
              rfl
             refine hK.out _ _ ⟨(Qad (Qag BK362.out _) 0).trans rfl, (Qad (Qag BK362.out _) 1).trans rfl, (Qad (Qag BK362.out _) 2).trans rfl, (Qad (Qag BK362.out _) 3).trans rfl, (Qad (Qag BK362.out _) 4).trans rfl, (Qad (Qag BK362.out _) 5).trans rfl, (World.cell?_alloc_lt _ _ _ (World.block_lt_of_cell? _ _ (hHeld.2.2.2.2.2.2))).trans (hHeld.2.2.2.2.2.2)⟩ (fun hHeld => ?_)
             clear hK K
             refine norm_ (a' := ?_) ?_ ?_
             rotate_left
             ·show Act.put _ (some 51) _ = _
              simp only [Act.put, Zj, Zk, Zm, i64_w, i32_w]
              rfl
             refine one_ (i := 12) (N := some 52) #[T, T, T, T, T, T, T, T, T, T, T, T, T, F, F] rfl rfl (one_of HT_.out (by kernel_rfl)) (by decide) (fun K hK => ?_)
             refine Kd.R_append_step k71 (w0 := w) w.heap.size (by rfl) (.tmp 49) (.tmp 51) 22 71 (.agg #[(.string ⟨#[]⟩), (.int .i64 0), (.int .i64 0), (.int .i64 0), (.int .i64 0), (.int .i64 0)]) 56 rfl Try.underlying22 info71 rfl (by decide) (by omega) (.slice A375_0 (rd_L7 x3_1 (ji40)).length c375_0) (rd_L7 x3_1 (ji40)) (⟨(⟨(rd_T71 l0 x12_1).f0.f0, (rd_T71 l0 x12_1).f0.f1, (rd_T71 l0 x12_1).f0.f2, (rd_T71 l0 x12_1).f0.f3⟩ : S69), (rd_T71 l0 x12_1).f1, (rd_T71 l0 x12_1).f2⟩ : S71) [.string ((rd_T71 l0 x12_1).f0.f0), .int .i64 ((rd_T71 l0 x12_1).f0.f1), .int .i64 ((rd_T71 l0 x12_1).f0.f2), .int .i64 ((rd_T71 l0 x12_1).f0.f3), .int .i64 ((rd_T71 l0 x12_1).f1), .int .i64 ((rd_T71 l0 x12_1).f2)] (fun k_ => oki47 k_ ∨ ((fun k_ => k_ ≠ gb362)) k_ ∧ w45.heap.size ≤ k_) (fun _ => False) rfl rfl ?aP (fun _ hk => hk.elim) ?aF ?aO ?aB ?aS ?aL ?_
             (case aP => exact Qcs _ _ _ (⟨(⟨(rd_T71 l0 x12_1).f0.f0, (rd_T71 l0 x12_1).f0.f1, (rd_T71 l0 x12_1).f0.f2, (rd_T71 l0 x12_1).f0.f3⟩ : S69), (rd_T71 l0 x12_1).f1, (rd_T71 l0 x12_1).f2⟩ : S71))
             (case aB => exact (Zc1 GE362.out))
             (case aF => exact (fun k_ hk => .inr ⟨Kd.freshB (g := gb362) (o := .cells #[.string ((rd_T71 l0 x12_1).f0.f0), .int .i64 ((rd_T71 l0 x12_1).f0.f1), .int .i64 ((rd_T71 l0 x12_1).f0.f2), .int .i64 ((rd_T71 l0 x12_1).f0.f3), .int .i64 ((rd_T71 l0 x12_1).f1), .int .i64 ((rd_T71 l0 x12_1).f2)] 71 (0, 0)) (Zu BK362.out) k_ hk, hk⟩))
             (case aO => exact (by (with_reducible repeat (first | apply Kd.R_alloc | apply Kd.R_drewN | apply Kd.R_drew)); exact Kd.R_mono UU47.out (fun _ hk => .inl hk)))
             (case aS => exact (Qax (Zc1 GE362.out)))
             (case aL => have := LMc43.out; omega)
             intro v377 w48 ho hb hg hat
             (first | have HS6_ := QbP hg (hHeld.2.2.2.2.2.2) (by first | (rw [Qbc]; exact (fun e_ => ((HL375_0.out.1 _ e_.symm).2) rfl)) | (show some (Addr.add _ _).block ≠ _; rw [Qbc]; exact (fun e_ => ((HL375_0.out.1 _ e_.symm).2) rfl)) | exact (fun e_ => ((HL375_0.out.1 _ e_.symm).2) rfl)) | have HS6_ := QbP hg (Qcc (hHeld.2.2.2.2.2.2) (by first | (rw [Qbc]; exact Kd.S_lt HO_3.out _ rfl) | (show (Addr.add _ _).block < _; rw [Qbc]; exact Kd.S_lt HO_3.out _ rfl) | exact Kd.S_lt HO_3.out _ rfl)) (by first | (rw [Qbc]; exact (fun e_ => ((HL375_0.out.1 _ e_.symm).2) rfl)) | (show some (Addr.add _ _).block ≠ _; rw [Qbc]; exact (fun e_ => ((HL375_0.out.1 _ e_.symm).2) rfl)) | exact (fun e_ => ((HL375_0.out.1 _ e_.symm).2) rfl)))
             rw [← Ny376.out] at ho
             have HO378 := Aside0.mk (ho)
             replace HO_2 := Aside0.mk (Kd.R_over' (v := (.slice A375_0 (rd_L7 x3_1 (ji40)).length c375_0)) (Zr HO_2.out) (Kd.R_typed HL375_0.out) (by decide) hg)
             replace BK362 := Aside0.mk (Qa0 (g := gb362) (o := .cells #[.string ((rd_T71 l0 x12_1).f0.f0), .int .i64 ((rd_T71 l0 x12_1).f0.f1), .int .i64 ((rd_T71 l0 x12_1).f0.f2), .int .i64 ((rd_T71 l0 x12_1).f0.f3), .int .i64 ((rd_T71 l0 x12_1).f1), .int .i64 ((rd_T71 l0 x12_1).f2)] 71 (0, 0)) (Zu BK362.out) hg (Kd.R_away HL375_0.out (fun _ hk => hk.1)))
             replace HB := Aside0.mk (hb)
             replace HH47 := Aside0.mk (Kd.H_grown (Kd.H_widen (by repeat (first | exact HH47.out | refine Kd.H_alloc ?_ _ | refine Kd.H_drewN ?_ _ | refine Kd.H_drew ?_))) hg (fun k_ e_ => .inl (UU47.out.1 k_ e_)))
             clear HO_3 UU47 HL375_0
             clear ho hb hg hat
             have p44 : 0 ≤ ((ji40) : Int) := Ze
             have q44 : ((ji40) : Int) < ((x3_1.length : Int) : Int) := Ze
             replace p44 := eq_true p44
             replace q44 := eq_true q44
             obtain ⟨Ao51, co51, eo51⟩ := Kd.R_slice HO378.out
             (first | subst eo51 | (injection eo51 with f1_ f2_ f3_; have f4_ := f1_.symm; have f5_ := f3_.symm; clear f1_ f2_ f3_; subst f4_; subst f5_))
             obtain ⟨_, _, hraw49, _, _, hcc49, _⟩ := Kd.H_raw HH47.out (Ze) (by have h_ : ((ji40) : Int) < ((x3_1.length : Int) : Int) := Ze; first | exact h_ | (have e_ := (HN47.out); omega) | simpa using h_)
             obtain ⟨_, hfr49⟩ := Kd.H_at HH47.out (Ze) (by have h_ : ((ji40) : Int) < ((x3_1.length : Int) : Int) := Ze; first | exact h_ | (have e_ := (HN47.out); omega) | simpa using h_)
             have hx49_0 := hcc49 0 _ rfl
             have hf49_0 := hfr49 0
             (try simp only [Nat.add_zero] at hx49_0 hf49_0)
             (try rw [show ((Kd.slice 71 k71)).sz = 1 from rfl, Nat.mul_one] at hx49_0)
             (try rw [show ((Kd.slice 71 k71)).sz = 1 from rfl, Nat.mul_one] at hf49_0)
             have HP49 := Kd.S_seg0 HH47.out (Ze) (by have h_ : ((ji40) : Int) < ((x3_1.length : Int) : Int) := Ze; first | exact h_ | (have e_ := (HN47.out); omega) | simpa using h_) (seg := [.slice Ao51 y376.length co51]) (j := 0) (show 1 ≤ 1 from by decide) (x' := y376) (Kd.M_row HO378.out) (fun _ hk => hk)
             (try simp only [show ((Kd.slice 71 k71)).sz = 1 from rfl, Nat.mul_one, Nat.add_zero] at HP49)
             clear hcc49 hfr49
             have HNB362_go47 := Aside0.mk (show gb362 ≠ go47 from by have h_ := Kd.R_ne hraw49 BK362.out (by decide); intro e_; exact h_ (by rw [e_]; rfl))
             have HS49 := HP49.1
             rw [← Ny379.out] at HS49
             have HQ49 := Aside0.mk HS49
             obtain ⟨_, hgg49⟩ := Kd.R_typed hraw49 go47 rfl
             have GG49_ := Aside0.mk hgg49
             clear HP49 HS49 hgg49
             refine hK.out _ _ ⟨(Qad BK362.out 0).trans rfl, (Qad BK362.out 1).trans rfl, (Qad BK362.out 2).trans rfl, (Qad BK362.out 3).trans rfl, (Qad BK362.out 4).trans rfl, (Qad BK362.out 5).trans rfl, HS6_⟩ (fun hHeld => ?_)
             clear hK K
             refine norm_ (a' := ?_) ?_ ?_
             rotate_left
             ·show Act.put _ (some 52) _ = _
              simp only [Act.put, Zj, Zk, Zm, i64_w, i32_w]
              rfl
             refine Zsp (i := 13) (N := some 53) (pm 15 14) HT_ ?_
             refine last_ (i := 14) (N := none) #[T, T, T, T, T, T, T, T, T, T, T, T, T, T, T] rfl rfl (one_of HT_.out (by kernel_rfl)) (by decide) (fun K hK => ?_)
             refine skip_ (w1 := ?_) (by rfl) rfl ?_ ?_
             rotate_left
             ·go_simp
              rfl
             refine hK.out _ _ ?_
             clear hK K
             refine done_ (QaX HT_.out (by kernel_rfl)) ?_
             try go_wp2
             go_roundg k1
             case measure => have := HK1.out; omega
             case rel => exact ⟨(x2_1), (y379), (wrap64 (x12_1 + 1)), (Zs), H', ⟨by have := HK1.out; omega⟩, ⟨by (with_reducible repeat (first | apply Kd.R_alloc | apply Kd.R_drewN | apply Kd.R_drew)); exact Kd.R_mono (Kd.R_far (p := ⟨go47, ((ji40) : Int).toNat, none⟩) (Kd.R_types HO_2.out GG49_.out (by decide)) (fun _ hk => hk.2) (.slice Ao51 y376.length co51)) (fun _ hk => trivial)⟩, ⟨by (with_reducible repeat (first | apply Kd.S_alloc | apply Kd.S_drewN | apply Kd.S_drew)); exact Kd.S_mono HQ49.out (fun _ hk => trivial)⟩, ⟨by repeat (first | (with_reducible first | exact HB.out | apply Qae | apply Qab | apply Qac | refine Qaj ?_ GB47.out | refine Qaj ?_ GE362.out) | exact HB.out)⟩⟩
            rw [if_neg c43] at H
            exact absurd H (by simp)
           rw [if_neg c42] at H
           exact absurd H (by simp)
          rw [if_neg c41] at H
          exact absurd H (by simp)
         rw [if_neg c39] at H
         have c39b0 : ((rdOf ByteArray.empty x2_1 (ji31)).toList == ((rd_T71 l0 x12_1).f0.f0).toList) = F := beq_eq_false_iff_ne.mpr c39
         have c39b1 : ((rdOf ByteArray.empty x2_1 (ji31)).toList != ((rd_T71 l0 x12_1).f0.f0).toList) = T := bne_iff_ne.mpr c39
         (try simp only [c39b0, c39b1])
         by_cases c52 : x2_1.length < 8796093022208
         ·rw [if_pos c52] at H
          have LMc52 := Aside0.mk c52
          clear c52
          obtain ⟨y380, hy380⟩ : ∃ y_ : List ByteArray, y_ = (x2_1 ++ [(rd_T71 l0 x12_1).f0.f0]) := ⟨_, rfl⟩
          replace H : (if x3_1.length < 5864062014805 then ((some (x3_1 ++ [[]] : List (List (S71)))).bind fun y383 => (if 0 ≤ (wrap64 ((y383.length : Int) - 1)) then (if (wrap64 ((y383.length : Int) - 1)) < (y383.length : Int) then (if (rd_L7 y383 (wrap64 ((y383.length : Int) - 1))).length < 2513169434916 then (Qap.l0 k1 y380 (y383.set ((wrap64 ((y383.length : Int) - 1)) : Int).toNat ((rd_L7 y383 (wrap64 ((y383.length : Int) - 1))) ++ [(⟨(⟨(rd_T71 l0 x12_1).f0.f0, (rd_T71 l0 x12_1).f0.f1, (rd_T71 l0 x12_1).f0.f2, (rd_T71 l0 x12_1).f0.f3⟩ : S69), (rd_T71 l0 x12_1).f1, (rd_T71 l0 x12_1).f2⟩ : S71)])) l0 (l0.length : Int) (wrap64 (x12_1 + 1))) else (none)) else (none)) else (none))) else (none)) = some (r1, r2) := by first | (rw [hy380]; with_reducible exact H) | (have H2_ := (Option.bind_some _ _).symm.trans H; rw [hy380]; with_reducible exact H2_) | (have H2_ := (Option.bind_some _ _).symm.trans H; with_reducible exact H2_) | with_reducible exact H | (rw [hy380]; exact H) | exact H
          have Ny380 := Aside0.mk hy380
          clear hy380
          by_cases c53 : x3_1.length < 5864062014805
          ·rw [if_pos c53] at H
           have LMc53 := Aside0.mk c53
           clear c53
           obtain ⟨y383, hy383⟩ : ∃ y_ : List (List (S71)), y_ = (x3_1 ++ [[]]) := ⟨_, rfl⟩
           replace H : (if 0 ≤ (wrap64 ((y383.length : Int) - 1)) then (if (wrap64 ((y383.length : Int) - 1)) < (y383.length : Int) then (if (rd_L7 y383 (wrap64 ((y383.length : Int) - 1))).length < 2513169434916 then (Qap.l0 k1 y380 (y383.set ((wrap64 ((y383.length : Int) - 1)) : Int).toNat ((rd_L7 y383 (wrap64 ((y383.length : Int) - 1))) ++ [(⟨(⟨(rd_T71 l0 x12_1).f0.f0, (rd_T71 l0 x12_1).f0.f1, (rd_T71 l0 x12_1).f0.f2, (rd_T71 l0 x12_1).f0.f3⟩ : S69), (rd_T71 l0 x12_1).f1, (rd_T71 l0 x12_1).f2⟩ : S71)])) l0 (l0.length : Int) (wrap64 (x12_1 + 1))) else (none)) else (none)) else (none)) = some (r1, r2) := by first | (rw [hy383]; with_reducible exact H) | (have H2_ := (Option.bind_some _ _).symm.trans H; rw [hy383]; with_reducible exact H2_) | (have H2_ := (Option.bind_some _ _).symm.trans H; with_reducible exact H2_) | with_reducible exact H | (rw [hy383]; exact H) | exact H
           have Ny383 := Aside0.mk hy383
           clear hy383
           obtain ⟨ji54, hji54⟩ : ∃ j_ : Int, (wrap64 ((y383.length : Int) - 1)) = j_ := ⟨_, rfl⟩
           replace H : (if 0 ≤ (ji54) then (if (ji54) < (y383.length : Int) then (if (rd_L7 y383 (ji54)).length < 2513169434916 then (Qap.l0 k1 y380 (y383.set ((ji54) : Int).toNat ((rd_L7 y383 (ji54)) ++ [(⟨(⟨(rd_T71 l0 x12_1).f0.f0, (rd_T71 l0 x12_1).f0.f1, (rd_T71 l0 x12_1).f0.f2, (rd_T71 l0 x12_1).f0.f3⟩ : S69), (rd_T71 l0 x12_1).f1, (rd_T71 l0 x12_1).f2⟩ : S71)])) l0 (l0.length : Int) (wrap64 (x12_1 + 1))) else (none)) else (none)) else (none)) = some (r1, r2) := by first | (rw [hji54] at H; exact H) | (simp only [hji54] at H ⊢; exact H)
           have hji54w : (IntKind.i64.wrap ((y383.length : Int) - 1)) = ji54 := (i64_w _).trans hji54
           by_cases c55 : 0 ≤ (ji54)
           ·rw [if_pos c55] at H
            have c55b0 : decide (0 ≤ (ji54)) = T := decide_eq_true c55
            clear c55
            by_cases c56 : (ji54) < (y383.length : Int)
            ·rw [if_pos c56] at H
             have c56b0 : decide ((ji54) < (y383.length : Int)) = T := decide_eq_true c56
             clear c56
             by_cases c57 : (rd_L7 y383 (ji54)).length < 2513169434916
             ·rw [if_pos c57] at H
              have LMc57 := Aside0.mk c57
              clear c57
              obtain ⟨y387, hy387⟩ : ∃ y_ : List (S71), y_ = ((rd_L7 y383 (ji54)) ++ [(⟨(⟨(rd_T71 l0 x12_1).f0.f0, (rd_T71 l0 x12_1).f0.f1, (rd_T71 l0 x12_1).f0.f2, (rd_T71 l0 x12_1).f0.f3⟩ : S69), (rd_T71 l0 x12_1).f1, (rd_T71 l0 x12_1).f2⟩ : S71)]) := ⟨_, rfl⟩
              replace H : (Qap.l0 k1 y380 (y383.set ((ji54) : Int).toNat y387) l0 (l0.length : Int) (wrap64 (x12_1 + 1))) = some (r1, r2) := by first | (rw [hy387]; with_reducible exact H) | (have H2_ := (Option.bind_some _ _).symm.trans H; rw [hy387]; with_reducible exact H2_) | (have H2_ := (Option.bind_some _ _).symm.trans H; with_reducible exact H2_) | with_reducible exact H | (rw [hy387]; exact H) | exact H
              have Ny387 := Aside0.mk hy387
              clear hy387
              obtain ⟨y390, hy390⟩ : ∃ y_ : List (List (S71)), y_ = (y383.set ((ji54) : Int).toNat y387) := ⟨_, rfl⟩
              replace H : (Qap.l0 k1 y380 y390 l0 (l0.length : Int) (wrap64 (x12_1 + 1))) = some (r1, r2) := by first | (rw [hy390]; with_reducible exact H) | (have H2_ := (Option.bind_some _ _).symm.trans H; rw [hy390]; with_reducible exact H2_) | (have H2_ := (Option.bind_some _ _).symm.trans H; with_reducible exact H2_) | with_reducible exact H | (rw [hy390]; exact H) | exact H
              have Ny390 := Aside0.mk hy390
              clear hy390
              have H' := Aside0.mk H
              clear H
              obtain ⟨hcz59_0, hfz59_0⟩ := Zy (v := (.string ((rd_T71 l0 x12_1).f0.f0))) BK362.out 0
              obtain ⟨hcz59_1, hfz59_1⟩ := Zy (v := (.int .i64 ((rd_T71 l0 x12_1).f0.f1))) BK362.out 1
              obtain ⟨hcz59_2, hfz59_2⟩ := Zy (v := (.int .i64 ((rd_T71 l0 x12_1).f0.f2))) BK362.out 2
              obtain ⟨hcz59_3, hfz59_3⟩ := Zy (v := (.int .i64 ((rd_T71 l0 x12_1).f0.f3))) BK362.out 3
              obtain ⟨hcz59_4, hfz59_4⟩ := Zy (v := (.int .i64 ((rd_T71 l0 x12_1).f1))) BK362.out 4
              obtain ⟨hcz59_5, hfz59_5⟩ := Zy (v := (.int .i64 ((rd_T71 l0 x12_1).f2))) BK362.out 5
              try go_wp2_with (first | ((with_reducible refine Qbr (b := .append) (xs := #[.tmp 31, .tmp 35]) rfl ?_); at_builtin; refine Kd.R_append Kd.string (w0 := w) w.heap.size rfl (.tmp 31) (.tmp 35) 43 9 (.string ⟨#[]⟩) 16 rfl Try.underlying43 info9 rfl (by decide) (by omega) (.slice (some ad374) x2_1.length co36) x2_1 ((rd_T71 l0 x12_1).f0.f0) [.string ((rd_T71 l0 x12_1).f0.f0)] (fun _ => True) (fun _ => False) rfl rfl ?aP (fun _ hk => hk.elim) ?aF ?aO ?aB ?aS ?aL ?_; (case aP => exact rfl); (case aB => exact (Zc1 GE362.out)); (case aF => exact (fun _ _ => trivial)); (case aO => exact (Zr HO_2.out)); (case aS => exact (Qax (Zc1 GE362.out))); (case aL => have := LMc52.out; omega); intro v381 w60 ho hb hg hat; rw [← Ny380.out] at ho; have HO382 := Aside0.mk (ho); replace HO_3 := Aside0.mk (Kd.S_over' (by (with_reducible repeat (first | apply Kd.S_alloc | apply Kd.S_drewN | apply Kd.S_drew)); exact HO_3.out) (Kd.R_typed (Zr HO_2.out)) (by decide) hg); replace BK362 := Aside0.mk (Qa0 (g := gb362) (o := .cells #[.string ((rd_T71 l0 x12_1).f0.f0), .int .i64 ((rd_T71 l0 x12_1).f0.f1), .int .i64 ((rd_T71 l0 x12_1).f0.f2), .int .i64 ((rd_T71 l0 x12_1).f0.f3), .int .i64 ((rd_T71 l0 x12_1).f1), .int .i64 ((rd_T71 l0 x12_1).f2)] 71 (0, 0)) (Zu BK362.out) hg (Kd.R_ne HO_2.out BK362.out (by decide))); replace HB := Aside0.mk (hb); clear HO_2; clear ho hb hg hat) | ((with_reducible refine Qbr (b := .append) (xs := #[.tmp 37, .tmp 38]) rfl ?_); at_builtin; refine Kd.S_append (Kd.slice 71 k71) (w0 := w) w.heap.size rfl (.tmp 37) (.tmp 38) 44 22 (.slice none 0 0) 24 rfl Try.underlying44 info22 rfl (by decide) (by omega) u3 x3_1 [] [.slice none 0 0] (fun k_ => k_ ≠ gb362) (fun _ => False) rfl rfl ?aP (fun _ hk => hk.elim) ?aF ?aO ?aB ?aS ?aL ?_; (case aP => exact ⟨_, rfl, Kd.R_nil _ _ _ _ _⟩); (case aB => exact (Zc1 GE362.out)); (case aF => exact (fun k_ hk => Kd.freshB (g := gb362) (o := .cells #[.string ((rd_T71 l0 x12_1).f0.f0), .int .i64 ((rd_T71 l0 x12_1).f0.f1), .int .i64 ((rd_T71 l0 x12_1).f0.f2), .int .i64 ((rd_T71 l0 x12_1).f0.f3), .int .i64 ((rd_T71 l0 x12_1).f1), .int .i64 ((rd_T71 l0 x12_1).f2)] 71 (0, 0)) (Zu BK362.out) k_ hk)); (case aO => exact (by (with_reducible repeat (first | apply Kd.S_alloc | apply Kd.S_drewN | apply Kd.S_drew)); exact Kd.S_mono HO_3.out (fun k_ hk => ⟨hk, fun e_ => e_⟩))); (case aS => exact (Qax (Zc1 GE362.out))); (case aL => have := LMc53.out; omega); intro v384 w61 ho hb hg hat; rw [← Ny383.out] at ho; have HO385 := Aside0.mk (ho); replace BK362 := Aside0.mk (Qa0 (g := gb362) (o := .cells #[.string ((rd_T71 l0 x12_1).f0.f0), .int .i64 ((rd_T71 l0 x12_1).f0.f1), .int .i64 ((rd_T71 l0 x12_1).f0.f2), .int .i64 ((rd_T71 l0 x12_1).f0.f3), .int .i64 ((rd_T71 l0 x12_1).f1), .int .i64 ((rd_T71 l0 x12_1).f2)] 71 (0, 0)) (Zu BK362.out) hg (Kd.S_ne HO_3.out BK362.out (by decide))); replace HO382 := Aside0.mk (Kd.R_over' (Zr HO382.out) (Kd.S_typed (by (with_reducible repeat (first | apply Kd.S_alloc | apply Kd.S_drewN | apply Kd.S_drew)); exact HO_3.out)) (by decide) hg); replace HB := Aside0.mk (hb); clear HO_3; clear ho hb hg hat))
              replace HO382 := Aside0.mk (Kd.R_drew HO382.out)
              replace HO385 := Aside0.mk (Kd.S_drew HO385.out)
              replace BK362 := Aside0.mk (Qai BK362.out)
              replace HB := Aside0.mk (Qac HB.out)
              obtain ⟨Ao63, co63, eo63⟩ := Kd.S_slice HO385.out
              (first | subst eo63 | (injection eo63 with f1_ f2_ f3_; have f4_ := f1_.symm; have f5_ := f3_.symm; clear f1_ f2_ f3_; subst f4_; subst f5_))
              have p386 : 0 ≤ ((ji54) : Int) := Ze
              have q386 : (ji54) < (y383.length : Int) := Ze
              obtain ⟨ad386, A386_0, c386_0, e386, hx386_0, hl386_0, hi386_0⟩ := at_L7 (Kd.S_reads' HO385.out).2.2 (ji54) p386 q386
              cases e386
              obtain ⟨ce386, hce386, hMe386, hcc386⟩ := Kd.S_get HO385.out [] (ji54) p386 (by first | exact q386 | exact Ze | (have e_ := (Kd.S_reads' HO385.out).1; omega))
              obtain ⟨ve386_0, rfl, ge386_0⟩ := hMe386
              have hv386_0 := hcc386 0 _ rfl
              rw [Nat.add_zero, show ((Kd.slice 71 k71)).sz = 1 from rfl, Nat.mul_one] at hv386_0
              replace hv386_0 := Option.some.inj (hv386_0.symm.trans hx386_0)
              rw [hv386_0] at ge386_0
              have HL386_0 := Aside0.mk (show Kd.R k71 71 _ _ _ _ (rd_L7 y383 (ji54)) from ge386_0)
              clear hv386_0 ge386_0
              have HX386_0 := Aside0.mk hx386_0
              clear hcc386 hce386
              have HR386_0 := Aside0.mk hi386_0
              have HC386_0 := Aside0.mk hl386_0
              clear hi386_0 hl386_0
              replace p386 := eq_true p386
              replace q386 := eq_true q386
              obtain ⟨go64, co64, eo64, gb64, gl64, cl64, HG64⟩ := Kd.S_form HO385.out (by have h_ : ((ji54) : Int) < ((y383.length : Int) : Int) := Ze; have h2_ : 0 ≤ ((ji54) : Int) := (Ze); omega)
              (first | cases eo64 | (injection eo64 with ea_ en_ ec_; (first | subst ea_ | (injection ea_ with ea_; subst ea_)); subst ec_; clear en_))
              have GB64 := Aside0.mk gb64
              have GG64 := Aside0.mk HG64
              clear gb64 gl64 HG64
              (first | simp only [Qa4] at hx386_0 | skip)
              obtain ⟨oki64, ce64, hcl64, hM64, hcc64, _, _, hH64⟩ := Kd.S_elem HO385.out [] ((ji54) : Int) (Ze) (by have h_ : ((ji54) : Int) < ((y383.length : Int) : Int) := Ze; first | exact h_ | (have e_ := (Kd.S_reads' HO385.out).1; omega) | simpa using h_)
              obtain ⟨ve64_0, rfl, ge64_0⟩ := hM64
              have hv64 := hcc64 0 _ rfl
              have hX64 := HX386_0.out
              (try simp only [Qa4] at hX64)
              (try simp only [Nat.add_zero] at hv64)
              (try rw [show ((Kd.slice 71 k71)).sz = 1 from rfl, Nat.mul_one] at hv64)
              replace hv64 := Option.some.inj (hv64.symm.trans hX64)
              subst hv64
              clear hX64 hcc64 hcl64
              have UU64 := Aside0.mk (show Kd.R k71 71 _ w.heap.size oki64 (.slice A386_0 (rd_L7 y383 (ji54)).length c386_0) (rd_L7 y383 (ji54)) from ge64_0)
              have HH64 := Aside0.mk hH64
              have HN64 := Aside0.mk (Kd.S_reads' HO385.out).1
              clear hH64 ge64_0
              refine start_ (n := 15) (S := fun w' => w'.cell? ⟨gb362, 0, none⟩ = some (.string ((rd_T71 l0 x12_1).f0.f0)) ∧ w'.cell? ⟨gb362, 1, none⟩ = some (.int .i64 ((rd_T71 l0 x12_1).f0.f1)) ∧ w'.cell? ⟨gb362, 2, none⟩ = some (.int .i64 ((rd_T71 l0 x12_1).f0.f2)) ∧ w'.cell? ⟨gb362, 3, none⟩ = some (.int .i64 ((rd_T71 l0 x12_1).f0.f3)) ∧ w'.cell? ⟨gb362, 4, none⟩ = some (.int .i64 ((rd_T71 l0 x12_1).f1)) ∧ w'.cell? ⟨gb362, 5, none⟩ = some (.int .i64 ((rd_T71 l0 x12_1).f2)) ∧ w'.cell? ⟨go64, ((ji54)).toNat, none⟩ = some (.slice A386_0 (rd_L7 y383 (ji54)).length c386_0)) (ds := [14]) #[F, F, F, F, F, F, F, F, F, F, F, F, F, F, F] (by kernel_rfl) rfl rfl ⟨(Qad BK362.out 0).trans rfl, (Qad BK362.out 1).trans rfl, (Qad BK362.out 2).trans rfl, (Qad BK362.out 3).trans rfl, (Qad BK362.out 4).trans rfl, (Qad BK362.out 5).trans rfl, hx386_0⟩ (fun hHeld => ?_); refine QaP Qap.tab10 Qap.bits10 (fun HT_ HW_ => ?_)
              generalize w61.drew = w62 at HO382 HO385 BK362 HB GG64 HH64 HL386_0 HR386_0 HX386_0 UU64 hx386_0 hHeld ⊢
              refine Zsp (i := 0) (N := some 40) (pm 15 1) HT_ ?_
              refine Zsp (i := 1) (N := some 41) (pm 15 2) HT_ ?_
              refine Zsp (i := 2) (N := some 42) (pm 15 3) HT_ ?_
              refine Zsp (i := 3) (N := some 43) (pm 15 4) HT_ ?_
              refine Zsp (i := 4) (N := some 44) (pm 15 5) HT_ ?_
              refine Zsp (i := 5) (N := some 45) (pm 15 6) HT_ ?_
              refine Zsp (i := 6) (N := some 46) (pm 15 7) HT_ ?_
              refine Zsp (i := 7) (N := some 47) (pm 15 8) HT_ ?_
              refine Zsp (i := 8) (N := some 48) (pm 15 9) HT_ ?_
              refine Zst (i := 9) (N := some 49) (pm 15 10) HT_ HW_ hHeld ?_ (hy := by (refine Or.inl ⟨by rfl, ?_⟩; rintro w' ⟨s0, s1, s2, s3, s4, s5, s6⟩; go_simp; with_reducible rfl))
              refine Zst (i := 10) (N := some 50) (pm 15 11) HT_ HW_ hHeld ?_ (hy := by (refine Or.inl ⟨by rfl, ?_⟩; rintro w' ⟨s0, s1, s2, s3, s4, s5, s6⟩; go_simp; with_reducible rfl))
              refine one_ (i := 11) (N := some 51) #[T, T, T, T, T, T, T, T, T, T, T, T, F, F, F] rfl rfl (one_of HT_.out (by kernel_rfl)) (by decide) (fun K hK => ?_)
              refine value_ (w1 := ?_) (v := ?_) (by rfl) rfl ?_ ?_
              rotate_left 2
              ·go_simp
               constructor
               ·rfl
               rfl
              refine hK.out _ _ ⟨(Qad (Qag BK362.out _) 0).trans rfl, (Qad (Qag BK362.out _) 1).trans rfl, (Qad (Qag BK362.out _) 2).trans rfl, (Qad (Qag BK362.out _) 3).trans rfl, (Qad (Qag BK362.out _) 4).trans rfl, (Qad (Qag BK362.out _) 5).trans rfl, (World.cell?_alloc_lt _ _ _ (World.block_lt_of_cell? _ _ (hHeld.2.2.2.2.2.2))).trans (hHeld.2.2.2.2.2.2)⟩ (fun hHeld => ?_)
              clear hK K
              refine norm_ (a' := ?_) ?_ ?_
              rotate_left
              ·show Act.put _ (some 51) _ = _
               simp only [Act.put, Zj, Zk, Zm, i64_w, i32_w]
               rfl
              refine one_ (i := 12) (N := some 52) #[T, T, T, T, T, T, T, T, T, T, T, T, T, F, F] rfl rfl (one_of HT_.out (by kernel_rfl)) (by decide) (fun K hK => ?_)
              refine Kd.R_append_step k71 (w0 := w) w.heap.size (by rfl) (.tmp 49) (.tmp 51) 22 71 (.agg #[(.string ⟨#[]⟩), (.int .i64 0), (.int .i64 0), (.int .i64 0), (.int .i64 0), (.int .i64 0)]) 56 rfl Try.underlying22 info71 rfl (by decide) (by omega) (.slice A386_0 (rd_L7 y383 (ji54)).length c386_0) (rd_L7 y383 (ji54)) (⟨(⟨(rd_T71 l0 x12_1).f0.f0, (rd_T71 l0 x12_1).f0.f1, (rd_T71 l0 x12_1).f0.f2, (rd_T71 l0 x12_1).f0.f3⟩ : S69), (rd_T71 l0 x12_1).f1, (rd_T71 l0 x12_1).f2⟩ : S71) [.string ((rd_T71 l0 x12_1).f0.f0), .int .i64 ((rd_T71 l0 x12_1).f0.f1), .int .i64 ((rd_T71 l0 x12_1).f0.f2), .int .i64 ((rd_T71 l0 x12_1).f0.f3), .int .i64 ((rd_T71 l0 x12_1).f1), .int .i64 ((rd_T71 l0 x12_1).f2)] (fun k_ => oki64 k_ ∨ ((fun k_ => k_ ≠ gb362)) k_ ∧ w62.heap.size ≤ k_) (fun _ => False) rfl rfl ?aP (fun _ hk => hk.elim) ?aF ?aO ?aB ?aS ?aL ?_
              (case aP => exact Qcs _ _ _ (⟨(⟨(rd_T71 l0 x12_1).f0.f0, (rd_T71 l0 x12_1).f0.f1, (rd_T71 l0 x12_1).f0.f2, (rd_T71 l0 x12_1).f0.f3⟩ : S69), (rd_T71 l0 x12_1).f1, (rd_T71 l0 x12_1).f2⟩ : S71))
              (case aB => exact (Zc1 GE362.out))
              (case aF => exact (fun k_ hk => .inr ⟨Kd.freshB (g := gb362) (o := .cells #[.string ((rd_T71 l0 x12_1).f0.f0), .int .i64 ((rd_T71 l0 x12_1).f0.f1), .int .i64 ((rd_T71 l0 x12_1).f0.f2), .int .i64 ((rd_T71 l0 x12_1).f0.f3), .int .i64 ((rd_T71 l0 x12_1).f1), .int .i64 ((rd_T71 l0 x12_1).f2)] 71 (0, 0)) (Zu BK362.out) k_ hk, hk⟩))
              (case aO => exact (by (with_reducible repeat (first | apply Kd.R_alloc | apply Kd.R_drewN | apply Kd.R_drew)); exact Kd.R_mono UU64.out (fun _ hk => .inl hk)))
              (case aS => exact (Qax (Zc1 GE362.out)))
              (case aL => have := LMc57.out; omega)
              intro v388 w65 ho hb hg hat
              (first | have HS6_ := QbP hg (hHeld.2.2.2.2.2.2) (by first | (rw [Qbc]; exact (fun e_ => ((HL386_0.out.1 _ e_.symm).2) rfl)) | (show some (Addr.add _ _).block ≠ _; rw [Qbc]; exact (fun e_ => ((HL386_0.out.1 _ e_.symm).2) rfl)) | exact (fun e_ => ((HL386_0.out.1 _ e_.symm).2) rfl)) | have HS6_ := QbP hg (Qcc (hHeld.2.2.2.2.2.2) (by first | (rw [Qbc]; exact Kd.S_lt HO385.out _ rfl) | (show (Addr.add _ _).block < _; rw [Qbc]; exact Kd.S_lt HO385.out _ rfl) | exact Kd.S_lt HO385.out _ rfl)) (by first | (rw [Qbc]; exact (fun e_ => ((HL386_0.out.1 _ e_.symm).2) rfl)) | (show some (Addr.add _ _).block ≠ _; rw [Qbc]; exact (fun e_ => ((HL386_0.out.1 _ e_.symm).2) rfl)) | exact (fun e_ => ((HL386_0.out.1 _ e_.symm).2) rfl)))
              rw [← Ny387.out] at ho
              have HO389 := Aside0.mk (ho)
              replace BK362 := Aside0.mk (Qa0 (g := gb362) (o := .cells #[.string ((rd_T71 l0 x12_1).f0.f0), .int .i64 ((rd_T71 l0 x12_1).f0.f1), .int .i64 ((rd_T71 l0 x12_1).f0.f2), .int .i64 ((rd_T71 l0 x12_1).f0.f3), .int .i64 ((rd_T71 l0 x12_1).f1), .int .i64 ((rd_T71 l0 x12_1).f2)] 71 (0, 0)) (Zu BK362.out) hg (Kd.R_away HL386_0.out (fun _ hk => hk.1)))
              replace HO382 := Aside0.mk (Kd.R_over' (v := (.slice A386_0 (rd_L7 y383 (ji54)).length c386_0)) (Zr HO382.out) (Kd.R_typed HL386_0.out) (by decide) hg)
              replace HB := Aside0.mk (hb)
              replace HH64 := Aside0.mk (Kd.H_grown (Kd.H_widen (by repeat (first | exact HH64.out | refine Kd.H_alloc ?_ _ | refine Kd.H_drewN ?_ _ | refine Kd.H_drew ?_))) hg (fun k_ e_ => .inl (UU64.out.1 k_ e_)))
              clear HO385 UU64 HL386_0
              clear ho hb hg hat
              have p58 : 0 ≤ ((ji54) : Int) := Ze
              have q58 : ((ji54) : Int) < ((y383.length : Int) : Int) := Ze
              replace p58 := eq_true p58
              replace q58 := eq_true q58
              obtain ⟨Ao68, co68, eo68⟩ := Kd.R_slice HO389.out
              (first | subst eo68 | (injection eo68 with f1_ f2_ f3_; have f4_ := f1_.symm; have f5_ := f3_.symm; clear f1_ f2_ f3_; subst f4_; subst f5_))
              obtain ⟨_, _, hraw66, _, _, hcc66, _⟩ := Kd.H_raw HH64.out (Ze) (by have h_ : ((ji54) : Int) < ((y383.length : Int) : Int) := Ze; first | exact h_ | (have e_ := (HN64.out); omega) | simpa using h_)
              obtain ⟨_, hfr66⟩ := Kd.H_at HH64.out (Ze) (by have h_ : ((ji54) : Int) < ((y383.length : Int) : Int) := Ze; first | exact h_ | (have e_ := (HN64.out); omega) | simpa using h_)
              have hx66_0 := hcc66 0 _ rfl
              have hf66_0 := hfr66 0
              (try simp only [Nat.add_zero] at hx66_0 hf66_0)
              (try rw [show ((Kd.slice 71 k71)).sz = 1 from rfl, Nat.mul_one] at hx66_0)
              (try rw [show ((Kd.slice 71 k71)).sz = 1 from rfl, Nat.mul_one] at hf66_0)
              have HP66 := Kd.S_seg0 HH64.out (Ze) (by have h_ : ((ji54) : Int) < ((y383.length : Int) : Int) := Ze; first | exact h_ | (have e_ := (HN64.out); omega) | simpa using h_) (seg := [.slice Ao68 y387.length co68]) (j := 0) (show 1 ≤ 1 from by decide) (x' := y387) (Kd.M_row HO389.out) (fun _ hk => hk)
              (try simp only [show ((Kd.slice 71 k71)).sz = 1 from rfl, Nat.mul_one, Nat.add_zero] at HP66)
              clear hcc66 hfr66
              have HNB362_go64 := Aside0.mk (show gb362 ≠ go64 from by have h_ := Kd.R_ne hraw66 BK362.out (by decide); intro e_; exact h_ (by rw [e_]; rfl))
              have HS66 := HP66.1
              rw [← Ny390.out] at HS66
              have HQ66 := Aside0.mk HS66
              obtain ⟨_, hgg66⟩ := Kd.R_typed hraw66 go64 rfl
              have GG66_ := Aside0.mk hgg66
              clear HP66 HS66 hgg66
              refine hK.out _ _ ⟨(Qad BK362.out 0).trans rfl, (Qad BK362.out 1).trans rfl, (Qad BK362.out 2).trans rfl, (Qad BK362.out 3).trans rfl, (Qad BK362.out 4).trans rfl, (Qad BK362.out 5).trans rfl, HS6_⟩ (fun hHeld => ?_)
              clear hK K
              refine norm_ (a' := ?_) ?_ ?_
              rotate_left
              ·show Act.put _ (some 52) _ = _
               simp only [Act.put, Zj, Zk, Zm, i64_w, i32_w]
               rfl
              refine Zsp (i := 13) (N := some 53) (pm 15 14) HT_ ?_
              refine last_ (i := 14) (N := none) #[T, T, T, T, T, T, T, T, T, T, T, T, T, T, T] rfl rfl (one_of HT_.out (by kernel_rfl)) (by decide) (fun K hK => ?_)
              refine skip_ (w1 := ?_) (by rfl) rfl ?_ ?_
              rotate_left
              ·go_simp
               rfl
              refine hK.out _ _ ?_
              clear hK K
              refine done_ (QaX HT_.out (by kernel_rfl)) ?_
              try go_wp2
              go_roundg k1
              case measure => have := HK1.out; omega
              case rel => exact ⟨(y380), (y390), (wrap64 (x12_1 + 1)), (Zs), H', ⟨by have := HK1.out; omega⟩, ⟨by (with_reducible repeat (first | apply Kd.R_alloc | apply Kd.R_drewN | apply Kd.R_drew)); exact Kd.R_mono (Kd.R_far (p := ⟨go64, ((ji54) : Int).toNat, none⟩) (Kd.R_types HO382.out GG66_.out (by decide)) (fun _ hk => hk.2) (.slice Ao68 y387.length co68)) (fun _ hk => trivial)⟩, ⟨by (with_reducible repeat (first | apply Kd.S_alloc | apply Kd.S_drewN | apply Kd.S_drew)); exact Kd.S_mono HQ66.out (fun _ hk => trivial)⟩, ⟨by repeat (first | (with_reducible first | exact HB.out | apply Qae | apply Qab | apply Qac | refine Qaj ?_ GB64.out | refine Qaj ?_ GE362.out) | exact HB.out)⟩⟩
             rw [if_neg c57] at H
             exact absurd H (by simp)
            rw [if_neg c56] at H
            exact absurd H (by simp)
           rw [if_neg c55] at H
           exact absurd H (by simp)
          rw [if_neg c53] at H
          exact absurd H (by simp)
         rw [if_neg c52] at H
         exact absurd H (by simp)
        rw [if_neg c33] at H
        exact absurd H (by simp)
       rw [if_neg c32] at H
       exact absurd H (by simp)
      rw [if_neg c7] at H
      exact absurd H (by simp)
     rw [if_neg c6] at H
     exact absurd H (by simp)
    rw [if_neg c5] at H
    have c5b0 : decide (x12_1 < (l0.length : Int)) = F := decide_eq_false c5
    clear c5
    (try simp only [c5b0])
    simp only [Option.some.injEq, Prod.mk.injEq] at H
    obtain ⟨rfl, rfl⟩ := H
    go_wp2
    go_ret2
    exact ⟨_, _, Zq, Zr HO_2.out, by (with_reducible repeat (first | apply Kd.S_alloc | apply Kd.S_drewN | apply Kd.S_drew)); exact HO_3.out, Zb⟩
 rw [if_neg c4] at H
 have c4b0 : (t360 == 0) = F := beq_eq_false_iff_ne.mpr c4
 have c4b1 : (t360 != 0) = T := bne_iff_ne.mpr c4
 (try simp only [c4b0, c4b1])
 simp only [Option.some.injEq, Prod.mk.injEq] at H
 obtain ⟨rfl, rfl⟩ := H
 go_wp2
 go_ret2
 exact ⟨_, _, Zq, by first | exact Kd.R_nil _ _ _ _ _ | exact Kd.N_nil _ _ _ _ _ | exact Kd.V_nil _ _ _ _ _ | exact Kd.Q_nil _ _ _ _ _ | exact Kd.S_nil _ _ _ _ _, by first | exact Kd.S_nil _ _ _ _ _ | exact Kd.N_nil _ _ _ _ _ | exact Kd.V_nil _ _ _ _ _ | exact Kd.Q_nil _ _ _ _ _ | exact Kd.R_nil _ _ _ _ _, Zb⟩
def QbB.f (a0 : Int) : Option (Int) := some (mx a0 (wrap64 (-a0)))
theorem QbB.calls (a0 : Int) (r : Int) (w : World) (h : QbB.f a0 = some r) :
  Calls Try.prog 64 #[.int .i64 a0] w fun e w' => e = .returned (.int .i64 r) ∧ Below w.heap.size w w' := by
 have HB := Aside0.mk (Below.refl w.heap.size w)
 have H : (some (mx a0 (wrap64 (-a0)))) = some r := h
 clear h
 obtain ⟨ji2, hji2⟩ : ∃ j_ : Int, (mx a0 (wrap64 (-a0))) = j_ := ⟨_, rfl⟩
 replace H : (some ji2) = some r := by first | (rw [hji2] at H; exact H) | (simp only [hji2] at H ⊢; exact H)
 have hji2_ : (if a0 < (wrap64 (-a0)) then (wrap64 (-a0)) else a0) = ji2 := hji2
 obtain rfl := Option.some.inj H
 go_enter Try.func64, Try.ntmps64
 go_wp2
 go_ret
 exact ⟨by first | rfl | (simp [Qas, Qat] <;> rfl) | (simp only [← hji2]; first | rfl | (simp [Qas, Qat] <;> rfl)) | (simp [*, Qas, Qat] <;> rfl), Zb⟩
def Qbs.f (a0 : Int) : Option (Bool) := if 97 ≤ a0 then (some (decide (a0 ≤ 122))) else (some F)
theorem Qbs.calls (a0 : Int) (r : Bool) (w : World) (h : Qbs.f a0 = some r) :
  Calls Try.prog 202 #[.int .u8 a0] w fun e w' => e = .returned (.bool r) ∧ Drawn0 w w' := by
 have H : (if 97 ≤ a0 then (some (decide (a0 ≤ 122))) else (some F)) = some r := h
 clear h
 by_cases c2 : 97 ≤ a0
 ·rw [if_pos c2] at H
  have c2b0 : decide (97 ≤ a0) = T := decide_eq_true c2
  clear c2
  obtain rfl := Option.some.inj H
  go_enter Try.func202, Try.ntmps202
  go_wp2
  go_ret
  exact ⟨Zs, Zd⟩
 rw [if_neg c2] at H
 have c2b0 : decide (97 ≤ a0) = F := decide_eq_false c2
 clear c2
 obtain rfl := Option.some.inj H
 go_enter Try.func202, Try.ntmps202
 go_wp2
 go_ret
 exact ⟨Zs, Zd⟩
def QbF.f (a0 : Int) : Option (Bool) := if 48 ≤ a0 then (some (decide (a0 ≤ 57))) else (some F)
theorem QbF.calls (a0 : Int) (r : Bool) (w : World) (h : QbF.f a0 = some r) :
  Calls Try.prog 203 #[.int .u8 a0] w fun e w' => e = .returned (.bool r) ∧ Drawn0 w w' := by
 have H : (if 48 ≤ a0 then (some (decide (a0 ≤ 57))) else (some F)) = some r := h
 clear h
 by_cases c2 : 48 ≤ a0
 ·rw [if_pos c2] at H
  have c2b0 : decide (48 ≤ a0) = T := decide_eq_true c2
  clear c2
  obtain rfl := Option.some.inj H
  go_enter Try.func203, Try.ntmps203
  go_wp2
  go_ret
  exact ⟨Zs, Zd⟩
 rw [if_neg c2] at H
 have c2b0 : decide (48 ≤ a0) = F := decide_eq_false c2
 clear c2
 obtain rfl := Option.some.inj H
 go_enter Try.func203, Try.ntmps203
 go_wp2
 go_ret
 exact ⟨Zs, Zd⟩
def Qbf.f (a0 : Int) : Option (Bool) := if a0 ≥ 1 then (some (decide (a0 ≤ 1000))) else (some F)
theorem Qbf.calls (a0 : Int) (r : Bool) (w : World) (h : Qbf.f a0 = some r) :
  Calls Try.prog 147 #[.int .i64 a0] w fun e w' => e = .returned (.bool r) ∧ Drawn0 w w' := by
 have H : (if a0 ≥ 1 then (some (decide (a0 ≤ 1000))) else (some F)) = some r := h
 clear h
 by_cases c2 : a0 ≥ 1
 ·rw [if_pos c2] at H
  have c2b0 : decide (1 ≤ a0) = T := decide_eq_true c2
  clear c2
  obtain rfl := Option.some.inj H
  go_enter Try.func147, Try.ntmps147
  go_wp2
  go_ret
  exact ⟨Zs, Zd⟩
 rw [if_neg c2] at H
 have c2b0 : decide (1 ≤ a0) = F := decide_eq_false c2
 clear c2
 obtain rfl := Option.some.inj H
 go_enter Try.func147, Try.ntmps147
 go_wp2
 go_ret
 exact ⟨Zs, Zd⟩
def Qbo.f (a0 : Int) : Option (Int) := some (mx a0 (wrap64 (-a0)))
theorem Qbo.calls (a0 : Int) (r : Int) (w : World) (h : Qbo.f a0 = some r) :
  Calls Try.prog 67 #[.int .i64 a0] w fun e w' => e = .returned (.int .i64 r) ∧ Below w.heap.size w w' := by
 have HB := Aside0.mk (Below.refl w.heap.size w)
 have H : (some (mx a0 (wrap64 (-a0)))) = some r := h
 clear h
 obtain ⟨ji2, hji2⟩ : ∃ j_ : Int, (mx a0 (wrap64 (-a0))) = j_ := ⟨_, rfl⟩
 replace H : (some ji2) = some r := by first | (rw [hji2] at H; exact H) | (simp only [hji2] at H ⊢; exact H)
 have hji2_ : (if a0 < (wrap64 (-a0)) then (wrap64 (-a0)) else a0) = ji2 := hji2
 obtain rfl := Option.some.inj H
 go_enter Try.func67, Try.ntmps67
 go_wp2
 go_ret
 exact ⟨by first | rfl | (simp [Qas, Qat] <;> rfl) | (simp only [← hji2]; first | rfl | (simp [Qas, Qat] <;> rfl)) | (simp [*, Qas, Qat] <;> rfl), Zb⟩
def Qbk.f (a0 : Int) : Option Int := if -9223372036854775808 ≤ a0 ∧ a0 ≤ 9223372036854775807 then some (a0.natAbs : Int) else none
theorem Qbk.walk (a0 : Int) (w : World) (h0 : -9223372036854775808 ≤ a0) (h1 : a0 ≤ 9223372036854775807) :
  Calls Try.prog 190 #[.int .i64 a0] w fun e w' => e = .returned (.int .u64 (a0.natAbs : Int)) ∧ w' = w := by
 go_enter Try.func190, Try.ntmps190
 go_wp2
 all_goals (go_ret; refine ⟨congrArg Ending.returned (congrArg (Value.int IntKind.u64) ?_), rfl⟩)
 all_goals go_light
 all_goals ((try simp only [IntKind.wrap_u64]); (try unfold wrap64); omega)
theorem Qbk.calls (a0 r : Int) (w : World) (h : Qbk.f a0 = some r) :
  Calls Try.prog 190 #[.int .i64 a0] w fun e w' => e = .returned (.int .u64 r) ∧ Drawn0 w w' := by
 unfold Qbk.f at h
 by_cases c : -9223372036854775808 ≤ a0 ∧ a0 ≤ 9223372036854775807
 ·rw [if_pos c] at h
  obtain rfl := Option.some.inj h
  refine (Qbk.walk a0 w c.1 c.2).mono ?_
  rintro e w' ⟨rfl, rfl⟩
  exact ⟨rfl, Drawn0.refl _⟩
 rw [if_neg c] at h
 cases h
end Go.Proofs.Ytgnmhfjfefgbfaa.Pr
