/- Functions' values and contracts, as the print wrote them. -/
import Derived.Test.YtgnmhfjfefgbfaaQ10EP0
import Derived.Test.YtgnmhfjfefgbfaaQ10EP1
namespace Go.Proofs.Ytgnmhfjfefgbfaa.Pr
open Bool renaming true → T
open Bool renaming false → F
open Go.RowKit Go.Proofs.YtgnmhfjfefgbfaaW.PrintWords Go.Proofs.YtgnmhfjfefgbfaaW.PrintLast Go.Proofs.YtgnmhfjfefgbfaaW.PrintMore
attribute [local go_sem] QaO QaQ QaU QaV QaK QaL QaP QaR   -- for this text's walks alone
set_option linter.unusedVariables false
set_option linter.unusedSimpArgs false
set_option maxRecDepth 100000
set_option maxHeartbeats 8000000
mutual
def Qaq.j0 : Nat → List (S71) → List (S128) → List Int → Int → List (S128) → Bool → Option (List Int × Int)
 | 0, _, _, _, _, _, _ => none
 | k + 1, x0, x1, x4, x5, x6, x25 => if x25 = T then (some (([] : List Int), x5)) else (if 0 < (x1.length : Int) then (Qaq.l0 k x0 x4 x6 (((Qaa x1 0).f1).length : Int) 0) else (none))
def Qaq.l0 : Nat → List (S71) → List Int → List (S128) → Int → Int → Option (List Int × Int)
 | 0, _, _, _, _, _ => none
 | k + 1, x0, x4, x6, x31, x32 => if x32 < x31 then (Qaq.l1 k x0 x4 x6 x32 ([] : List Int) x31 x32 x0 (x0.length : Int) 0) else (some (x4, 0))
def Qaq.l1 : Nat → List (S71) → List Int → List (S128) → Int → List Int → Int → Int → List (S71) → Int → Int → Option (List Int × Int)
 | 0, _, _, _, _, _, _, _, _, _, _ => none
 | k + 1, x0, x4, x6, x7, x8, x31, x32, x35, x36, x37 => if x37 < x36 then (if 0 ≤ x37 then (if x37 < (x35.length : Int) then (if x37 < (x6.length : Int) then (if 0 ≤ x7 then (if x7 < (((Qaa x6 x37).f1).length : Int) then (if x8.length < 17592186044416 then (Qaq.l1 k x0 x4 x6 x7 (x8 ++ [wrap64 ((wrap64 (((rd_T71 x35 x37).f1) - ((rd_T71 x35 x37).f2))) * (rd ((Qaa x6 x37).f1) x7))]) x31 x32 x35 x36 (wrap64 (x37 + 1))) else (none)) else (none)) else (none)) else (none)) else (none)) else (none)) else ((QaG.f k x8).bind fun bt146 => (if bt146.2 = 0 then (if x4.length < 17592186044416 then (Qaq.l0 k x0 (x4 ++ [bt146.1]) x6 x31 (wrap64 (x32 + 1))) else (none)) else (some (([] : List Int), bt146.2))))
end
def Qaq.f (k : Nat) (l0 : List (S71)) (l1 : List (S128)) : Option (List Int × Int) := (QaA.f k l0 l1).bind fun bt134 => (if bt134.2 = 0 then (Qaq.j0 k l0 l1 ([] : List Int) bt134.2 bt134.1 ((l1.length : Int) == 0)) else (Qaq.j0 k l0 l1 ([] : List Int) bt134.2 bt134.1 T))
theorem Qaq.mono_l : ∀ k, (∀ y0 y1 y2 y3 y4 y5, LeO (Qaq.j0 k y0 y1 y2 y3 y4 y5) (Qaq.j0 (k + 1) y0 y1 y2 y3 y4 y5)) ∧ (∀ y0 y1 y2 y3 y4, LeO (Qaq.l0 k y0 y1 y2 y3 y4) (Qaq.l0 (k + 1) y0 y1 y2 y3 y4)) ∧ (∀ y0 y1 y2 y3 y4 y5 y6 y7 y8 y9, LeO (Qaq.l1 k y0 y1 y2 y3 y4 y5 y6 y7 y8 y9) (Qaq.l1 (k + 1) y0 y1 y2 y3 y4 y5 y6 y7 y8 y9))
 | 0 => ⟨fun _ _ _ _ _ _ r h => by simp [Qaq.j0] at h, fun _ _ _ _ _ r h => by simp [Qaq.l0] at h, fun _ _ _ _ _ _ _ _ _ _ r h => by simp [Qaq.l1] at h⟩
 | k + 1 => by
  obtain ⟨ih0, ih1, ih2⟩ := Qaq.mono_l k
  refine ⟨?_, ?_, ?_⟩
  ·intro y0 y1 y2 y3 y4 y5
   unfold Qaq.j0
   exact ZM5 ih0 ih1 ih2 QaG.mono QaA.mono
  ·intro y0 y1 y2 y3 y4
   unfold Qaq.l0
   exact ZM5 ih0 ih1 ih2 QaG.mono QaA.mono
  intro y0 y1 y2 y3 y4 y5 y6 y7 y8 y9
  unfold Qaq.l1
  exact ZM5 ih0 ih1 ih2 QaG.mono QaA.mono
theorem Qaq.mono : ∀ a0 a1 k, LeO (Qaq.f k a0 a1) (Qaq.f (k + 1) a0 a1) := by
 intro a0 a1 k
 obtain ⟨ih0, ih1, ih2⟩ := Qaq.mono_l k
 unfold Qaq.f
 exact ZM5 ih0 ih1 ih2 QaG.mono QaA.mono
def Qaq.T11 : Bool × List (List Nat × List Nat) := (T, [([], []), ([], []), ([1], [1]), ([], []), ([3], [3]), ([2, 4], [2, 4]), ([], []), ([], []), ([6, 7], [6, 7]), ([8], [8]), ([9], [9]), ([], []), ([10, 11], [10, 11]), ([12], [12]), ([5, 13], [5, 13]), ([14], [14]), ([0, 15], [0, 15]), ([16, 16, 0, 1, 2, 3, 4, 5, 6, 7, 8, 9, 10, 11, 12, 13, 14, 15, 16], [0, 16])])
def Qaq.B11 : List Nat := [0, 0, 2, 0, 8, 30, 0, 0, 192, 448, 960, 0, 4032, 8128, 16382, 32766, 65535, 131071]
theorem Qaq.tab11 : rtab .any (opsOf Try.f24 11) = Qaq.T11 := by kernel_rfl
theorem Qaq.bits11 : Qbg Qaq.T11.2 Qaq.B11 = T := by kernel_rfl
theorem Qaq.calls (k : Nat) (A0 : Option Addr) (c0 : Nat) (l0 : List (S71)) (A1 : Option Addr) (c1 : Nat) (l1 : List (S128)) (r1 : List Int) (r2 : Int) (w : World) (hr0 : Kd.C k71 w A0 l0.length l0) (hc0 : l0.length ≤ c0) (hr1 : Kd.C k128 w A1 l1.length l1) (hc1 : l1.length ≤ c1) (h : Qaq.f k l0 l1 = some (r1, r2)) :
  Calls Try.prog 24 #[.slice A0 l0.length c0, .slice A1 l1.length c1] w fun e w' => ∃ v0_ : Value, e = .returned (.tuple #[v0_, .int .i64 r2]) ∧ Kd.R (Kd.int .i64) 3 w' w.heap.size (fun _ => True) v0_ r1 ∧ Below w.heap.size w w' := by
 have hu71 := Try.underlying71
 have HR0 := Aside0.mk hr0
 have HC0 := Aside0.mk hc0
 clear hr0 hc0
 have HR1 := Aside0.mk hr1
 have HC1 := Aside0.mk hc1
 clear hr1 hc1
 have HB := Aside0.mk (Below.refl w.heap.size w)
 have H : ((QaA.f k l0 l1).bind fun bt134 => (if bt134.2 = 0 then (Qaq.j0 k l0 l1 ([] : List Int) bt134.2 bt134.1 ((l1.length : Int) == 0)) else (Qaq.j0 k l0 l1 ([] : List Int) bt134.2 bt134.1 T))) = some (r1, r2) := h
 clear h
 replace H := Option.bind_eq_some_iff.mp H
 obtain ⟨⟨t134, t137⟩, A30, H⟩ := H
 replace H : (if t137 = 0 then (Qaq.j0 k l0 l1 ([] : List Int) t137 t134 ((l1.length : Int) == 0)) else (Qaq.j0 k l0 l1 ([] : List Int) t137 t134 T)) = some (r1, r2) := H
 have A3 := Aside0.mk A30
 clear A30
 have HC4 := Aside0.mk H
 clear H
 go_enter Try.func24, Try.ntmps24
 go_upto_region 2 with (first | ((with_reducible refine QaF (f := 58) rfl ?_); refine goesL_ (some 16) rfl rfl Try.func58 (by kernel_rfl) rfl #[.slice A0 l0.length c0, .slice A1 l1.length c1] rfl (Zl) ?_; (with_reducible refine (QaA.calls k _ _ l0 (fun k_ => k_ < w.heap.size) _ _ l1 t134 t137 _ ?side1 ?side2 ?side3 A3.out).mono ?_); (case side1 => exact Zv HR0.out); (case side2 => exact HC0.out); (case side3 => exact Kd.V_mk HC1.out (Kd.F_below (Kd.C_F Qbn HR1.out) (Zb))); rintro e w5 ⟨v135, rfl, ho0, hb⟩; refine ⟨_, rfl, ?_⟩; have HO136 := Aside0.mk (Kd.N_lower (Kd.N_mono (ok' := fun k_ => True) ho0 (fun k_ hk_ => trivial)) (Qau (Zb))); replace HB := Aside0.mk (Qav (Zb) hb); (try clear hb); (try clear hb2); (try clear hk); (try clear hi); (try clear ho0)))
 (try simp only [Act.put, Zj, Zk, Zm])
 go_cut [25] (fun v25 wc => ∃ (kq : Nat) (x25_3 : Bool), v25 = .bool x25_3 ∧ Aside0 (Qaq.j0 kq l0 l1 ([] : List Int) t137 t134 x25_3 = some (r1, r2)) ∧ Aside0 (kq ≤ k) ∧ Aside0 (Kd.R (Kd.int .i64) 3 wc w.heap.size (fun _ => True) (.slice none 0 0) ([] : List Int)) ∧ Aside0 (Kd.N k128 128 wc w.heap.size (fun k_ => some k_ ≠ ((.slice none 0 0) : Value).ownBlock) v135 t134) ∧ Aside0 (Below w.heap.size w wc))
 case first =>
  have H := HC4.out
  clear HC4
  by_cases c6 : t137 = 0
  ·rw [if_pos c6] at H
   have c6b0 : (t137 == 0) = T := beq_iff_eq.mpr c6
   have c6b1 : (t137 != 0) = F := bne_eq_false_iff_eq.mpr c6
   clear c6
   have H' := Aside0.mk H
   clear H
   go_wp2
   go_meet
   case rel => exact ⟨_, (((l1.length : Int) == 0)), (Zs), H', ⟨by first | omega | exact Nat.le_refl _⟩, ⟨by first | exact Kd.R_nil _ _ _ _ _ | exact Kd.N_nil _ _ _ _ _ | exact Kd.V_nil _ _ _ _ _ | exact Kd.Q_nil _ _ _ _ _ | exact Kd.S_nil _ _ _ _ _⟩, ⟨by (with_reducible repeat (first | apply Kd.N_alloc | apply Kd.N_drewN | apply Kd.N_drew)); exact Kd.N_mono HO136.out (fun _ hk => (by simp [Value.ownBlock]))⟩, ⟨Zb⟩⟩
  rw [if_neg c6] at H
  have c6b0 : (t137 == 0) = F := beq_eq_false_iff_ne.mpr c6
  have c6b1 : (t137 != 0) = T := bne_iff_ne.mpr c6
  have H' := Aside0.mk H
  clear H
  go_wp2
  go_meet
  case rel => exact ⟨_, (T), (Zs), H', ⟨by first | omega | exact Nat.le_refl _⟩, ⟨by first | exact Kd.R_nil _ _ _ _ _ | exact Kd.N_nil _ _ _ _ _ | exact Kd.V_nil _ _ _ _ _ | exact Kd.Q_nil _ _ _ _ _ | exact Kd.S_nil _ _ _ _ _⟩, ⟨by (with_reducible repeat (first | apply Kd.N_alloc | apply Kd.N_drewN | apply Kd.N_drew)); exact Kd.N_mono HO136.out (fun _ hk => (by simp [Value.ownBlock]))⟩, ⟨Zb⟩⟩
 case rest =>
  clear HC4
  try clear c1
  try clear c2
  try clear p2
  try clear c5
  try clear c6
  try clear c6b0
  try clear c6b1
  obtain ⟨kq, x25_3, rfl, HA, HJ3, HO_4, HO_6, HB⟩ := hcut
  cases kq with
  | zero => exact absurd HA.out (by simp [Qaq.j0])
  | succ kj3 =>
   have H := HA.out
   clear HA
   simp only [Qaq.j0] at H
   by_cases c7 : x25_3 = T
   ·subst c7
    have H1 : (some (([] : List Int), t137)) = some (r1, r2) := by rw [if_pos rfl] at H; exact H
    clear H
    have H := H1
    clear H1
    simp only [Option.some.injEq, Prod.mk.injEq] at H
    obtain ⟨rfl, rfl⟩ := H
    go_wp2
    go_ret2
    exact ⟨_, Zq, by first | exact Kd.R_nil _ _ _ _ _ | exact Kd.N_nil _ _ _ _ _ | exact Kd.V_nil _ _ _ _ _ | exact Kd.Q_nil _ _ _ _ _ | exact Kd.S_nil _ _ _ _ _, Zb⟩
   replace c7 := Bool.eq_false_iff.mpr c7
   subst c7
   have H1 : (if 0 < (l1.length : Int) then (Qaq.l0 kj3 l0 ([] : List Int) t134 (((Qaa l1 0).f1).length : Int) 0) else (none)) = some (r1, r2) := by rw [if_neg (show ¬ (F = T) by decide)] at H; exact H
   clear H
   have H := H1
   clear H1
   by_cases c8 : 0 < (l1.length : Int)
   ·rw [if_pos c8] at H
    have c8b0 : decide (0 < (l1.length : Int)) = T := decide_eq_true c8
    have c8b1 : decide (0 < l1.length) = T := decide_eq_true (by omega)
    clear c8
    (try simp only [c8b0, c8b1])
    have H' := Aside0.mk H
    clear H
    have p138 : 0 ≤ (0 : Int) := (by omega)
    have q138 : 0 < (l1.length : Int) := Ze
    obtain ⟨ad138, A138_4, c138_4, e138, hx138_0, hx138_1, hx138_2, hx138_3, hx138_4, hx138_5, hl138_4, hi138_4⟩ := Qbm HR1.out 0 p138 q138
    cases e138
    have qi138 : (0 < l1.length) = True := eq_true (by omega)
    (try rw [show ((0 : Int)).toNat = 0 from rfl] at hx138_0)
    (try rw [show 0 * 6 = 0 from rfl] at hx138_0)
    (try rw [Addr.add_zero'] at hx138_0)
    (try rw [show ((0 : Int)).toNat = 0 from rfl] at hx138_1)
    (try rw [show 0 * 6 = 0 from rfl] at hx138_1)
    (try rw [Addr.add_zero'] at hx138_1)
    (try rw [show ((0 : Int)).toNat = 0 from rfl] at hx138_2)
    (try rw [show 0 * 6 = 0 from rfl] at hx138_2)
    (try rw [Addr.add_zero'] at hx138_2)
    (try rw [show ((0 : Int)).toNat = 0 from rfl] at hx138_3)
    (try rw [show 0 * 6 = 0 from rfl] at hx138_3)
    (try rw [Addr.add_zero'] at hx138_3)
    (try rw [show ((0 : Int)).toNat = 0 from rfl] at hx138_4)
    (try rw [show 0 * 6 = 0 from rfl] at hx138_4)
    (try rw [Addr.add_zero'] at hx138_4)
    (try rw [show ((0 : Int)).toNat = 0 from rfl] at hx138_5)
    (try rw [show 0 * 6 = 0 from rfl] at hx138_5)
    (try rw [Addr.add_zero'] at hx138_5)
    replace hx138_0 := Zx HB.out hx138_0
    replace hx138_1 := Zx HB.out hx138_1
    replace hx138_2 := Zx HB.out hx138_2
    replace hx138_3 := Zx HB.out hx138_3
    replace hx138_4 := Zx HB.out hx138_4
    replace hx138_5 := Zx HB.out hx138_5
    have HR138_4 := Aside0.mk hi138_4
    have HC138_4 := Aside0.mk hl138_4
    clear hi138_4 hl138_4
    replace p138 := eq_true p138
    replace q138 := eq_true q138
    go_wp2
    go_loopg [4, 32] kj3 (fun kq v4 v32 w' => ∃ (x4_2 : List Int) (x32_2 : Int), v32 = .int .i64 x32_2 ∧ Aside0 (Qaq.l0 kq l0 x4_2 t134 (((Qaa l1 0).f1).length : Int) x32_2 = some (r1, r2)) ∧ Aside0 (kq ≤ kj3) ∧ Aside0 (Kd.R (Kd.int .i64) 3 w' w.heap.size (fun _ => True) v4 x4_2) ∧ Aside0 (Kd.N k128 128 w' w.heap.size (fun k_ => some k_ ≠ (v4 : Value).ownBlock) v135 t134) ∧ Aside0 (Below w.heap.size w w'))
    case atStart => exact ⟨(([] : List Int)), (0), (Zs), H', ⟨Nat.le_refl _⟩, ⟨Zr HO_4.out⟩, ⟨by (with_reducible repeat (first | apply Kd.N_alloc | apply Kd.N_drewN | apply Kd.N_drew)); exact HO_6.out⟩, ⟨Zb⟩⟩
    case round =>
     clear H'
     try clear c1
     try clear p1
     try clear q1
     try clear hx1
     try clear qi1
     try clear c2
     try clear p2
     try clear c5
     try clear c6
     try clear c6b0
     try clear c6b1
     try clear c7
     try clear c8
     try clear c8b0
     try clear c8b1
     try clear hx138_0
     try clear hx138_1
     try clear hx138_2
     try clear hx138_3
     try clear hx138_4
     try clear hx138_5
     try clear p138
     try clear p2
     try clear q138
     obtain ⟨x4_2, x32_2, rfl, HA, HK2, HO_4, HO_6, HB⟩ := hrel
     cases gk with
     | zero => exact absurd HA.out (by simp [Qaq.l0])
     | succ k2 =>
      have H := HA.out
      clear HA
      simp only [Qaq.l0] at H
      by_cases c9 : x32_2 < (((Qaa l1 0).f1).length : Int)
      ·rw [if_pos c9] at H
       have c9b0 : decide (x32_2 < (((Qaa l1 0).f1).length : Int)) = T := decide_eq_true c9
       clear c9
       (try simp only [c9b0])
       have H' := Aside0.mk H
       clear H
       go_wp2
       go_loopg [8, 37] k2 (fun kq v8 v37 w' => ∃ (x8_3 : List Int) (x37_3 : Int), v37 = .int .i64 x37_3 ∧ Aside0 (Qaq.l1 kq l0 x4_2 t134 x32_2 x8_3 (((Qaa l1 0).f1).length : Int) x32_2 l0 (l0.length : Int) x37_3 = some (r1, r2)) ∧ Aside0 (kq ≤ k2) ∧ Aside0 (Kd.R (Kd.int .i64) 3 w' w.heap.size (fun k_ => some k_ ≠ (v8 : Value).ownBlock) u4 x4_2) ∧ Aside0 (Kd.N k128 128 w' w.heap.size (fun k_ => some k_ ≠ (u4 : Value).ownBlock ∧ some k_ ≠ (v8 : Value).ownBlock) v135 t134) ∧ Aside0 (Kd.R (Kd.int .i64) 3 w' w.heap.size (fun k_ => some k_ ≠ (u4 : Value).ownBlock) v8 x8_3) ∧ Aside0 (Below w.heap.size w w'))
       case atStart => exact ⟨(([] : List Int)), (0), (Zs), H', ⟨Nat.le_refl _⟩, ⟨by (with_reducible repeat (first | apply Kd.R_alloc | apply Kd.R_drewN | apply Kd.R_drew)); exact Kd.R_mono HO_4.out (fun _ hk => (by simp [Value.ownBlock]))⟩, ⟨by (with_reducible repeat (first | apply Kd.N_alloc | apply Kd.N_drewN | apply Kd.N_drew)); exact Kd.N_mono HO_6.out (fun _ hk => ⟨hk, (by simp [Value.ownBlock])⟩)⟩, ⟨by first | exact Kd.R_nil _ _ _ _ _ | exact Kd.N_nil _ _ _ _ _ | exact Kd.V_nil _ _ _ _ _ | exact Kd.Q_nil _ _ _ _ _ | exact Kd.S_nil _ _ _ _ _⟩, ⟨Zb⟩⟩
       case round =>
        clear H'
        try clear c1
        try clear p1
        try clear q1
        try clear hx1
        try clear qi1
        try clear c2
        try clear p2
        try clear c5
        try clear c6
        try clear c6b0
        try clear c6b1
        try clear c7
        try clear c8
        try clear c8b0
        try clear c8b1
        try clear c9
        try clear c9b0
        try clear hx138_0
        try clear hx138_1
        try clear hx138_2
        try clear hx138_3
        try clear hx138_4
        try clear hx138_5
        try clear p1
        try clear p138
        try clear p2
        try clear q1
        try clear q138
        obtain ⟨x8_3, x37_3, rfl, HA, HK3, HO_4, HO_6, HO_8, HB⟩ := hrel
        cases gk with
        | zero => exact absurd HA.out (by simp [Qaq.l1])
        | succ k3 =>
         have H := HA.out
         clear HA
         simp only [Qaq.l1] at H
         by_cases c10 : x37_3 < (l0.length : Int)
         ·rw [if_pos c10] at H
          have c10b0 : decide (x37_3 < (l0.length : Int)) = T := decide_eq_true c10
          clear c10
          (try simp only [c10b0])
          by_cases c11 : 0 ≤ x37_3
          ·rw [if_pos c11] at H
           have c11b0 : decide (0 ≤ x37_3) = T := decide_eq_true c11
           clear c11
           by_cases c12 : x37_3 < (l0.length : Int)
           ·rw [if_pos c12] at H
            have c12b0 : decide (x37_3 < (l0.length : Int)) = T := decide_eq_true c12
            clear c12
            by_cases c13 : x37_3 < (t134.length : Int)
            ·rw [if_pos c13] at H
             have c13b0 : decide (x37_3 < (t134.length : Int)) = T := decide_eq_true c13
             clear c13
             by_cases c14 : 0 ≤ x32_2
             ·rw [if_pos c14] at H
              have c14b0 : decide (0 ≤ x32_2) = T := decide_eq_true c14
              clear c14
              by_cases c15 : x32_2 < (((Qaa t134 x37_3).f1).length : Int)
              ·rw [if_pos c15] at H
               have c15b0 : decide (x32_2 < (((Qaa t134 x37_3).f1).length : Int)) = T := decide_eq_true c15
               clear c15
               by_cases c16 : x8_3.length < 17592186044416
               ·rw [if_pos c16] at H
                have LMc16 := Aside0.mk c16
                clear c16
                obtain ⟨y143, hy143⟩ : ∃ y_ : List Int, y_ = (x8_3 ++ [wrap64 ((wrap64 (((rd_T71 l0 x37_3).f1) - ((rd_T71 l0 x37_3).f2))) * (rd ((Qaa t134 x37_3).f1) x32_2))]) := ⟨_, rfl⟩
                replace H : (Qaq.l1 k3 l0 x4_2 t134 x32_2 y143 (((Qaa l1 0).f1).length : Int) x32_2 l0 (l0.length : Int) (wrap64 (x37_3 + 1))) = some (r1, r2) := by first | (rw [hy143]; with_reducible exact H) | (have H2_ := (Option.bind_some _ _).symm.trans H; rw [hy143]; with_reducible exact H2_) | (have H2_ := (Option.bind_some _ _).symm.trans H; with_reducible exact H2_) | with_reducible exact H | (rw [hy143]; exact H) | exact H
                have Ny143 := Aside0.mk hy143
                clear hy143
                have H' := Aside0.mk H
                clear H
                have p139 : 0 ≤ (x37_3 : Int) := Ze
                have q139 : x37_3 < (l0.length : Int) := Ze
                obtain ⟨ad139, e139, hx139_0, hx139_1, hx139_2, hx139_3, hx139_4, hx139_5⟩ := at_T71 HR0.out x37_3 p139 q139
                cases e139
                replace hx139_0 := Zx HB.out hx139_0
                replace hx139_1 := Zx HB.out hx139_1
                replace hx139_2 := Zx HB.out hx139_2
                replace hx139_3 := Zx HB.out hx139_3
                replace hx139_4 := Zx HB.out hx139_4
                replace hx139_5 := Zx HB.out hx139_5
                replace p139 := eq_true p139
                replace q139 := eq_true q139
                try go_wp2_with (first | ((with_reducible refine QaX (N := 10) rfl ?_); (try (refine Qbu (by rfl) ?_; dsimp only)); refine Zbx (N := 10) (cs := #[.string (⟨#[]⟩ : ByteArray), .int .i64 0, .int .i64 0, .int .i64 0, .int .i64 0, .int .i64 0]) (t := 71) ?_; intro gb140 hg w17 hbox hb; have BK140 := Aside0.mk (hbox); have GW140 := Aside0.mk (Zt w hg (Zb)); have GE140 := GW140; replace HO_4 := Aside0.mk (Kd.R_below (Zr HO_4.out) hb); replace HO_6 := Aside0.mk (Kd.N_below (Kd.N_elderB (by (with_reducible repeat (first | apply Kd.N_alloc | apply Kd.N_drewN | apply Kd.N_drew)); exact HO_6.out) gb140 (Nat.le_of_eq hg.symm)) hb); replace HO_8 := Aside0.mk (Kd.R_below (Zr HO_8.out) hb); replace HB := Aside0.mk (Qav (Zb) hb); clear hb hbox hg; obtain ⟨hcz18_0, hfz18_0⟩ := Zy (v := (.string (⟨#[]⟩ : ByteArray))) BK140.out 0; obtain ⟨hcz18_1, hfz18_1⟩ := Zy (v := (.int .i64 0)) BK140.out 1; obtain ⟨hcz18_2, hfz18_2⟩ := Zy (v := (.int .i64 0)) BK140.out 2; obtain ⟨hcz18_3, hfz18_3⟩ := Zy (v := (.int .i64 0)) BK140.out 3; obtain ⟨hcz18_4, hfz18_4⟩ := Zy (v := (.int .i64 0)) BK140.out 4; obtain ⟨hcz18_5, hfz18_5⟩ := Zy (v := (.int .i64 0)) BK140.out 5))
                have n0_ : Aside0 (Kd.R (Kd.int .i64) 3 ((((((w17.setCell ⟨gb140, 0, none⟩ (.string ((rd_T71 l0 x37_3).f0.f0))).setCell ⟨gb140, 1, none⟩ (.int .i64 ((rd_T71 l0 x37_3).f0.f1))).setCell ⟨gb140, 2, none⟩ (.int .i64 ((rd_T71 l0 x37_3).f0.f2))).setCell ⟨gb140, 3, none⟩ (.int .i64 ((rd_T71 l0 x37_3).f0.f3))).setCell ⟨gb140, 4, none⟩ (.int .i64 ((rd_T71 l0 x37_3).f1))).setCell ⟨gb140, 5, none⟩ (.int .i64 ((rd_T71 l0 x37_3).f2))) w.heap.size (fun k_ => some k_ ≠ (u8 : Value).ownBlock) u4 x4_2) := ⟨by (with_reducible repeat (first | apply Kd.R_alloc | apply Kd.R_drewN | apply Kd.R_drew)); exact Kd.R_mono (Kd.R_far (p := ⟨gb140, 5, none⟩) (Kd.R_far (p := ⟨gb140, 4, none⟩) (Kd.R_far (p := ⟨gb140, 3, none⟩) (Kd.R_far (p := ⟨gb140, 2, none⟩) (Kd.R_far (p := ⟨gb140, 1, none⟩) (Kd.R_far (p := ⟨gb140, 0, none⟩) (Kd.R_types HO_4.out BK140.out (by decide)) (fun _ hk => hk.2) (.string ((rd_T71 l0 x37_3).f0.f0))) (fun _ hk => hk.2) (.int .i64 ((rd_T71 l0 x37_3).f0.f1))) (fun _ hk => hk.2) (.int .i64 ((rd_T71 l0 x37_3).f0.f2))) (fun _ hk => hk.2) (.int .i64 ((rd_T71 l0 x37_3).f0.f3))) (fun _ hk => hk.2) (.int .i64 ((rd_T71 l0 x37_3).f1))) (fun _ hk => hk.2) (.int .i64 ((rd_T71 l0 x37_3).f2))) (fun _ hk => hk.1)⟩
                have n1_ : Aside0 (Kd.N k128 128 ((((((w17.setCell ⟨gb140, 0, none⟩ (.string ((rd_T71 l0 x37_3).f0.f0))).setCell ⟨gb140, 1, none⟩ (.int .i64 ((rd_T71 l0 x37_3).f0.f1))).setCell ⟨gb140, 2, none⟩ (.int .i64 ((rd_T71 l0 x37_3).f0.f2))).setCell ⟨gb140, 3, none⟩ (.int .i64 ((rd_T71 l0 x37_3).f0.f3))).setCell ⟨gb140, 4, none⟩ (.int .i64 ((rd_T71 l0 x37_3).f1))).setCell ⟨gb140, 5, none⟩ (.int .i64 ((rd_T71 l0 x37_3).f2))) w.heap.size (fun k_ => some k_ ≠ (u4 : Value).ownBlock ∧ some k_ ≠ (u8 : Value).ownBlock ∧ k_ ≠ gb140) v135 t134) := ⟨by (with_reducible repeat (first | apply Kd.N_alloc | apply Kd.N_drewN | apply Kd.N_drew)); exact Kd.N_mono (Kd.N_far (p := ⟨gb140, 5, none⟩) (Kd.N_far (p := ⟨gb140, 4, none⟩) (Kd.N_far (p := ⟨gb140, 3, none⟩) (Kd.N_far (p := ⟨gb140, 2, none⟩) (Kd.N_far (p := ⟨gb140, 1, none⟩) (Kd.N_far (p := ⟨gb140, 0, none⟩) (Kd.N_mono HO_6.out (fun k_ hk => (⟨hk, hk.2⟩ : _ ∧ k_ ≠ gb140))) (fun _ hk => hk.2) (.string ((rd_T71 l0 x37_3).f0.f0))) (fun _ hk => hk.2) (.int .i64 ((rd_T71 l0 x37_3).f0.f1))) (fun _ hk => hk.2) (.int .i64 ((rd_T71 l0 x37_3).f0.f2))) (fun _ hk => hk.2) (.int .i64 ((rd_T71 l0 x37_3).f0.f3))) (fun _ hk => hk.2) (.int .i64 ((rd_T71 l0 x37_3).f1))) (fun _ hk => hk.2) (.int .i64 ((rd_T71 l0 x37_3).f2))) (fun _ hk => ⟨hk.1.1.1, ⟨hk.1.1.2, hk.1.2⟩⟩)⟩
                have n2_ : Aside0 (Kd.R (Kd.int .i64) 3 ((((((w17.setCell ⟨gb140, 0, none⟩ (.string ((rd_T71 l0 x37_3).f0.f0))).setCell ⟨gb140, 1, none⟩ (.int .i64 ((rd_T71 l0 x37_3).f0.f1))).setCell ⟨gb140, 2, none⟩ (.int .i64 ((rd_T71 l0 x37_3).f0.f2))).setCell ⟨gb140, 3, none⟩ (.int .i64 ((rd_T71 l0 x37_3).f0.f3))).setCell ⟨gb140, 4, none⟩ (.int .i64 ((rd_T71 l0 x37_3).f1))).setCell ⟨gb140, 5, none⟩ (.int .i64 ((rd_T71 l0 x37_3).f2))) w.heap.size (fun k_ => some k_ ≠ (u4 : Value).ownBlock) u8 x8_3) := ⟨by (with_reducible repeat (first | apply Kd.R_alloc | apply Kd.R_drewN | apply Kd.R_drew)); exact Kd.R_mono (Kd.R_far (p := ⟨gb140, 5, none⟩) (Kd.R_far (p := ⟨gb140, 4, none⟩) (Kd.R_far (p := ⟨gb140, 3, none⟩) (Kd.R_far (p := ⟨gb140, 2, none⟩) (Kd.R_far (p := ⟨gb140, 1, none⟩) (Kd.R_far (p := ⟨gb140, 0, none⟩) (Kd.R_types HO_8.out BK140.out (by decide)) (fun _ hk => hk.2) (.string ((rd_T71 l0 x37_3).f0.f0))) (fun _ hk => hk.2) (.int .i64 ((rd_T71 l0 x37_3).f0.f1))) (fun _ hk => hk.2) (.int .i64 ((rd_T71 l0 x37_3).f0.f2))) (fun _ hk => hk.2) (.int .i64 ((rd_T71 l0 x37_3).f0.f3))) (fun _ hk => hk.2) (.int .i64 ((rd_T71 l0 x37_3).f1))) (fun _ hk => hk.2) (.int .i64 ((rd_T71 l0 x37_3).f2))) (fun _ hk => hk.1)⟩
                have n3_ : Aside0 (((((((w17.setCell ⟨gb140, 0, none⟩ (.string ((rd_T71 l0 x37_3).f0.f0))).setCell ⟨gb140, 1, none⟩ (.int .i64 ((rd_T71 l0 x37_3).f0.f1))).setCell ⟨gb140, 2, none⟩ (.int .i64 ((rd_T71 l0 x37_3).f0.f2))).setCell ⟨gb140, 3, none⟩ (.int .i64 ((rd_T71 l0 x37_3).f0.f3))).setCell ⟨gb140, 4, none⟩ (.int .i64 ((rd_T71 l0 x37_3).f1))).setCell ⟨gb140, 5, none⟩ (.int .i64 ((rd_T71 l0 x37_3).f2))).heap[gb140]? = some (.cells #[.string ((rd_T71 l0 x37_3).f0.f0), .int .i64 ((rd_T71 l0 x37_3).f0.f1), .int .i64 ((rd_T71 l0 x37_3).f0.f2), .int .i64 ((rd_T71 l0 x37_3).f0.f3), .int .i64 ((rd_T71 l0 x37_3).f1), .int .i64 ((rd_T71 l0 x37_3).f2)] 71 (0, 0))) := ⟨Zp2 BK140.out⟩
                have n4_ : Aside0 (Below w.heap.size w ((((((w17.setCell ⟨gb140, 0, none⟩ (.string ((rd_T71 l0 x37_3).f0.f0))).setCell ⟨gb140, 1, none⟩ (.int .i64 ((rd_T71 l0 x37_3).f0.f1))).setCell ⟨gb140, 2, none⟩ (.int .i64 ((rd_T71 l0 x37_3).f0.f2))).setCell ⟨gb140, 3, none⟩ (.int .i64 ((rd_T71 l0 x37_3).f0.f3))).setCell ⟨gb140, 4, none⟩ (.int .i64 ((rd_T71 l0 x37_3).f1))).setCell ⟨gb140, 5, none⟩ (.int .i64 ((rd_T71 l0 x37_3).f2)))) := ⟨Zc1 GE140.out⟩
                (try clear HO_4)
                (try clear HO_6)
                (try clear HO_8)
                (try clear BK140)
                (try clear HB)
                generalize ((((((w17.setCell ⟨gb140, 0, none⟩ (.string ((rd_T71 l0 x37_3).f0.f0))).setCell ⟨gb140, 1, none⟩ (.int .i64 ((rd_T71 l0 x37_3).f0.f1))).setCell ⟨gb140, 2, none⟩ (.int .i64 ((rd_T71 l0 x37_3).f0.f2))).setCell ⟨gb140, 3, none⟩ (.int .i64 ((rd_T71 l0 x37_3).f0.f3))).setCell ⟨gb140, 4, none⟩ (.int .i64 ((rd_T71 l0 x37_3).f1))).setCell ⟨gb140, 5, none⟩ (.int .i64 ((rd_T71 l0 x37_3).f2))) = w19 at n0_ n1_ n2_ n3_ n4_ ⊢
                have HO_4 := n0_
                have HO_6 := n1_
                have HO_8 := n2_
                have BK140 := n3_
                have HB := n4_
                clear n0_ n1_ n2_ n3_ n4_
                replace HO_4 := Aside0.mk (Kd.R_drew HO_4.out)
                replace HO_6 := Aside0.mk (Kd.N_drew HO_6.out)
                replace HO_8 := Aside0.mk (Kd.R_drew HO_8.out)
                replace BK140 := Aside0.mk (Qah BK140.out)
                replace HB := Aside0.mk (Qad HB.out)
                obtain ⟨Ao21, co21, eo21⟩ := Kd.N_slice HO_6.out
                (first | subst eo21 | (injection eo21 with f1_ f2_ f3_; have f4_ := f1_.symm; have f5_ := f3_.symm; clear f1_ f2_ f3_; subst f4_; subst f5_))
                have p141 : 0 ≤ (x37_3 : Int) := Ze
                have q141 : x37_3 < (t134.length : Int) := Ze
                obtain ⟨ad141, A141_4, c141_4, e141, hx141_0, hx141_1, hx141_2, hx141_3, hx141_4, hx141_5, hl141_4, hi141_4⟩ := Qbm (Kd.N_reads' HO_6.out).2.2 x37_3 p141 q141
                cases e141
                obtain ⟨ce141, hce141, hMe141, hcc141⟩ := Kd.N_get HO_6.out z128 x37_3 p141 (by first | exact q141 | exact Ze | (have e_ := (Kd.N_reads' HO_6.out).1; omega))
                obtain ⟨ua141_4, uc141_4, rfl, ul141_4, ge141_4⟩ := Qbo hMe141
                have hv141_4 := hcc141 4 _ rfl
                rw [QaZ _ _ 4 (by omega)] at hv141_4
                replace hv141_4 := Option.some.inj (hv141_4.symm.trans hx141_4)
                injection hv141_4 with hva_ hvn_ hvc_
                rw [hva_] at ge141_4
                rw [hvc_] at ul141_4
                have HL141_4 := Aside0.mk (show Kd.V (Kd.int .i64) 3 _ w.heap.size _ _ ((Qaa t134 x37_3).f1) from Kd.V_mk ul141_4 ge141_4)
                clear hva_ hvn_ hvc_ ge141_4 ul141_4
                clear hcc141 hce141
                have HR141_4 := Aside0.mk hi141_4
                have HC141_4 := Aside0.mk hl141_4
                clear hi141_4 hl141_4
                replace p141 := eq_true p141
                replace q141 := eq_true q141
                have p142 : 0 ≤ (x32_2 : Int) := Ze
                have q142 : x32_2 < (((Qaa t134 x37_3).f1).length : Int) := Ze
                obtain ⟨ad142, e142, hx142_0⟩ := Kd.at_int (by repeat (first | (with_reducible exact HR141_4.out) | (with_reducible refine Kd.C_alloc ?_ _) | (with_reducible refine Kd.C_drewN ?_ _) | (with_reducible refine Kd.C_drew ?_) | exact HR141_4.out)) x32_2 p142 q142
                cases e142
                replace p142 := eq_true p142
                replace q142 := eq_true q142
                refine start_ (n := 18) (S := fun w' => w'.cell? ⟨gb140, 0, none⟩ = some (.string ((rd_T71 l0 x37_3).f0.f0)) ∧ w'.cell? ⟨gb140, 1, none⟩ = some (.int .i64 ((rd_T71 l0 x37_3).f0.f1)) ∧ w'.cell? ⟨gb140, 2, none⟩ = some (.int .i64 ((rd_T71 l0 x37_3).f0.f2)) ∧ w'.cell? ⟨gb140, 3, none⟩ = some (.int .i64 ((rd_T71 l0 x37_3).f0.f3)) ∧ w'.cell? ⟨gb140, 4, none⟩ = some (.int .i64 ((rd_T71 l0 x37_3).f1)) ∧ w'.cell? ⟨gb140, 5, none⟩ = some (.int .i64 ((rd_T71 l0 x37_3).f2)) ∧ w'.cell? (ad141.add ((x37_3).toNat * 6)) = some (.string ((Qaa t134 x37_3).f0.f0)) ∧ w'.cell? ⟨(ad141.add ((x37_3).toNat * 6)).block, (ad141.add ((x37_3).toNat * 6)).off + 1, none⟩ = some (.int .i64 ((Qaa t134 x37_3).f0.f1)) ∧ w'.cell? ⟨(ad141.add ((x37_3).toNat * 6)).block, (ad141.add ((x37_3).toNat * 6)).off + 2, none⟩ = some (.int .i64 ((Qaa t134 x37_3).f0.f2)) ∧ w'.cell? ⟨(ad141.add ((x37_3).toNat * 6)).block, (ad141.add ((x37_3).toNat * 6)).off + 3, none⟩ = some (.int .i64 ((Qaa t134 x37_3).f0.f3)) ∧ w'.cell? ⟨(ad141.add ((x37_3).toNat * 6)).block, (ad141.add ((x37_3).toNat * 6)).off + 4, none⟩ = some (.slice (some ad142) ((Qaa t134 x37_3).f1).length c141_4) ∧ w'.cell? ⟨(ad141.add ((x37_3).toNat * 6)).block, (ad141.add ((x37_3).toNat * 6)).off + 5, none⟩ = some (.int .i64 ((Qaa t134 x37_3).f2)) ∧ w'.cell? (ad142.add (x32_2).toNat) = some (.int .i64 (rd ((Qaa t134 x37_3).f1) x32_2))) (ds := [15, 16]) #[F, F, F, F, F, F, F, F, F, F, F, F, F, F, F, F, F, F] (by kernel_rfl) rfl rfl ⟨(Qae BK140.out 0).trans rfl, (Qae BK140.out 1).trans rfl, (Qae BK140.out 2).trans rfl, (Qae BK140.out 3).trans rfl, (Qae BK140.out 4).trans rfl, (Qae BK140.out 5).trans rfl, hx141_0, hx141_1, hx141_2, hx141_3, hx141_4, hx141_5, hx142_0⟩ (fun hHeld => ?_); refine Qa3 Qaq.tab11 Qaq.bits11 (fun HT_ HW_ => ?_)
                generalize w19.drew = w20 at HO_4 HO_6 HO_8 BK140 HB HL141_4 HR141_4 hx141_0 hx141_1 hx141_2 hx141_3 hx141_4 hx141_5 hx142_0 hHeld ⊢
                refine Zsp (i := 0) (N := some 42) (pm 18 1) HT_ ?_
                refine Zsp (i := 1) (N := some 43) (pm 18 2) HT_ ?_
                refine Zsp (i := 3) (N := some 45) #[T, T, F, T, F, F, F, F, F, F, F, F, F, F, F, F, F, F] HT_ ?_
                refine Zsp (i := 6) (N := some 48) #[T, T, F, T, F, F, T, F, F, F, F, F, F, F, F, F, F, F] HT_ ?_
                refine Zsp (i := 7) (N := some 49) #[T, T, F, T, F, F, T, T, F, F, F, F, F, F, F, F, F, F] HT_ ?_
                refine Zsp (i := 8) (N := some 50) #[T, T, F, T, F, F, T, T, T, F, F, F, F, F, F, F, F, F] HT_ ?_
                refine Zsp (i := 9) (N := some 51) #[T, T, F, T, F, F, T, T, T, T, F, F, F, F, F, F, F, F] HT_ ?_
                refine Zsp (i := 11) (N := some 53) #[T, T, F, T, F, F, T, T, T, T, F, T, F, F, F, F, F, F] HT_ ?_
                refine Zst (i := 2) (N := some 44) #[T, T, T, T, F, F, T, T, T, T, F, T, F, F, F, F, F, F] HT_ HW_ hHeld ?_ (hy := by (refine Or.inl ⟨by rfl, ?_⟩; rintro w' ⟨s0, s1, s2, s3, s4, s5, s6, s7, s8, s9, s10, s11, s12⟩; go_simp; with_reducible rfl))
                refine Zst (i := 4) (N := some 46) #[T, T, T, T, T, F, T, T, T, T, F, T, F, F, F, F, F, F] HT_ HW_ hHeld ?_ (hy := by (refine Or.inl ⟨by rfl, ?_⟩; rintro w' ⟨s0, s1, s2, s3, s4, s5, s6, s7, s8, s9, s10, s11, s12⟩; go_simp; with_reducible rfl))
                refine Zsp (i := 5) (N := some 47) #[T, T, T, T, T, T, T, T, T, T, F, T, F, F, F, F, F, F] HT_ ?_
                refine Zst (i := 10) (N := some 52) (pm 18 12) HT_ HW_ hHeld ?_ (hy := by (refine Or.inl ⟨by rfl, ?_⟩; rintro w' ⟨s0, s1, s2, s3, s4, s5, s6, s7, s8, s9, s10, s11, s12⟩; go_simp; with_reducible rfl))
                refine Zsp (i := 12) (N := some 54) (pm 18 13) HT_ ?_
                refine Zst (i := 13) (N := some 55) (pm 18 14) HT_ HW_ hHeld ?_ (hy := by (refine Or.inl ⟨by rfl, ?_⟩; rintro w' ⟨s0, s1, s2, s3, s4, s5, s6, s7, s8, s9, s10, s11, s12⟩; go_simp; with_reducible rfl))
                refine Zsp (i := 14) (N := some 56) (pm 18 15) HT_ ?_
                refine last_ (i := 15) (N := some 57) #[T, T, T, T, T, T, T, T, T, T, T, T, T, T, T, T, F, F] rfl rfl (one_of HT_.out (by kernel_rfl)) (by decide) (fun K hK => ?_)
                refine value_ (w1 := ?_) (v := ?_) (by rfl) rfl ?_ ?_
                rotate_left 2
                ·go_simp
                 constructor
                 ·rfl
                 rfl
                refine hK.out _ _ ?_
                clear hK K
                refine norm_ (a' := ?_) ?_ ?_
                rotate_left
                ·show Act.put _ (some 57) _ = _
                 simp only [Act.put, Zj, Zk, Zm, i64_w, i32_w]
                 rfl
                refine last_ (i := 16) (N := some 58) #[T, T, T, T, T, T, T, T, T, T, T, T, T, T, T, T, T, F] rfl rfl (one_of HT_.out (by kernel_rfl)) (by decide) (fun K hK => ?_)
                refine Kd.R_append_step (Kd.int .i64) (w0 := w) w.heap.size (by rfl) (.tmp 42) (.tmp 57) 32 3 (.int .i64 0) 8 rfl Try.underlying32 info3 rfl (by decide) (by omega) u8 x8_3 (wrap64 ((wrap64 (((rd_T71 l0 x37_3).f1) - ((rd_T71 l0 x37_3).f2))) * (rd ((Qaa t134 x37_3).f1) x32_2))) [.int .i64 (wrap64 ((wrap64 (((rd_T71 l0 x37_3).f1) - ((rd_T71 l0 x37_3).f2))) * (rd ((Qaa t134 x37_3).f1) x32_2)))] (fun k_ => some k_ ≠ (u4 : Value).ownBlock) (fun _ => False) rfl rfl ?aP (fun _ hk => hk.elim) ?aF ?aO ?aB ?aS ?aL ?_
                (case aP => exact rfl)
                (case aB => exact (Zc1 GE140.out))
                (case aF => exact (fun k_ hk => Kd.fresh' (Kd.R_lt (Zr HO_4.out)) k_ hk))
                (case aO => exact (Zr HO_8.out))
                (case aS => exact (Qau (Zc1 GE140.out)))
                (case aL => have := LMc16.out; omega)
                intro v144 w22 ho hb hg hat
                rw [← Ny143.out] at ho
                have HO145 := Aside0.mk (ho)
                replace HO_4 := Aside0.mk (Kd.R_after (ok := (fun _ => True)) (by (with_reducible repeat (first | apply Kd.R_alloc | apply Kd.R_drewN | apply Kd.R_drew)); exact Kd.R_mono HO_4.out (fun _ hk => ⟨trivial, hk⟩)) hg hat)
                replace HO_6 := Aside0.mk (Kd.N_afterv (ok := (fun k_ => some k_ ≠ (u4 : Value).ownBlock ∧ k_ ≠ gb140)) (by (with_reducible repeat (first | apply Kd.N_alloc | apply Kd.N_drewN | apply Kd.N_drew)); exact Kd.N_mono HO_6.out (fun _ hk => ⟨⟨hk.1, hk.2.2⟩, hk.2.1⟩)) hg hat)
                replace BK140 := Aside0.mk (QaN (g := gb140) (o := .cells #[.string ((rd_T71 l0 x37_3).f0.f0), .int .i64 ((rd_T71 l0 x37_3).f0.f1), .int .i64 ((rd_T71 l0 x37_3).f0.f2), .int .i64 ((rd_T71 l0 x37_3).f0.f3), .int .i64 ((rd_T71 l0 x37_3).f1), .int .i64 ((rd_T71 l0 x37_3).f2)] 71 (0, 0)) (Zu BK140.out) hg (Kd.R_ne HO_8.out BK140.out (by decide)))
                replace HL141_4 := Aside0.mk (Kd.V_afterv (ok := (fun k_ => some k_ ≠ (u4 : Value).ownBlock ∧ some k_ ≠ (.slice (some ad141) t134.length co21 : Value).ownBlock ∧ k_ ≠ gb140)) (by (with_reducible repeat (first | apply Kd.V_alloc | apply Kd.V_drewN | apply Kd.V_drew)); exact Kd.V_mono HL141_4.out (fun _ hk => ⟨⟨hk.1.1, ⟨hk.2, hk.1.2.2⟩⟩, hk.1.2.1⟩)) hg hat)
                replace HB := Aside0.mk (hb)
                clear HO_8
                clear ho hb hg hat
                refine hK.out _ _ ?_
                clear hK K
                refine norm_ (a' := ?_) ?_ ?_
                rotate_left
                ·show Act.put _ (some 58) _ = _
                 simp only [Act.put, Zj, Zk, Zm, i64_w, i32_w]
                 rfl
                refine Zsp (i := 17) (N := some 8) (pm 18 18) HT_ ?_
                refine done_ (Qbc HT_.out (by kernel_rfl)) ?_
                try go_wp2
                go_roundg k3
                case measure => have := HJ3.out; have := HK2.out; have := HK3.out; omega
                case rel => exact ⟨(y143), (wrap64 (x37_3 + 1)), (Zs), H', ⟨by have := HJ3.out; have := HK2.out; have := HK3.out; omega⟩, ⟨by (with_reducible repeat (first | apply Kd.R_alloc | apply Kd.R_drewN | apply Kd.R_drew)); exact Kd.R_mono HO_4.out (fun _ hk => hk.2)⟩, ⟨by (with_reducible repeat (first | apply Kd.N_alloc | apply Kd.N_drewN | apply Kd.N_drew)); exact Kd.N_mono HO_6.out (fun _ hk => ⟨hk.1.1, hk.2⟩)⟩, ⟨Zr HO145.out⟩, ⟨Zc1 GE140.out⟩⟩
               rw [if_neg c16] at H
               exact absurd H (by simp)
              rw [if_neg c15] at H
              exact absurd H (by simp)
             rw [if_neg c14] at H
             exact absurd H (by simp)
            rw [if_neg c13] at H
            exact absurd H (by simp)
           rw [if_neg c12] at H
           exact absurd H (by simp)
          rw [if_neg c11] at H
          exact absurd H (by simp)
         rw [if_neg c10] at H
         have c10b0 : decide (x37_3 < (l0.length : Int)) = F := decide_eq_false c10
         clear c10
         (try simp only [c10b0])
         replace H := Option.bind_eq_some_iff.mp H
         obtain ⟨⟨t146, t147⟩, A230, H⟩ := H
         replace H : (if t147 = 0 then (if x4_2.length < 17592186044416 then (Qaq.l0 k3 l0 (x4_2 ++ [t146]) t134 (((Qaa l1 0).f1).length : Int) (wrap64 (x32_2 + 1))) else (none)) else (some (([] : List Int), t147))) = some (r1, r2) := H
         have A23 := Aside0.mk A230
         clear A230
         obtain ⟨Ao24, co24, eo24⟩ := Kd.R_slice HO_8.out
         subst eo24
         go_upto_if 66 with (first | ((with_reducible refine QaF (f := 56) rfl ?_); refine goesL_ (some 62) rfl rfl Try.func56 (by kernel_rfl) rfl #[.slice Ao24 x8_3.length co24] rfl (Zl) ?_; (with_reducible refine (QaG.calls k3 _ _ x8_3 t146 t147 _ ?side1 ?side2 A23.out).mono ?_); (case side1 => exact Zv (Kd.R_reads' HO_8.out).2.2); (case side2 => exact (Kd.R_reads' HO_8.out).2.1); rintro e w' ⟨rfl, ⟨nd, rfl⟩⟩; refine ⟨_, rfl, ?_⟩))
         (try simp only [Act.put, Zj, Zk, Zm])
         by_cases c25 : t147 = 0
         ·rw [if_pos c25] at H
          have c25b0 : (t147 == 0) = T := beq_iff_eq.mpr c25
          have c25b1 : (t147 != 0) = F := bne_eq_false_iff_eq.mpr c25
          clear c25
          (try simp only [c25b0, c25b1])
          by_cases c26 : x4_2.length < 17592186044416
          ·rw [if_pos c26] at H
           have LMc26 := Aside0.mk c26
           clear c26
           obtain ⟨y148, hy148⟩ : ∃ y_ : List Int, y_ = (x4_2 ++ [t146]) := ⟨_, rfl⟩
           replace H : (Qaq.l0 k3 l0 y148 t134 (((Qaa l1 0).f1).length : Int) (wrap64 (x32_2 + 1))) = some (r1, r2) := by first | (rw [hy148]; with_reducible exact H) | (have H2_ := (Option.bind_some _ _).symm.trans H; rw [hy148]; with_reducible exact H2_) | (have H2_ := (Option.bind_some _ _).symm.trans H; with_reducible exact H2_) | with_reducible exact H | (rw [hy148]; exact H) | exact H
           have Ny148 := Aside0.mk hy148
           clear hy148
           have H' := Aside0.mk H
           clear H
           go_wp2_with (first | ((with_reducible refine Qa9 (b := .append) (xs := #[.tmp 68, .tmp 70]) rfl ?_); (try (refine Qbu (by rfl) ?_; dsimp only)); at_builtin; refine Kd.R_append (Kd.int .i64) (w0 := w) w.heap.size rfl (.tmp 68) (.tmp 70) 32 3 (.int .i64 0) 8 rfl Try.underlying32 info3 rfl (by decide) (by omega) u4 x4_2 t146 [.int .i64 t146] (fun k_ => some k_ ≠ (.slice Ao24 x8_3.length co24 : Value).ownBlock) (fun _ => False) rfl rfl ?aP (fun _ hk => hk.elim) ?aF ?aO ?aB ?aS ?aL ?_; (case aP => exact rfl); (case aB => exact (Zb)); (case aF => exact (fun k_ hk => Kd.fresh' (Kd.R_lt (Zr HO_8.out)) k_ hk)); (case aO => exact (Zr HO_4.out)); (case aS => exact (Qau (Zb))); (case aL => have := LMc26.out; omega); intro v149 w27 ho hb hg hat; rw [← Ny148.out] at ho; have HO150 := Aside0.mk (ho); replace HO_6 := Aside0.mk (Kd.N_afterv (ok := (fun k_ => some k_ ≠ (.slice Ao24 x8_3.length co24 : Value).ownBlock)) (by (with_reducible repeat (first | apply Kd.N_alloc | apply Kd.N_drewN | apply Kd.N_drew)); exact Kd.N_mono HO_6.out (fun _ hk => ⟨hk.2, hk.1⟩)) hg hat); replace HO_8 := Aside0.mk (Kd.R_after (ok := (fun _ => True)) (by (with_reducible repeat (first | apply Kd.R_alloc | apply Kd.R_drewN | apply Kd.R_drew)); exact Kd.R_mono HO_8.out (fun _ hk => ⟨trivial, hk⟩)) hg hat); replace HB := Aside0.mk (hb); clear HO_4; clear ho hb hg hat))
           go_roundg k3
           case measure => have := HJ3.out; have := HK2.out; have := HK3.out; omega
           case rel => exact ⟨(y148), (wrap64 (x32_2 + 1)), (Zs), H', ⟨by have := HJ3.out; have := HK2.out; have := HK3.out; omega⟩, ⟨by (with_reducible repeat (first | apply Kd.R_alloc | apply Kd.R_drewN | apply Kd.R_drew)); exact Kd.R_mono HO150.out (fun _ hk => trivial)⟩, ⟨by (with_reducible repeat (first | apply Kd.N_alloc | apply Kd.N_drewN | apply Kd.N_drew)); exact Kd.N_mono HO_6.out (fun _ hk => hk.2)⟩, ⟨Zb⟩⟩
          rw [if_neg c26] at H
          exact absurd H (by simp)
         rw [if_neg c25] at H
         have c25b0 : (t147 == 0) = F := beq_eq_false_iff_ne.mpr c25
         have c25b1 : (t147 != 0) = T := bne_iff_ne.mpr c25
         (try simp only [c25b0, c25b1])
         simp only [Option.some.injEq, Prod.mk.injEq] at H
         obtain ⟨rfl, rfl⟩ := H
         go_wp2
         go_ret2
         exact ⟨_, Zq, by first | exact Kd.R_nil _ _ _ _ _ | exact Kd.N_nil _ _ _ _ _ | exact Kd.V_nil _ _ _ _ _ | exact Kd.Q_nil _ _ _ _ _ | exact Kd.S_nil _ _ _ _ _, Zb⟩
      rw [if_neg c9] at H
      have c9b0 : decide (x32_2 < (((Qaa l1 0).f1).length : Int)) = F := decide_eq_false c9
      clear c9
      (try simp only [c9b0])
      simp only [Option.some.injEq, Prod.mk.injEq] at H
      obtain ⟨rfl, rfl⟩ := H
      go_wp2
      go_ret2
      exact ⟨_, Zq, Zr HO_4.out, Zb⟩
   rw [if_neg c8] at H
   exact absurd H (by simp)
def Qaw.l0 : Nat → List (S71) → Int → Int → List (S128) → Int → Int → Option (Int × Int)
 | 0, _, _, _, _, _, _ => none
 | k + 1, x0, x4, x5, x15, x16, x17 => if x17 < x16 then (if 0 ≤ x17 then (if x17 < (x15.length : Int) then (if x17 < (x0.length : Int) then (Qaw.l0 k x0 (wrap64 (x4 + (wrap64 ((wrap64 (((rd_T71 x0 x17).f1) - ((rd_T71 x0 x17).f2))) * ((Qaa x15 x17).f2))))) x5 x15 x16 (wrap64 (x17 + 1))) else (none)) else (none)) else (none)) else (some (x4, x5))
def Qaw.f (k : Nat) (l0 : List (S71)) (l1 : List (S128)) : Option (Int × Int) := (QaA.f k l0 l1).bind fun bt436 => (Qaw.l0 k l0 0 bt436.2 bt436.1 (bt436.1.length : Int) 0)
theorem Qaw.mono_l : ∀ k, (∀ y0 y1 y2 y3 y4 y5, LeO (Qaw.l0 k y0 y1 y2 y3 y4 y5) (Qaw.l0 (k + 1) y0 y1 y2 y3 y4 y5))
 | 0 => fun _ _ _ _ _ _ r h => by simp [Qaw.l0] at h
 | k + 1 => by
  have ih0 := Qaw.mono_l k
  intro y0 y1 y2 y3 y4 y5
  unfold Qaw.l0
  exact ZM2 ih0 QaA.mono
theorem Qaw.mono : ∀ a0 a1 k, LeO (Qaw.f k a0 a1) (Qaw.f (k + 1) a0 a1) := by
 intro a0 a1 k
 have ih0 := Qaw.mono_l k
 unfold Qaw.f
 exact ZM2 ih0 QaA.mono
theorem Qaw.calls (k : Nat) (A0 : Option Addr) (c0 : Nat) (l0 : List (S71)) (A1 : Option Addr) (c1 : Nat) (l1 : List (S128)) (r1 : Int) (r2 : Int) (w : World) (hr0 : Kd.C k71 w A0 l0.length l0) (hc0 : l0.length ≤ c0) (hr1 : Kd.C k128 w A1 l1.length l1) (hc1 : l1.length ≤ c1) (h : Qaw.f k l0 l1 = some (r1, r2)) :
  Calls Try.prog 16 #[.slice A0 l0.length c0, .slice A1 l1.length c1] w fun e w' => e = .returned (.tuple #[.int .i64 r1, .int .i64 r2]) ∧ Below w.heap.size w w' := by
 have hu128 := Try.underlying128
 have HR0 := Aside0.mk hr0
 have HC0 := Aside0.mk hc0
 clear hr0 hc0
 have HR1 := Aside0.mk hr1
 have HC1 := Aside0.mk hc1
 clear hr1 hc1
 have HB := Aside0.mk (Below.refl w.heap.size w)
 have H : ((QaA.f k l0 l1).bind fun bt436 => (Qaw.l0 k l0 0 bt436.2 bt436.1 (bt436.1.length : Int) 0)) = some (r1, r2) := h
 clear h
 replace H := Option.bind_eq_some_iff.mp H
 obtain ⟨⟨t436, t439⟩, A30, H⟩ := H
 replace H : (Qaw.l0 k l0 0 t439 t436 (t436.length : Int) 0) = some (r1, r2) := H
 have A3 := Aside0.mk A30
 clear A30
 have H' := Aside0.mk H
 clear H
 go_enter Try.func16, Try.ntmps16
 go_wp2_with (first | (go_at_call 58; (with_reducible refine (QaA.calls k _ _ l0 (fun k_ => k_ < w.heap.size) _ _ l1 t436 t439 _ ?side1 ?side2 ?side3 A3.out).mono ?_); (case side1 => exact Zv HR0.out); (case side2 => exact HC0.out); (case side3 => exact Kd.V_mk HC1.out (Kd.F_below (Kd.C_F Qbn HR1.out) (Zb))); rintro e w4 ⟨v437, rfl, ho0, hb⟩; have HO438 := Aside0.mk (Kd.N_lower (Kd.N_mono (ok' := fun k_ => True) ho0 (fun k_ hk_ => trivial)) (Qau (Zb))); replace HB := Aside0.mk (Qav (Zb) hb); (try clear hb); (try clear hb2); (try clear hk); (try clear hi); (try clear ho0); obtain ⟨Ao5, co5, eo5⟩ := Kd.N_slice HO438.out; subst eo5))
 repeat (go_quiet (first | (go_at_call 58; (with_reducible refine (QaA.calls k _ _ l0 (fun k_ => k_ < w.heap.size) _ _ l1 t436 t439 _ ?side1 ?side2 ?side3 A3.out).mono ?_); (case side1 => exact Zv HR0.out); (case side2 => exact HC0.out); (case side3 => exact Kd.V_mk HC1.out (Kd.F_below (Kd.C_F Qbn HR1.out) (Zb))); rintro e w4 ⟨v437, rfl, ho0, hb⟩; have HO438 := Aside0.mk (Kd.N_lower (Kd.N_mono (ok' := fun k_ => True) ho0 (fun k_ hk_ => trivial)) (Qau (Zb))); replace HB := Aside0.mk (Qav (Zb) hb); (try clear hb); (try clear hb2); (try clear hk); (try clear hi); (try clear ho0); obtain ⟨Ao5, co5, eo5⟩ := Kd.N_slice HO438.out; subst eo5)); try go_wp2_with (first | (go_at_call 58; (with_reducible refine (QaA.calls k _ _ l0 (fun k_ => k_ < w.heap.size) _ _ l1 t436 t439 _ ?side1 ?side2 ?side3 A3.out).mono ?_); (case side1 => exact Zv HR0.out); (case side2 => exact HC0.out); (case side3 => exact Kd.V_mk HC1.out (Kd.F_below (Kd.C_F Qbn HR1.out) (Zb))); rintro e w4 ⟨v437, rfl, ho0, hb⟩; have HO438 := Aside0.mk (Kd.N_lower (Kd.N_mono (ok' := fun k_ => True) ho0 (fun k_ hk_ => trivial)) (Qau (Zb))); replace HB := Aside0.mk (Qav (Zb) hb); (try clear hb); (try clear hb2); (try clear hk); (try clear hi); (try clear ho0); obtain ⟨Ao5, co5, eo5⟩ := Kd.N_slice HO438.out; subst eo5)))
 go_loopg [4, 17] k (fun kq v4 v17 w' => ∃ (x4_1 : Int) (x17_1 : Int), v4 = .int .i64 x4_1 ∧ v17 = .int .i64 x17_1 ∧ Aside0 (Qaw.l0 kq l0 x4_1 t439 t436 (t436.length : Int) x17_1 = some (r1, r2)) ∧ Aside0 (kq ≤ k) ∧ Aside0 (Kd.N k128 128 w' w.heap.size (fun _ => True) (.slice Ao5 t436.length co5) t436) ∧ Aside0 (Below w.heap.size w w'))
 case atStart => exact ⟨(0), (0), (Zs), (Zs), H', ⟨Nat.le_refl _⟩, ⟨by (with_reducible repeat (first | apply Kd.N_alloc | apply Kd.N_drewN | apply Kd.N_drew)); exact HO438.out⟩, ⟨Zb⟩⟩
 case round =>
  clear H'
  try clear c1
  try clear p2
  obtain ⟨x4_1, x17_1, rfl, rfl, HA, HK1, HO_15, HB⟩ := hrel
  cases gk with
  | zero => exact absurd HA.out (by simp [Qaw.l0])
  | succ k1 =>
   have H := HA.out
   clear HA
   simp only [Qaw.l0] at H
   by_cases c6 : x17_1 < (t436.length : Int)
   ·rw [if_pos c6] at H
    have c6b0 : decide (x17_1 < (t436.length : Int)) = T := decide_eq_true c6
    clear c6
    (try simp only [c6b0])
    by_cases c7 : 0 ≤ x17_1
    ·rw [if_pos c7] at H
     have c7b0 : decide (0 ≤ x17_1) = T := decide_eq_true c7
     clear c7
     by_cases c8 : x17_1 < (t436.length : Int)
     ·rw [if_pos c8] at H
      have c8b0 : decide (x17_1 < (t436.length : Int)) = T := decide_eq_true c8
      clear c8
      by_cases c9 : x17_1 < (l0.length : Int)
      ·rw [if_pos c9] at H
       have c9b0 : decide (x17_1 < (l0.length : Int)) = T := decide_eq_true c9
       clear c9
       have H' := Aside0.mk H
       clear H
       have p440 : 0 ≤ (x17_1 : Int) := Ze
       have q440 : x17_1 < (t436.length : Int) := Ze
       obtain ⟨ad440, A440_4, c440_4, e440, hx440_0, hx440_1, hx440_2, hx440_3, hx440_4, hx440_5, hl440_4, hi440_4⟩ := Qbm (Kd.N_reads' HO_15.out).2.2 x17_1 p440 q440
       cases e440
       obtain ⟨ce440, hce440, hMe440, hcc440⟩ := Kd.N_get HO_15.out z128 x17_1 p440 (by first | exact q440 | exact Ze | (have e_ := (Kd.N_reads' HO_15.out).1; omega))
       obtain ⟨ua440_4, uc440_4, rfl, ul440_4, ge440_4⟩ := Qbo hMe440
       have hv440_4 := hcc440 4 _ rfl
       rw [QaZ _ _ 4 (by omega)] at hv440_4
       replace hv440_4 := Option.some.inj (hv440_4.symm.trans hx440_4)
       injection hv440_4 with hva_ hvn_ hvc_
       rw [hva_] at ge440_4
       rw [hvc_] at ul440_4
       have HL440_4 := Aside0.mk (show Kd.V (Kd.int .i64) 3 _ w.heap.size _ _ ((Qaa t436 x17_1).f1) from Kd.V_mk ul440_4 ge440_4)
       clear hva_ hvn_ hvc_ ge440_4 ul440_4
       clear hcc440 hce440
       have HR440_4 := Aside0.mk hi440_4
       have HC440_4 := Aside0.mk hl440_4
       clear hi440_4 hl440_4
       replace p440 := eq_true p440
       replace q440 := eq_true q440
       go_wp2_with (first | ((with_reducible refine QaX (N := 8) rfl ?_); refine Zbx (N := 8) (cs := #[.string (⟨#[]⟩ : ByteArray), .int .i64 0, .int .i64 0, .int .i64 0, .slice none 0 0, .int .i64 0]) (t := 128) ?_; intro gb441 hg w10 hbox hb; have BK441 := Aside0.mk (hbox); have GW441 := Aside0.mk (Zt w hg (Zb)); have GE441 := GW441; replace HO_15 := Aside0.mk (Kd.N_below (Kd.N_elderB (by (with_reducible repeat (first | apply Kd.N_alloc | apply Kd.N_drewN | apply Kd.N_drew)); exact HO_15.out) gb441 (Nat.le_of_eq hg.symm)) hb); replace HL440_4 := Aside0.mk (Kd.V_below (Kd.V_elderB (by (with_reducible repeat (first | apply Kd.V_alloc | apply Kd.V_drewN | apply Kd.V_drew)); exact HL440_4.out) gb441 (Nat.le_of_eq hg.symm)) hb); replace HR440_4 := Aside0.mk (Kd.C_below (by repeat (first | (with_reducible exact HR440_4.out) | (with_reducible refine Kd.C_alloc ?_ _) | (with_reducible refine Kd.C_drewN ?_ _) | (with_reducible refine Kd.C_drew ?_) | exact HR440_4.out)) hb); replace HB := Aside0.mk (Qav (Zb) hb); clear hb hbox hg; obtain ⟨hcz11_0, hfz11_0⟩ := Zy (v := (.string (⟨#[]⟩ : ByteArray))) BK441.out 0; obtain ⟨hcz11_1, hfz11_1⟩ := Zy (v := (.int .i64 0)) BK441.out 1; obtain ⟨hcz11_2, hfz11_2⟩ := Zy (v := (.int .i64 0)) BK441.out 2; obtain ⟨hcz11_3, hfz11_3⟩ := Zy (v := (.int .i64 0)) BK441.out 3; obtain ⟨hcz11_4, hfz11_4⟩ := Zy (v := (.slice none 0 0)) BK441.out 4; obtain ⟨hcz11_5, hfz11_5⟩ := Zy (v := (.int .i64 0)) BK441.out 5) | ((with_reducible refine Qba (t := 128) (p := 8) rfl ?_); (try (rw [QbD w10]; generalize hq_ : World.drewN w10 _ = w10; have n0_ := Aside0.mk (Kd.N_at hq_ HO_15.out); have n1_ := Aside0.mk (Kd.V_at hq_ HL440_4.out); have n2_ := Aside0.mk (blk_at hq_ BK441.out); have n3_ := Aside0.mk (Kd.C_at hq_ HR440_4.out); have n4_ := Aside0.mk (Qcr hq_ HB.out); clear hq_ HO_15 HL440_4 BK441 HR440_4 HB; have HO_15 := n0_; have HL440_4 := n1_; have BK441 := n2_; have HR440_4 := n3_; have HB := n4_; clear n0_ n1_ n2_ n3_ n4_)); refine Qa6 (t := 128) (p := 8) (v := ?vo_w12) (w1 := ((((((w10.setCell ⟨gb441, 0, none⟩ (.string ((Qaa t436 x17_1).f0.f0))).setCell ⟨gb441, 1, none⟩ (.int .i64 ((Qaa t436 x17_1).f0.f1))).setCell ⟨gb441, 2, none⟩ (.int .i64 ((Qaa t436 x17_1).f0.f2))).setCell ⟨gb441, 3, none⟩ (.int .i64 ((Qaa t436 x17_1).f0.f3))).setCell ⟨gb441, 4, none⟩ (.slice A440_4 ((Qaa t436 x17_1).f1).length c440_4)).setCell ⟨gb441, 5, none⟩ (.int .i64 ((Qaa t436 x17_1).f2)))) ?hg ?ho ?hn ?hr ?_; (case ho => rfl); (case hg => rfl); (case hn => rfl); (case hr => first | (exact Qbl (cs := #[.string (⟨#[]⟩ : ByteArray), .int .i64 0, .int .i64 0, .int .i64 0, .slice none 0 0, .int .i64 0]) (seg := [.string ((Qaa t436 x17_1).f0.f0), .int .i64 ((Qaa t436 x17_1).f0.f1), .int .i64 ((Qaa t436 x17_1).f0.f2), .int .i64 ((Qaa t436 x17_1).f0.f3), .slice A440_4 ((Qaa t436 x17_1).f1).length c440_4, .int .i64 ((Qaa t436 x17_1).f2)]) BK441.out rfl (by first | rfl | (go_simp; done)) (by first | rfl | (go_simp; done)) (by rfl) (by first | rfl | kernel_rfl) (by simp) (by first | rfl | simp [Value.oneCell'])) | (go_simp; done) | (go_simp; rfl)); intro w12 hw; replace HO_15 : Aside0 (Kd.N k128 128 w12 w.heap.size (fun k_ => k_ ≠ gb441) (.slice (some ad440) t436.length co5) t436) := ⟨(by rw [hw]; exact (by (with_reducible repeat (first | apply Kd.N_alloc | apply Kd.N_drewN | apply Kd.N_drew)); exact Kd.N_mono (Kd.N_far (p := ⟨gb441, 5, none⟩) (Kd.N_far (p := ⟨gb441, 4, none⟩) (Kd.N_far (p := ⟨gb441, 3, none⟩) (Kd.N_far (p := ⟨gb441, 2, none⟩) (Kd.N_far (p := ⟨gb441, 1, none⟩) (Kd.N_far (p := ⟨gb441, 0, none⟩) (Kd.N_mono HO_15.out (fun k_ hk => (⟨hk, hk.2⟩ : _ ∧ k_ ≠ gb441))) (fun _ hk => hk.2) (.string ((Qaa t436 x17_1).f0.f0))) (fun _ hk => hk.2) (.int .i64 ((Qaa t436 x17_1).f0.f1))) (fun _ hk => hk.2) (.int .i64 ((Qaa t436 x17_1).f0.f2))) (fun _ hk => hk.2) (.int .i64 ((Qaa t436 x17_1).f0.f3))) (fun _ hk => hk.2) (.slice A440_4 ((Qaa t436 x17_1).f1).length c440_4)) (fun _ hk => hk.2) (.int .i64 ((Qaa t436 x17_1).f2))) (fun _ hk => hk.1.2)))⟩; replace HL440_4 : Aside0 (Kd.V (Kd.int .i64) 3 w12 w.heap.size (fun k_ => some k_ ≠ (.slice (some ad440) t436.length co5 : Value).ownBlock ∧ k_ ≠ gb441) (.slice A440_4 ((Qaa t436 x17_1).f1).length c440_4) ((Qaa t436 x17_1).f1)) := ⟨(by rw [hw]; exact (by (with_reducible repeat (first | apply Kd.V_alloc | apply Kd.V_drewN | apply Kd.V_drew)); exact Kd.V_mono (Kd.V_far (p := ⟨gb441, 5, none⟩) (Kd.V_far (p := ⟨gb441, 4, none⟩) (Kd.V_far (p := ⟨gb441, 3, none⟩) (Kd.V_far (p := ⟨gb441, 2, none⟩) (Kd.V_far (p := ⟨gb441, 1, none⟩) (Kd.V_far (p := ⟨gb441, 0, none⟩) (Kd.V_mono HL440_4.out (fun k_ hk => (⟨hk, hk.2⟩ : _ ∧ k_ ≠ gb441))) (fun _ hk => hk.2) (.string ((Qaa t436 x17_1).f0.f0))) (fun _ hk => hk.2) (.int .i64 ((Qaa t436 x17_1).f0.f1))) (fun _ hk => hk.2) (.int .i64 ((Qaa t436 x17_1).f0.f2))) (fun _ hk => hk.2) (.int .i64 ((Qaa t436 x17_1).f0.f3))) (fun _ hk => hk.2) (.slice A440_4 ((Qaa t436 x17_1).f1).length c440_4)) (fun _ hk => hk.2) (.int .i64 ((Qaa t436 x17_1).f2))) (fun _ hk => ⟨hk.1.1.2, hk.1.2⟩)))⟩; replace BK441 : Aside0 (w12.heap[gb441]? = some (.cells #[.string ((Qaa t436 x17_1).f0.f0), .int .i64 ((Qaa t436 x17_1).f0.f1), .int .i64 ((Qaa t436 x17_1).f0.f2), .int .i64 ((Qaa t436 x17_1).f0.f3), .slice A440_4 ((Qaa t436 x17_1).f1).length c440_4, .int .i64 ((Qaa t436 x17_1).f2)] 128 (0, 0))) := ⟨(by rw [hw]; exact (Zp2 BK441.out))⟩; replace HB : Aside0 (Below w.heap.size w w12) := ⟨(by rw [hw]; exact (Zc1 GE441.out))⟩; clear hw; have p442 : 0 ≤ (x17_1 : Int) := Ze; have q442 : x17_1 < (l0.length : Int) := Ze; obtain ⟨ad442, e442, hx442_0, hx442_1, hx442_2, hx442_3, hx442_4, hx442_5⟩ := at_T71 HR0.out x17_1 p442 q442; cases e442; replace hx442_0 := Zx HB.out hx442_0; replace hx442_1 := Zx HB.out hx442_1; replace hx442_2 := Zx HB.out hx442_2; replace hx442_3 := Zx HB.out hx442_3; replace hx442_4 := Zx HB.out hx442_4; replace hx442_5 := Zx HB.out hx442_5; replace p442 := eq_true p442; replace q442 := eq_true q442; have p443 : 0 ≤ (x17_1 : Int) := Ze; have q443 : x17_1 < (l0.length : Int) := Ze; obtain ⟨ad443, e443, hx443_0, hx443_1, hx443_2, hx443_3, hx443_4, hx443_5⟩ := at_T71 HR0.out x17_1 p443 q443; obtain rfl : ad442 = ad443 := (by injection e443); replace hx443_0 := Zx HB.out hx443_0; replace hx443_1 := Zx HB.out hx443_1; replace hx443_2 := Zx HB.out hx443_2; replace hx443_3 := Zx HB.out hx443_3; replace hx443_4 := Zx HB.out hx443_4; replace hx443_5 := Zx HB.out hx443_5; replace p443 := eq_true p443; replace q443 := eq_true q443; obtain ⟨hcz13_0, hfz13_0⟩ := Zy (v := (.string ((Qaa t436 x17_1).f0.f0))) BK441.out 0; obtain ⟨hcz13_1, hfz13_1⟩ := Zy (v := (.int .i64 ((Qaa t436 x17_1).f0.f1))) BK441.out 1; obtain ⟨hcz13_2, hfz13_2⟩ := Zy (v := (.int .i64 ((Qaa t436 x17_1).f0.f2))) BK441.out 2; obtain ⟨hcz13_3, hfz13_3⟩ := Zy (v := (.int .i64 ((Qaa t436 x17_1).f0.f3))) BK441.out 3; obtain ⟨hcz13_4, hfz13_4⟩ := Zy (v := (.slice A440_4 ((Qaa t436 x17_1).f1).length c440_4)) BK441.out 4; obtain ⟨hcz13_5, hfz13_5⟩ := Zy (v := (.int .i64 ((Qaa t436 x17_1).f2))) BK441.out 5))
       repeat (go_quiet (first | ((with_reducible refine QaX (N := 8) rfl ?_); refine Zbx (N := 8) (cs := #[.string (⟨#[]⟩ : ByteArray), .int .i64 0, .int .i64 0, .int .i64 0, .slice none 0 0, .int .i64 0]) (t := 128) ?_; intro gb441 hg w10 hbox hb; have BK441 := Aside0.mk (hbox); have GW441 := Aside0.mk (Zt w hg (Zb)); have GE441 := GW441; replace HO_15 := Aside0.mk (Kd.N_below (Kd.N_elderB (by (with_reducible repeat (first | apply Kd.N_alloc | apply Kd.N_drewN | apply Kd.N_drew)); exact HO_15.out) gb441 (Nat.le_of_eq hg.symm)) hb); replace HL440_4 := Aside0.mk (Kd.V_below (Kd.V_elderB (by (with_reducible repeat (first | apply Kd.V_alloc | apply Kd.V_drewN | apply Kd.V_drew)); exact HL440_4.out) gb441 (Nat.le_of_eq hg.symm)) hb); replace HR440_4 := Aside0.mk (Kd.C_below (by repeat (first | (with_reducible exact HR440_4.out) | (with_reducible refine Kd.C_alloc ?_ _) | (with_reducible refine Kd.C_drewN ?_ _) | (with_reducible refine Kd.C_drew ?_) | exact HR440_4.out)) hb); replace HB := Aside0.mk (Qav (Zb) hb); clear hb hbox hg; obtain ⟨hcz11_0, hfz11_0⟩ := Zy (v := (.string (⟨#[]⟩ : ByteArray))) BK441.out 0; obtain ⟨hcz11_1, hfz11_1⟩ := Zy (v := (.int .i64 0)) BK441.out 1; obtain ⟨hcz11_2, hfz11_2⟩ := Zy (v := (.int .i64 0)) BK441.out 2; obtain ⟨hcz11_3, hfz11_3⟩ := Zy (v := (.int .i64 0)) BK441.out 3; obtain ⟨hcz11_4, hfz11_4⟩ := Zy (v := (.slice none 0 0)) BK441.out 4; obtain ⟨hcz11_5, hfz11_5⟩ := Zy (v := (.int .i64 0)) BK441.out 5) | ((with_reducible refine Qba (t := 128) (p := 8) rfl ?_); (try (rw [QbD w10]; generalize hq_ : World.drewN w10 _ = w10; have n0_ := Aside0.mk (Kd.N_at hq_ HO_15.out); have n1_ := Aside0.mk (Kd.V_at hq_ HL440_4.out); have n2_ := Aside0.mk (blk_at hq_ BK441.out); have n3_ := Aside0.mk (Kd.C_at hq_ HR440_4.out); have n4_ := Aside0.mk (Qcr hq_ HB.out); clear hq_ HO_15 HL440_4 BK441 HR440_4 HB; have HO_15 := n0_; have HL440_4 := n1_; have BK441 := n2_; have HR440_4 := n3_; have HB := n4_; clear n0_ n1_ n2_ n3_ n4_)); refine Qa6 (t := 128) (p := 8) (v := ?vo_w12) (w1 := ((((((w10.setCell ⟨gb441, 0, none⟩ (.string ((Qaa t436 x17_1).f0.f0))).setCell ⟨gb441, 1, none⟩ (.int .i64 ((Qaa t436 x17_1).f0.f1))).setCell ⟨gb441, 2, none⟩ (.int .i64 ((Qaa t436 x17_1).f0.f2))).setCell ⟨gb441, 3, none⟩ (.int .i64 ((Qaa t436 x17_1).f0.f3))).setCell ⟨gb441, 4, none⟩ (.slice A440_4 ((Qaa t436 x17_1).f1).length c440_4)).setCell ⟨gb441, 5, none⟩ (.int .i64 ((Qaa t436 x17_1).f2)))) ?hg ?ho ?hn ?hr ?_; (case ho => rfl); (case hg => rfl); (case hn => rfl); (case hr => first | (exact Qbl (cs := #[.string (⟨#[]⟩ : ByteArray), .int .i64 0, .int .i64 0, .int .i64 0, .slice none 0 0, .int .i64 0]) (seg := [.string ((Qaa t436 x17_1).f0.f0), .int .i64 ((Qaa t436 x17_1).f0.f1), .int .i64 ((Qaa t436 x17_1).f0.f2), .int .i64 ((Qaa t436 x17_1).f0.f3), .slice A440_4 ((Qaa t436 x17_1).f1).length c440_4, .int .i64 ((Qaa t436 x17_1).f2)]) BK441.out rfl (by first | rfl | (go_simp; done)) (by first | rfl | (go_simp; done)) (by rfl) (by first | rfl | kernel_rfl) (by simp) (by first | rfl | simp [Value.oneCell'])) | (go_simp; done) | (go_simp; rfl)); intro w12 hw; replace HO_15 : Aside0 (Kd.N k128 128 w12 w.heap.size (fun k_ => k_ ≠ gb441) (.slice (some ad440) t436.length co5) t436) := ⟨(by rw [hw]; exact (by (with_reducible repeat (first | apply Kd.N_alloc | apply Kd.N_drewN | apply Kd.N_drew)); exact Kd.N_mono (Kd.N_far (p := ⟨gb441, 5, none⟩) (Kd.N_far (p := ⟨gb441, 4, none⟩) (Kd.N_far (p := ⟨gb441, 3, none⟩) (Kd.N_far (p := ⟨gb441, 2, none⟩) (Kd.N_far (p := ⟨gb441, 1, none⟩) (Kd.N_far (p := ⟨gb441, 0, none⟩) (Kd.N_mono HO_15.out (fun k_ hk => (⟨hk, hk.2⟩ : _ ∧ k_ ≠ gb441))) (fun _ hk => hk.2) (.string ((Qaa t436 x17_1).f0.f0))) (fun _ hk => hk.2) (.int .i64 ((Qaa t436 x17_1).f0.f1))) (fun _ hk => hk.2) (.int .i64 ((Qaa t436 x17_1).f0.f2))) (fun _ hk => hk.2) (.int .i64 ((Qaa t436 x17_1).f0.f3))) (fun _ hk => hk.2) (.slice A440_4 ((Qaa t436 x17_1).f1).length c440_4)) (fun _ hk => hk.2) (.int .i64 ((Qaa t436 x17_1).f2))) (fun _ hk => hk.1.2)))⟩; replace HL440_4 : Aside0 (Kd.V (Kd.int .i64) 3 w12 w.heap.size (fun k_ => some k_ ≠ (.slice (some ad440) t436.length co5 : Value).ownBlock ∧ k_ ≠ gb441) (.slice A440_4 ((Qaa t436 x17_1).f1).length c440_4) ((Qaa t436 x17_1).f1)) := ⟨(by rw [hw]; exact (by (with_reducible repeat (first | apply Kd.V_alloc | apply Kd.V_drewN | apply Kd.V_drew)); exact Kd.V_mono (Kd.V_far (p := ⟨gb441, 5, none⟩) (Kd.V_far (p := ⟨gb441, 4, none⟩) (Kd.V_far (p := ⟨gb441, 3, none⟩) (Kd.V_far (p := ⟨gb441, 2, none⟩) (Kd.V_far (p := ⟨gb441, 1, none⟩) (Kd.V_far (p := ⟨gb441, 0, none⟩) (Kd.V_mono HL440_4.out (fun k_ hk => (⟨hk, hk.2⟩ : _ ∧ k_ ≠ gb441))) (fun _ hk => hk.2) (.string ((Qaa t436 x17_1).f0.f0))) (fun _ hk => hk.2) (.int .i64 ((Qaa t436 x17_1).f0.f1))) (fun _ hk => hk.2) (.int .i64 ((Qaa t436 x17_1).f0.f2))) (fun _ hk => hk.2) (.int .i64 ((Qaa t436 x17_1).f0.f3))) (fun _ hk => hk.2) (.slice A440_4 ((Qaa t436 x17_1).f1).length c440_4)) (fun _ hk => hk.2) (.int .i64 ((Qaa t436 x17_1).f2))) (fun _ hk => ⟨hk.1.1.2, hk.1.2⟩)))⟩; replace BK441 : Aside0 (w12.heap[gb441]? = some (.cells #[.string ((Qaa t436 x17_1).f0.f0), .int .i64 ((Qaa t436 x17_1).f0.f1), .int .i64 ((Qaa t436 x17_1).f0.f2), .int .i64 ((Qaa t436 x17_1).f0.f3), .slice A440_4 ((Qaa t436 x17_1).f1).length c440_4, .int .i64 ((Qaa t436 x17_1).f2)] 128 (0, 0))) := ⟨(by rw [hw]; exact (Zp2 BK441.out))⟩; replace HB : Aside0 (Below w.heap.size w w12) := ⟨(by rw [hw]; exact (Zc1 GE441.out))⟩; clear hw; have p442 : 0 ≤ (x17_1 : Int) := Ze; have q442 : x17_1 < (l0.length : Int) := Ze; obtain ⟨ad442, e442, hx442_0, hx442_1, hx442_2, hx442_3, hx442_4, hx442_5⟩ := at_T71 HR0.out x17_1 p442 q442; cases e442; replace hx442_0 := Zx HB.out hx442_0; replace hx442_1 := Zx HB.out hx442_1; replace hx442_2 := Zx HB.out hx442_2; replace hx442_3 := Zx HB.out hx442_3; replace hx442_4 := Zx HB.out hx442_4; replace hx442_5 := Zx HB.out hx442_5; replace p442 := eq_true p442; replace q442 := eq_true q442; have p443 : 0 ≤ (x17_1 : Int) := Ze; have q443 : x17_1 < (l0.length : Int) := Ze; obtain ⟨ad443, e443, hx443_0, hx443_1, hx443_2, hx443_3, hx443_4, hx443_5⟩ := at_T71 HR0.out x17_1 p443 q443; obtain rfl : ad442 = ad443 := (by injection e443); replace hx443_0 := Zx HB.out hx443_0; replace hx443_1 := Zx HB.out hx443_1; replace hx443_2 := Zx HB.out hx443_2; replace hx443_3 := Zx HB.out hx443_3; replace hx443_4 := Zx HB.out hx443_4; replace hx443_5 := Zx HB.out hx443_5; replace p443 := eq_true p443; replace q443 := eq_true q443; obtain ⟨hcz13_0, hfz13_0⟩ := Zy (v := (.string ((Qaa t436 x17_1).f0.f0))) BK441.out 0; obtain ⟨hcz13_1, hfz13_1⟩ := Zy (v := (.int .i64 ((Qaa t436 x17_1).f0.f1))) BK441.out 1; obtain ⟨hcz13_2, hfz13_2⟩ := Zy (v := (.int .i64 ((Qaa t436 x17_1).f0.f2))) BK441.out 2; obtain ⟨hcz13_3, hfz13_3⟩ := Zy (v := (.int .i64 ((Qaa t436 x17_1).f0.f3))) BK441.out 3; obtain ⟨hcz13_4, hfz13_4⟩ := Zy (v := (.slice A440_4 ((Qaa t436 x17_1).f1).length c440_4)) BK441.out 4; obtain ⟨hcz13_5, hfz13_5⟩ := Zy (v := (.int .i64 ((Qaa t436 x17_1).f2))) BK441.out 5)); try go_wp2_with (first | ((with_reducible refine QaX (N := 8) rfl ?_); refine Zbx (N := 8) (cs := #[.string (⟨#[]⟩ : ByteArray), .int .i64 0, .int .i64 0, .int .i64 0, .slice none 0 0, .int .i64 0]) (t := 128) ?_; intro gb441 hg w10 hbox hb; have BK441 := Aside0.mk (hbox); have GW441 := Aside0.mk (Zt w hg (Zb)); have GE441 := GW441; replace HO_15 := Aside0.mk (Kd.N_below (Kd.N_elderB (by (with_reducible repeat (first | apply Kd.N_alloc | apply Kd.N_drewN | apply Kd.N_drew)); exact HO_15.out) gb441 (Nat.le_of_eq hg.symm)) hb); replace HL440_4 := Aside0.mk (Kd.V_below (Kd.V_elderB (by (with_reducible repeat (first | apply Kd.V_alloc | apply Kd.V_drewN | apply Kd.V_drew)); exact HL440_4.out) gb441 (Nat.le_of_eq hg.symm)) hb); replace HR440_4 := Aside0.mk (Kd.C_below (by repeat (first | (with_reducible exact HR440_4.out) | (with_reducible refine Kd.C_alloc ?_ _) | (with_reducible refine Kd.C_drewN ?_ _) | (with_reducible refine Kd.C_drew ?_) | exact HR440_4.out)) hb); replace HB := Aside0.mk (Qav (Zb) hb); clear hb hbox hg; obtain ⟨hcz11_0, hfz11_0⟩ := Zy (v := (.string (⟨#[]⟩ : ByteArray))) BK441.out 0; obtain ⟨hcz11_1, hfz11_1⟩ := Zy (v := (.int .i64 0)) BK441.out 1; obtain ⟨hcz11_2, hfz11_2⟩ := Zy (v := (.int .i64 0)) BK441.out 2; obtain ⟨hcz11_3, hfz11_3⟩ := Zy (v := (.int .i64 0)) BK441.out 3; obtain ⟨hcz11_4, hfz11_4⟩ := Zy (v := (.slice none 0 0)) BK441.out 4; obtain ⟨hcz11_5, hfz11_5⟩ := Zy (v := (.int .i64 0)) BK441.out 5) | ((with_reducible refine Qba (t := 128) (p := 8) rfl ?_); (try (rw [QbD w10]; generalize hq_ : World.drewN w10 _ = w10; have n0_ := Aside0.mk (Kd.N_at hq_ HO_15.out); have n1_ := Aside0.mk (Kd.V_at hq_ HL440_4.out); have n2_ := Aside0.mk (blk_at hq_ BK441.out); have n3_ := Aside0.mk (Kd.C_at hq_ HR440_4.out); have n4_ := Aside0.mk (Qcr hq_ HB.out); clear hq_ HO_15 HL440_4 BK441 HR440_4 HB; have HO_15 := n0_; have HL440_4 := n1_; have BK441 := n2_; have HR440_4 := n3_; have HB := n4_; clear n0_ n1_ n2_ n3_ n4_)); refine Qa6 (t := 128) (p := 8) (v := ?vo_w12) (w1 := ((((((w10.setCell ⟨gb441, 0, none⟩ (.string ((Qaa t436 x17_1).f0.f0))).setCell ⟨gb441, 1, none⟩ (.int .i64 ((Qaa t436 x17_1).f0.f1))).setCell ⟨gb441, 2, none⟩ (.int .i64 ((Qaa t436 x17_1).f0.f2))).setCell ⟨gb441, 3, none⟩ (.int .i64 ((Qaa t436 x17_1).f0.f3))).setCell ⟨gb441, 4, none⟩ (.slice A440_4 ((Qaa t436 x17_1).f1).length c440_4)).setCell ⟨gb441, 5, none⟩ (.int .i64 ((Qaa t436 x17_1).f2)))) ?hg ?ho ?hn ?hr ?_; (case ho => rfl); (case hg => rfl); (case hn => rfl); (case hr => first | (exact Qbl (cs := #[.string (⟨#[]⟩ : ByteArray), .int .i64 0, .int .i64 0, .int .i64 0, .slice none 0 0, .int .i64 0]) (seg := [.string ((Qaa t436 x17_1).f0.f0), .int .i64 ((Qaa t436 x17_1).f0.f1), .int .i64 ((Qaa t436 x17_1).f0.f2), .int .i64 ((Qaa t436 x17_1).f0.f3), .slice A440_4 ((Qaa t436 x17_1).f1).length c440_4, .int .i64 ((Qaa t436 x17_1).f2)]) BK441.out rfl (by first | rfl | (go_simp; done)) (by first | rfl | (go_simp; done)) (by rfl) (by first | rfl | kernel_rfl) (by simp) (by first | rfl | simp [Value.oneCell'])) | (go_simp; done) | (go_simp; rfl)); intro w12 hw; replace HO_15 : Aside0 (Kd.N k128 128 w12 w.heap.size (fun k_ => k_ ≠ gb441) (.slice (some ad440) t436.length co5) t436) := ⟨(by rw [hw]; exact (by (with_reducible repeat (first | apply Kd.N_alloc | apply Kd.N_drewN | apply Kd.N_drew)); exact Kd.N_mono (Kd.N_far (p := ⟨gb441, 5, none⟩) (Kd.N_far (p := ⟨gb441, 4, none⟩) (Kd.N_far (p := ⟨gb441, 3, none⟩) (Kd.N_far (p := ⟨gb441, 2, none⟩) (Kd.N_far (p := ⟨gb441, 1, none⟩) (Kd.N_far (p := ⟨gb441, 0, none⟩) (Kd.N_mono HO_15.out (fun k_ hk => (⟨hk, hk.2⟩ : _ ∧ k_ ≠ gb441))) (fun _ hk => hk.2) (.string ((Qaa t436 x17_1).f0.f0))) (fun _ hk => hk.2) (.int .i64 ((Qaa t436 x17_1).f0.f1))) (fun _ hk => hk.2) (.int .i64 ((Qaa t436 x17_1).f0.f2))) (fun _ hk => hk.2) (.int .i64 ((Qaa t436 x17_1).f0.f3))) (fun _ hk => hk.2) (.slice A440_4 ((Qaa t436 x17_1).f1).length c440_4)) (fun _ hk => hk.2) (.int .i64 ((Qaa t436 x17_1).f2))) (fun _ hk => hk.1.2)))⟩; replace HL440_4 : Aside0 (Kd.V (Kd.int .i64) 3 w12 w.heap.size (fun k_ => some k_ ≠ (.slice (some ad440) t436.length co5 : Value).ownBlock ∧ k_ ≠ gb441) (.slice A440_4 ((Qaa t436 x17_1).f1).length c440_4) ((Qaa t436 x17_1).f1)) := ⟨(by rw [hw]; exact (by (with_reducible repeat (first | apply Kd.V_alloc | apply Kd.V_drewN | apply Kd.V_drew)); exact Kd.V_mono (Kd.V_far (p := ⟨gb441, 5, none⟩) (Kd.V_far (p := ⟨gb441, 4, none⟩) (Kd.V_far (p := ⟨gb441, 3, none⟩) (Kd.V_far (p := ⟨gb441, 2, none⟩) (Kd.V_far (p := ⟨gb441, 1, none⟩) (Kd.V_far (p := ⟨gb441, 0, none⟩) (Kd.V_mono HL440_4.out (fun k_ hk => (⟨hk, hk.2⟩ : _ ∧ k_ ≠ gb441))) (fun _ hk => hk.2) (.string ((Qaa t436 x17_1).f0.f0))) (fun _ hk => hk.2) (.int .i64 ((Qaa t436 x17_1).f0.f1))) (fun _ hk => hk.2) (.int .i64 ((Qaa t436 x17_1).f0.f2))) (fun _ hk => hk.2) (.int .i64 ((Qaa t436 x17_1).f0.f3))) (fun _ hk => hk.2) (.slice A440_4 ((Qaa t436 x17_1).f1).length c440_4)) (fun _ hk => hk.2) (.int .i64 ((Qaa t436 x17_1).f2))) (fun _ hk => ⟨hk.1.1.2, hk.1.2⟩)))⟩; replace BK441 : Aside0 (w12.heap[gb441]? = some (.cells #[.string ((Qaa t436 x17_1).f0.f0), .int .i64 ((Qaa t436 x17_1).f0.f1), .int .i64 ((Qaa t436 x17_1).f0.f2), .int .i64 ((Qaa t436 x17_1).f0.f3), .slice A440_4 ((Qaa t436 x17_1).f1).length c440_4, .int .i64 ((Qaa t436 x17_1).f2)] 128 (0, 0))) := ⟨(by rw [hw]; exact (Zp2 BK441.out))⟩; replace HB : Aside0 (Below w.heap.size w w12) := ⟨(by rw [hw]; exact (Zc1 GE441.out))⟩; clear hw; have p442 : 0 ≤ (x17_1 : Int) := Ze; have q442 : x17_1 < (l0.length : Int) := Ze; obtain ⟨ad442, e442, hx442_0, hx442_1, hx442_2, hx442_3, hx442_4, hx442_5⟩ := at_T71 HR0.out x17_1 p442 q442; cases e442; replace hx442_0 := Zx HB.out hx442_0; replace hx442_1 := Zx HB.out hx442_1; replace hx442_2 := Zx HB.out hx442_2; replace hx442_3 := Zx HB.out hx442_3; replace hx442_4 := Zx HB.out hx442_4; replace hx442_5 := Zx HB.out hx442_5; replace p442 := eq_true p442; replace q442 := eq_true q442; have p443 : 0 ≤ (x17_1 : Int) := Ze; have q443 : x17_1 < (l0.length : Int) := Ze; obtain ⟨ad443, e443, hx443_0, hx443_1, hx443_2, hx443_3, hx443_4, hx443_5⟩ := at_T71 HR0.out x17_1 p443 q443; obtain rfl : ad442 = ad443 := (by injection e443); replace hx443_0 := Zx HB.out hx443_0; replace hx443_1 := Zx HB.out hx443_1; replace hx443_2 := Zx HB.out hx443_2; replace hx443_3 := Zx HB.out hx443_3; replace hx443_4 := Zx HB.out hx443_4; replace hx443_5 := Zx HB.out hx443_5; replace p443 := eq_true p443; replace q443 := eq_true q443; obtain ⟨hcz13_0, hfz13_0⟩ := Zy (v := (.string ((Qaa t436 x17_1).f0.f0))) BK441.out 0; obtain ⟨hcz13_1, hfz13_1⟩ := Zy (v := (.int .i64 ((Qaa t436 x17_1).f0.f1))) BK441.out 1; obtain ⟨hcz13_2, hfz13_2⟩ := Zy (v := (.int .i64 ((Qaa t436 x17_1).f0.f2))) BK441.out 2; obtain ⟨hcz13_3, hfz13_3⟩ := Zy (v := (.int .i64 ((Qaa t436 x17_1).f0.f3))) BK441.out 3; obtain ⟨hcz13_4, hfz13_4⟩ := Zy (v := (.slice A440_4 ((Qaa t436 x17_1).f1).length c440_4)) BK441.out 4; obtain ⟨hcz13_5, hfz13_5⟩ := Zy (v := (.int .i64 ((Qaa t436 x17_1).f2))) BK441.out 5)))
       go_roundg k1
       case measure => have := HK1.out; omega
       case rel => exact ⟨(wrap64 (x4_1 + (wrap64 ((wrap64 (((rd_T71 l0 x17_1).f1) - ((rd_T71 l0 x17_1).f2))) * ((Qaa t436 x17_1).f2))))), (wrap64 (x17_1 + 1)), (Zs), (Zs), H', ⟨by have := HK1.out; omega⟩, ⟨by (with_reducible repeat (first | apply Kd.N_alloc | apply Kd.N_drewN | apply Kd.N_drew)); exact Kd.N_mono HO_15.out (fun _ hk => trivial)⟩, ⟨Zc1 GE441.out⟩⟩
      rw [if_neg c9] at H
      exact absurd H (by simp)
     rw [if_neg c8] at H
     exact absurd H (by simp)
    rw [if_neg c7] at H
    exact absurd H (by simp)
   rw [if_neg c6] at H
   have c6b0 : decide (x17_1 < (t436.length : Int)) = F := decide_eq_false c6
   clear c6
   (try simp only [c6b0])
   simp only [Option.some.injEq, Prod.mk.injEq] at H
   obtain ⟨rfl, rfl⟩ := H
   go_wp2
   repeat (go_quiet (fail); try go_wp2)
   go_ret2
   exact ⟨Zq, Zb⟩
def Qap.l0 : Nat → List ByteArray → List (List (S71)) → List (S71) → Int → Int → Option (List ByteArray × (List (List (S71))))
 | 0, _, _, _, _, _ => none
 | k + 1, x2, x3, x10, x11, x12 => if x12 < x11 then (if 0 ≤ x12 then (if x12 < (x10.length : Int) then (if (x2.length : Int) = 0 then (if x2.length < 8796093022208 then (if x3.length < 5864062014805 then ((some (x3 ++ [[]] : List (List (S71)))).bind fun y411 => (if 0 ≤ (wrap64 ((y411.length : Int) - 1)) then (if (wrap64 ((y411.length : Int) - 1)) < (y411.length : Int) then (if (rd_L7 y411 (wrap64 ((y411.length : Int) - 1))).length < 2513169434916 then (Qap.l0 k (x2 ++ [(rd_T71 x10 x12).f0.f0]) (y411.set ((wrap64 ((y411.length : Int) - 1)) : Int).toNat ((rd_L7 y411 (wrap64 ((y411.length : Int) - 1))) ++ [(⟨(⟨(rd_T71 x10 x12).f0.f0, (rd_T71 x10 x12).f0.f1, (rd_T71 x10 x12).f0.f2, (rd_T71 x10 x12).f0.f3⟩ : S69), (rd_T71 x10 x12).f1, (rd_T71 x10 x12).f2⟩ : S71)])) x10 x11 (wrap64 (x12 + 1))) else (none)) else (none)) else (none))) else (none)) else (none)) else (if 0 ≤ (wrap64 ((x2.length : Int) - 1)) then (if (wrap64 ((x2.length : Int) - 1)) < (x2.length : Int) then (if (rdOf ByteArray.empty x2 (wrap64 ((x2.length : Int) - 1))).toList = ((rd_T71 x10 x12).f0.f0).toList then (if 0 ≤ (wrap64 ((x3.length : Int) - 1)) then (if (wrap64 ((x3.length : Int) - 1)) < (x3.length : Int) then (if (rd_L7 x3 (wrap64 ((x3.length : Int) - 1))).length < 2513169434916 then (Qap.l0 k x2 (x3.set ((wrap64 ((x3.length : Int) - 1)) : Int).toNat ((rd_L7 x3 (wrap64 ((x3.length : Int) - 1))) ++ [(⟨(⟨(rd_T71 x10 x12).f0.f0, (rd_T71 x10 x12).f0.f1, (rd_T71 x10 x12).f0.f2, (rd_T71 x10 x12).f0.f3⟩ : S69), (rd_T71 x10 x12).f1, (rd_T71 x10 x12).f2⟩ : S71)])) x10 x11 (wrap64 (x12 + 1))) else (none)) else (none)) else (none)) else (if x2.length < 8796093022208 then (if x3.length < 5864062014805 then ((some (x3 ++ [[]] : List (List (S71)))).bind fun y428 => (if 0 ≤ (wrap64 ((y428.length : Int) - 1)) then (if (wrap64 ((y428.length : Int) - 1)) < (y428.length : Int) then (if (rd_L7 y428 (wrap64 ((y428.length : Int) - 1))).length < 2513169434916 then (Qap.l0 k (x2 ++ [(rd_T71 x10 x12).f0.f0]) (y428.set ((wrap64 ((y428.length : Int) - 1)) : Int).toNat ((rd_L7 y428 (wrap64 ((y428.length : Int) - 1))) ++ [(⟨(⟨(rd_T71 x10 x12).f0.f0, (rd_T71 x10 x12).f0.f1, (rd_T71 x10 x12).f0.f2, (rd_T71 x10 x12).f0.f3⟩ : S69), (rd_T71 x10 x12).f1, (rd_T71 x10 x12).f2⟩ : S71)])) x10 x11 (wrap64 (x12 + 1))) else (none)) else (none)) else (none))) else (none)) else (none))) else (none)) else (none))) else (none)) else (none)) else (some (x2, x3))
def Qap.f (k : Nat) (l0 : List (S71)) : Option (List ByteArray × (List (List (S71)))) := (Qal.f k l0).bind fun t405 => (if t405 = 0 then (Qap.l0 k ([] : List ByteArray) ([] : List (List (S71))) l0 (l0.length : Int) 0) else (some (([] : List ByteArray), ([] : List (List (S71))))))
theorem Qap.mono_l : ∀ k, (∀ y0 y1 y2 y3 y4, LeO (Qap.l0 k y0 y1 y2 y3 y4) (Qap.l0 (k + 1) y0 y1 y2 y3 y4))
 | 0 => fun _ _ _ _ _ r h => by simp [Qap.l0] at h
 | k + 1 => by
  have ih0 := Qap.mono_l k
  intro y0 y1 y2 y3 y4
  unfold Qap.l0
  exact ZM2 ih0 Qal.mono
theorem Qap.mono : ∀ a0 k, LeO (Qap.f k a0) (Qap.f (k + 1) a0) := by
 intro a0 k
 have ih0 := Qap.mono_l k
 unfold Qap.f
 exact ZM2 ih0 Qal.mono
def Qap.T7 : Bool × List (List Nat × List Nat) := (T, [([], []), ([0], [0]), ([1], [1]), ([2], [2]), ([2], [2]), ([4, 2], [2, 4]), ([3, 5, 2], [2, 3, 5]), ([6, 2], [2, 6]), ([2], [2]), ([8, 2], [2, 8]), ([9, 2], [2, 9]), ([7, 10, 2], [2, 7, 10]), ([2, 11], [2, 11])])
def Qap.B7 : List Nat := [0, 1, 3, 7, 7, 23, 63, 127, 7, 263, 775, 2047, 4095]
theorem Qap.tab7 : rtab .any (opsOf Try.f14 7) = Qap.T7 := by kernel_rfl
theorem Qap.bits7 : Qbg Qap.T7.2 Qap.B7 = T := by kernel_rfl
def Qap.T10 : Bool × List (List Nat × List Nat) := (T, [([], []), ([], []), ([1], [1]), ([2], [2]), ([], []), ([], []), ([5], [5]), ([6], [6]), ([4, 7], [4, 7]), ([8], [8]), ([], []), ([10], [10]), ([9, 11], [9, 11]), ([0, 3, 0, 1, 2, 3, 4, 5, 6, 7, 8, 9, 10, 11, 12], [0, 3]), ([13, 12, 12, 0, 1, 2, 3, 4, 5, 6, 7, 8, 9, 10, 11, 12], [12, 13])])
def Qap.B10 : List Nat := [0, 0, 2, 6, 0, 0, 32, 96, 240, 496, 0, 1024, 4080, 8191, 16383]
theorem Qap.tab10 : rtab .any (opsOf Try.f14 10) = Qap.T10 := by kernel_rfl
theorem Qap.bits10 : Qbg Qap.T10.2 Qap.B10 = T := by kernel_rfl
theorem Qap.calls (k : Nat) (A0 : Option Addr) (c0 : Nat) (l0 : List (S71)) (r1 : List ByteArray) (r2 : List (List (S71))) (w : World) (hr0 : Kd.C k71 w A0 l0.length l0) (hc0 : l0.length ≤ c0) (h : Qap.f k l0 = some (r1, r2)) :
  Calls Try.prog 14 #[.slice A0 l0.length c0] w fun e w' => ∃ v0_ v1_ : Value, e = .returned (.tuple #[v0_, v1_]) ∧ Kd.R Kd.string 9 w' w.heap.size (fun _ => True) v0_ r1 ∧ Kd.S (Kd.slice 71 k71) 22 w' w.heap.size (fun _ => True) v1_ r2 ∧ Below w.heap.size w w' := by
 have hu71 := Try.underlying71
 have HR0 := Aside0.mk hr0
 have HC0 := Aside0.mk hc0
 clear hr0 hc0
 have HB := Aside0.mk (Below.refl w.heap.size w)
 have H : ((Qal.f k l0).bind fun t405 => (if t405 = 0 then (Qap.l0 k ([] : List ByteArray) ([] : List (List (S71))) l0 (l0.length : Int) 0) else (some (([] : List ByteArray), ([] : List (List (S71))))))) = some (r1, r2) := h
 clear h
 replace H := Option.bind_eq_some_iff.mp H
 obtain ⟨t405, A20, H⟩ := H
 replace H : (if t405 = 0 then (Qap.l0 k ([] : List ByteArray) ([] : List (List (S71))) l0 (l0.length : Int) 0) else (some (([] : List ByteArray), ([] : List (List (S71)))))) = some (r1, r2) := H
 have A2 := Aside0.mk A20
 clear A20
 go_enter Try.func14, Try.ntmps14
 go_upto_if 9 with (first | ((with_reducible refine QaF (f := 9) rfl ?_); refine goesL_ (some 8) rfl rfl Try.func9 (by kernel_rfl) rfl #[.slice A0 l0.length c0] rfl (Zl) ?_; (with_reducible refine (Qal.calls k _ _ l0 t405 _ ?side1 ?side2 A2.out).mono ?_); (case side1 => exact Zv HR0.out); (case side2 => exact HC0.out); rintro e w3 ⟨rfl, hb⟩; refine ⟨_, rfl, ?_⟩; replace HB := Aside0.mk (Qav (Zb) hb); (try clear hb); (try clear hb2); (try clear hk); (try clear hi)))
 (try simp only [Act.put, Zj, Zk, Zm])
 by_cases c4 : t405 = 0
 ·rw [if_pos c4] at H
  have c4b0 : (t405 == 0) = T := beq_iff_eq.mpr c4
  have c4b1 : (t405 != 0) = F := bne_eq_false_iff_eq.mpr c4
  clear c4
  (try simp only [c4b0, c4b1])
  have H' := Aside0.mk H
  clear H
  go_wp2
  go_loopg [2, 3, 12] k (fun kq v2 v3 v12 w' => ∃ (x2_1 : List ByteArray) (x3_1 : List (List (S71))) (x12_1 : Int), v12 = .int .i64 x12_1 ∧ Aside0 (Qap.l0 kq x2_1 x3_1 l0 (l0.length : Int) x12_1 = some (r1, r2)) ∧ Aside0 (kq ≤ k) ∧ Aside0 (Kd.R Kd.string 9 w' w.heap.size (fun _ => True) v2 x2_1) ∧ Aside0 (Kd.S (Kd.slice 71 k71) 22 w' w.heap.size (fun _ => True) v3 x3_1) ∧ Aside0 (Below w.heap.size w w'))
  case atStart => exact ⟨(([] : List ByteArray)), (([] : List (List (S71)))), (0), (Zs), H', ⟨Nat.le_refl _⟩, ⟨by first | exact Kd.R_nil _ _ _ _ _ | exact Kd.N_nil _ _ _ _ _ | exact Kd.V_nil _ _ _ _ _ | exact Kd.Q_nil _ _ _ _ _ | exact Kd.S_nil _ _ _ _ _⟩, ⟨by first | exact Kd.S_nil _ _ _ _ _ | exact Kd.N_nil _ _ _ _ _ | exact Kd.V_nil _ _ _ _ _ | exact Kd.Q_nil _ _ _ _ _ | exact Kd.R_nil _ _ _ _ _⟩, ⟨Zb⟩⟩
  case round =>
   clear H'
   try clear c1
   try clear p2
   try clear c4
   try clear c4b0
   try clear c4b1
   obtain ⟨x2_1, x3_1, x12_1, rfl, HA, HK1, HO_2, HO_3, HB⟩ := hrel
   cases gk with
   | zero => exact absurd HA.out (by simp [Qap.l0])
   | succ k1 =>
    have H := HA.out
    clear HA
    simp only [Qap.l0] at H
    by_cases c5 : x12_1 < (l0.length : Int)
    ·rw [if_pos c5] at H
     have c5b0 : decide (x12_1 < (l0.length : Int)) = T := decide_eq_true c5
     clear c5
     (try simp only [c5b0])
     by_cases c6 : 0 ≤ x12_1
     ·rw [if_pos c6] at H
      have c6b0 : decide (0 ≤ x12_1) = T := decide_eq_true c6
      clear c6
      by_cases c7 : x12_1 < (l0.length : Int)
      ·rw [if_pos c7] at H
       have c7b0 : decide (x12_1 < (l0.length : Int)) = T := decide_eq_true c7
       clear c7
       by_cases c8 : (x2_1.length : Int) = 0
       ·rw [if_pos c8] at H
        have c8b0 : ((x2_1.length : Int) == 0) = T := beq_iff_eq.mpr c8
        have c8b1 : ((x2_1.length : Int) != 0) = F := bne_eq_false_iff_eq.mpr c8
        clear c8
        by_cases c9 : x2_1.length < 8796093022208
        ·rw [if_pos c9] at H
         have LMc9 := Aside0.mk c9
         clear c9
         obtain ⟨y408, hy408⟩ : ∃ y_ : List ByteArray, y_ = (x2_1 ++ [(rd_T71 l0 x12_1).f0.f0]) := ⟨_, rfl⟩
         replace H : (if x3_1.length < 5864062014805 then ((some (x3_1 ++ [[]] : List (List (S71)))).bind fun y411 => (if 0 ≤ (wrap64 ((y411.length : Int) - 1)) then (if (wrap64 ((y411.length : Int) - 1)) < (y411.length : Int) then (if (rd_L7 y411 (wrap64 ((y411.length : Int) - 1))).length < 2513169434916 then (Qap.l0 k1 y408 (y411.set ((wrap64 ((y411.length : Int) - 1)) : Int).toNat ((rd_L7 y411 (wrap64 ((y411.length : Int) - 1))) ++ [(⟨(⟨(rd_T71 l0 x12_1).f0.f0, (rd_T71 l0 x12_1).f0.f1, (rd_T71 l0 x12_1).f0.f2, (rd_T71 l0 x12_1).f0.f3⟩ : S69), (rd_T71 l0 x12_1).f1, (rd_T71 l0 x12_1).f2⟩ : S71)])) l0 (l0.length : Int) (wrap64 (x12_1 + 1))) else (none)) else (none)) else (none))) else (none)) = some (r1, r2) := by first | (rw [hy408]; with_reducible exact H) | (have H2_ := (Option.bind_some _ _).symm.trans H; rw [hy408]; with_reducible exact H2_) | (have H2_ := (Option.bind_some _ _).symm.trans H; with_reducible exact H2_) | with_reducible exact H | (rw [hy408]; exact H) | exact H
         have Ny408 := Aside0.mk hy408
         clear hy408
         by_cases c10 : x3_1.length < 5864062014805
         ·rw [if_pos c10] at H
          have LMc10 := Aside0.mk c10
          clear c10
          obtain ⟨y411, hy411⟩ : ∃ y_ : List (List (S71)), y_ = (x3_1 ++ [[]]) := ⟨_, rfl⟩
          replace H : (if 0 ≤ (wrap64 ((y411.length : Int) - 1)) then (if (wrap64 ((y411.length : Int) - 1)) < (y411.length : Int) then (if (rd_L7 y411 (wrap64 ((y411.length : Int) - 1))).length < 2513169434916 then (Qap.l0 k1 y408 (y411.set ((wrap64 ((y411.length : Int) - 1)) : Int).toNat ((rd_L7 y411 (wrap64 ((y411.length : Int) - 1))) ++ [(⟨(⟨(rd_T71 l0 x12_1).f0.f0, (rd_T71 l0 x12_1).f0.f1, (rd_T71 l0 x12_1).f0.f2, (rd_T71 l0 x12_1).f0.f3⟩ : S69), (rd_T71 l0 x12_1).f1, (rd_T71 l0 x12_1).f2⟩ : S71)])) l0 (l0.length : Int) (wrap64 (x12_1 + 1))) else (none)) else (none)) else (none)) = some (r1, r2) := by first | (rw [hy411]; with_reducible exact H) | (have H2_ := (Option.bind_some _ _).symm.trans H; rw [hy411]; with_reducible exact H2_) | (have H2_ := (Option.bind_some _ _).symm.trans H; with_reducible exact H2_) | with_reducible exact H | (rw [hy411]; exact H) | exact H
          have Ny411 := Aside0.mk hy411
          clear hy411
          obtain ⟨ji11, hji11⟩ : ∃ j_ : Int, (wrap64 ((y411.length : Int) - 1)) = j_ := ⟨_, rfl⟩
          replace H : (if 0 ≤ (ji11) then (if (ji11) < (y411.length : Int) then (if (rd_L7 y411 (ji11)).length < 2513169434916 then (Qap.l0 k1 y408 (y411.set ((ji11) : Int).toNat ((rd_L7 y411 (ji11)) ++ [(⟨(⟨(rd_T71 l0 x12_1).f0.f0, (rd_T71 l0 x12_1).f0.f1, (rd_T71 l0 x12_1).f0.f2, (rd_T71 l0 x12_1).f0.f3⟩ : S69), (rd_T71 l0 x12_1).f1, (rd_T71 l0 x12_1).f2⟩ : S71)])) l0 (l0.length : Int) (wrap64 (x12_1 + 1))) else (none)) else (none)) else (none)) = some (r1, r2) := by first | (rw [hji11] at H; exact H) | (simp only [hji11] at H ⊢; exact H)
          have hji11w : (IntKind.i64.wrap ((y411.length : Int) - 1)) = ji11 := (i64_w _).trans hji11
          by_cases c12 : 0 ≤ (ji11)
          ·rw [if_pos c12] at H
           have c12b0 : decide (0 ≤ (ji11)) = T := decide_eq_true c12
           clear c12
           by_cases c13 : (ji11) < (y411.length : Int)
           ·rw [if_pos c13] at H
            have c13b0 : decide ((ji11) < (y411.length : Int)) = T := decide_eq_true c13
            clear c13
            by_cases c14 : (rd_L7 y411 (ji11)).length < 2513169434916
            ·rw [if_pos c14] at H
             have LMc14 := Aside0.mk c14
             clear c14
             obtain ⟨y415, hy415⟩ : ∃ y_ : List (S71), y_ = ((rd_L7 y411 (ji11)) ++ [(⟨(⟨(rd_T71 l0 x12_1).f0.f0, (rd_T71 l0 x12_1).f0.f1, (rd_T71 l0 x12_1).f0.f2, (rd_T71 l0 x12_1).f0.f3⟩ : S69), (rd_T71 l0 x12_1).f1, (rd_T71 l0 x12_1).f2⟩ : S71)]) := ⟨_, rfl⟩
             replace H : (Qap.l0 k1 y408 (y411.set ((ji11) : Int).toNat y415) l0 (l0.length : Int) (wrap64 (x12_1 + 1))) = some (r1, r2) := by first | (rw [hy415]; with_reducible exact H) | (have H2_ := (Option.bind_some _ _).symm.trans H; rw [hy415]; with_reducible exact H2_) | (have H2_ := (Option.bind_some _ _).symm.trans H; with_reducible exact H2_) | with_reducible exact H | (rw [hy415]; exact H) | exact H
             have Ny415 := Aside0.mk hy415
             clear hy415
             obtain ⟨y418, hy418⟩ : ∃ y_ : List (List (S71)), y_ = (y411.set ((ji11) : Int).toNat y415) := ⟨_, rfl⟩
             replace H : (Qap.l0 k1 y408 y418 l0 (l0.length : Int) (wrap64 (x12_1 + 1))) = some (r1, r2) := by first | (rw [hy418]; with_reducible exact H) | (have H2_ := (Option.bind_some _ _).symm.trans H; rw [hy418]; with_reducible exact H2_) | (have H2_ := (Option.bind_some _ _).symm.trans H; with_reducible exact H2_) | with_reducible exact H | (rw [hy418]; exact H) | exact H
             have Ny418 := Aside0.mk hy418
             clear hy418
             have H' := Aside0.mk H
             clear H
             have p406 : 0 ≤ (x12_1 : Int) := Ze
             have q406 : x12_1 < (l0.length : Int) := Ze
             obtain ⟨ad406, e406, hx406_0, hx406_1, hx406_2, hx406_3, hx406_4, hx406_5⟩ := at_T71 HR0.out x12_1 p406 q406
             cases e406
             replace hx406_0 := Zx HB.out hx406_0
             replace hx406_1 := Zx HB.out hx406_1
             replace hx406_2 := Zx HB.out hx406_2
             replace hx406_3 := Zx HB.out hx406_3
             replace hx406_4 := Zx HB.out hx406_4
             replace hx406_5 := Zx HB.out hx406_5
             replace p406 := eq_true p406
             replace q406 := eq_true q406
             try go_wp2_with (first | ((with_reducible refine QaX (N := 5) rfl ?_); refine Zbx (N := 5) (cs := #[.string (⟨#[]⟩ : ByteArray), .int .i64 0, .int .i64 0, .int .i64 0, .int .i64 0, .int .i64 0]) (t := 71) ?_; intro gb407 hg w16 hbox hb; have BK407 := Aside0.mk (hbox); have GW407 := Aside0.mk (Zt w hg (Zb)); have GE407 := GW407; replace HO_2 := Aside0.mk (Kd.R_below (Zr HO_2.out) hb); replace HO_3 := Aside0.mk (Kd.S_below (Kd.S_elderB (by (with_reducible repeat (first | apply Kd.S_alloc | apply Kd.S_drewN | apply Kd.S_drew)); exact HO_3.out) gb407 (Nat.le_of_eq hg.symm)) hb); replace HB := Aside0.mk (Qav (Zb) hb); clear hb hbox hg; obtain ⟨hcz17_0, hfz17_0⟩ := Zy (v := (.string (⟨#[]⟩ : ByteArray))) BK407.out 0; obtain ⟨hcz17_1, hfz17_1⟩ := Zy (v := (.int .i64 0)) BK407.out 1; obtain ⟨hcz17_2, hfz17_2⟩ := Zy (v := (.int .i64 0)) BK407.out 2; obtain ⟨hcz17_3, hfz17_3⟩ := Zy (v := (.int .i64 0)) BK407.out 3; obtain ⟨hcz17_4, hfz17_4⟩ := Zy (v := (.int .i64 0)) BK407.out 4; obtain ⟨hcz17_5, hfz17_5⟩ := Zy (v := (.int .i64 0)) BK407.out 5; obtain ⟨Ao18, co18, eo18⟩ := Kd.R_slice HO_2.out; subst eo18))
             have n0_ : Aside0 (Kd.R Kd.string 9 ((((((w16.setCell ⟨gb407, 0, none⟩ (.string ((rd_T71 l0 x12_1).f0.f0))).setCell ⟨gb407, 1, none⟩ (.int .i64 ((rd_T71 l0 x12_1).f0.f1))).setCell ⟨gb407, 2, none⟩ (.int .i64 ((rd_T71 l0 x12_1).f0.f2))).setCell ⟨gb407, 3, none⟩ (.int .i64 ((rd_T71 l0 x12_1).f0.f3))).setCell ⟨gb407, 4, none⟩ (.int .i64 ((rd_T71 l0 x12_1).f1))).setCell ⟨gb407, 5, none⟩ (.int .i64 ((rd_T71 l0 x12_1).f2))) w.heap.size (fun _ => True) (.slice Ao18 x2_1.length co18) x2_1) := ⟨by (with_reducible repeat (first | apply Kd.R_alloc | apply Kd.R_drewN | apply Kd.R_drew)); exact Kd.R_mono (Kd.R_far (p := ⟨gb407, 5, none⟩) (Kd.R_far (p := ⟨gb407, 4, none⟩) (Kd.R_far (p := ⟨gb407, 3, none⟩) (Kd.R_far (p := ⟨gb407, 2, none⟩) (Kd.R_far (p := ⟨gb407, 1, none⟩) (Kd.R_far (p := ⟨gb407, 0, none⟩) (Kd.R_types HO_2.out BK407.out (by decide)) (fun _ hk => hk.2) (.string ((rd_T71 l0 x12_1).f0.f0))) (fun _ hk => hk.2) (.int .i64 ((rd_T71 l0 x12_1).f0.f1))) (fun _ hk => hk.2) (.int .i64 ((rd_T71 l0 x12_1).f0.f2))) (fun _ hk => hk.2) (.int .i64 ((rd_T71 l0 x12_1).f0.f3))) (fun _ hk => hk.2) (.int .i64 ((rd_T71 l0 x12_1).f1))) (fun _ hk => hk.2) (.int .i64 ((rd_T71 l0 x12_1).f2))) (fun _ hk => trivial)⟩
             have n1_ : Aside0 (Kd.S (Kd.slice 71 k71) 22 ((((((w16.setCell ⟨gb407, 0, none⟩ (.string ((rd_T71 l0 x12_1).f0.f0))).setCell ⟨gb407, 1, none⟩ (.int .i64 ((rd_T71 l0 x12_1).f0.f1))).setCell ⟨gb407, 2, none⟩ (.int .i64 ((rd_T71 l0 x12_1).f0.f2))).setCell ⟨gb407, 3, none⟩ (.int .i64 ((rd_T71 l0 x12_1).f0.f3))).setCell ⟨gb407, 4, none⟩ (.int .i64 ((rd_T71 l0 x12_1).f1))).setCell ⟨gb407, 5, none⟩ (.int .i64 ((rd_T71 l0 x12_1).f2))) w.heap.size (fun k_ => k_ ≠ gb407) u3 x3_1) := ⟨by (with_reducible repeat (first | apply Kd.S_alloc | apply Kd.S_drewN | apply Kd.S_drew)); exact Kd.S_mono (Kd.S_far (p := ⟨gb407, 5, none⟩) (Kd.S_far (p := ⟨gb407, 4, none⟩) (Kd.S_far (p := ⟨gb407, 3, none⟩) (Kd.S_far (p := ⟨gb407, 2, none⟩) (Kd.S_far (p := ⟨gb407, 1, none⟩) (Kd.S_far (p := ⟨gb407, 0, none⟩) (Kd.S_mono HO_3.out (fun k_ hk => (⟨hk, hk.2⟩ : _ ∧ k_ ≠ gb407))) (fun _ hk => hk.2) (.string ((rd_T71 l0 x12_1).f0.f0))) (fun _ hk => hk.2) (.int .i64 ((rd_T71 l0 x12_1).f0.f1))) (fun _ hk => hk.2) (.int .i64 ((rd_T71 l0 x12_1).f0.f2))) (fun _ hk => hk.2) (.int .i64 ((rd_T71 l0 x12_1).f0.f3))) (fun _ hk => hk.2) (.int .i64 ((rd_T71 l0 x12_1).f1))) (fun _ hk => hk.2) (.int .i64 ((rd_T71 l0 x12_1).f2))) (fun _ hk => hk.1.2)⟩
             have n2_ : Aside0 (((((((w16.setCell ⟨gb407, 0, none⟩ (.string ((rd_T71 l0 x12_1).f0.f0))).setCell ⟨gb407, 1, none⟩ (.int .i64 ((rd_T71 l0 x12_1).f0.f1))).setCell ⟨gb407, 2, none⟩ (.int .i64 ((rd_T71 l0 x12_1).f0.f2))).setCell ⟨gb407, 3, none⟩ (.int .i64 ((rd_T71 l0 x12_1).f0.f3))).setCell ⟨gb407, 4, none⟩ (.int .i64 ((rd_T71 l0 x12_1).f1))).setCell ⟨gb407, 5, none⟩ (.int .i64 ((rd_T71 l0 x12_1).f2))).heap[gb407]? = some (.cells #[.string ((rd_T71 l0 x12_1).f0.f0), .int .i64 ((rd_T71 l0 x12_1).f0.f1), .int .i64 ((rd_T71 l0 x12_1).f0.f2), .int .i64 ((rd_T71 l0 x12_1).f0.f3), .int .i64 ((rd_T71 l0 x12_1).f1), .int .i64 ((rd_T71 l0 x12_1).f2)] 71 (0, 0))) := ⟨Zp2 BK407.out⟩
             have n3_ : Aside0 (Below w.heap.size w ((((((w16.setCell ⟨gb407, 0, none⟩ (.string ((rd_T71 l0 x12_1).f0.f0))).setCell ⟨gb407, 1, none⟩ (.int .i64 ((rd_T71 l0 x12_1).f0.f1))).setCell ⟨gb407, 2, none⟩ (.int .i64 ((rd_T71 l0 x12_1).f0.f2))).setCell ⟨gb407, 3, none⟩ (.int .i64 ((rd_T71 l0 x12_1).f0.f3))).setCell ⟨gb407, 4, none⟩ (.int .i64 ((rd_T71 l0 x12_1).f1))).setCell ⟨gb407, 5, none⟩ (.int .i64 ((rd_T71 l0 x12_1).f2)))) := ⟨Zc1 GE407.out⟩
             (try clear HO_2)
             (try clear HO_3)
             (try clear BK407)
             (try clear HB)
             generalize ((((((w16.setCell ⟨gb407, 0, none⟩ (.string ((rd_T71 l0 x12_1).f0.f0))).setCell ⟨gb407, 1, none⟩ (.int .i64 ((rd_T71 l0 x12_1).f0.f1))).setCell ⟨gb407, 2, none⟩ (.int .i64 ((rd_T71 l0 x12_1).f0.f2))).setCell ⟨gb407, 3, none⟩ (.int .i64 ((rd_T71 l0 x12_1).f0.f3))).setCell ⟨gb407, 4, none⟩ (.int .i64 ((rd_T71 l0 x12_1).f1))).setCell ⟨gb407, 5, none⟩ (.int .i64 ((rd_T71 l0 x12_1).f2))) = w19 at n0_ n1_ n2_ n3_ ⊢
             have HO_2 := n0_
             have HO_3 := n1_
             have BK407 := n2_
             have HB := n3_
             clear n0_ n1_ n2_ n3_
             replace HO_2 := Aside0.mk (Kd.R_drew HO_2.out)
             replace HO_3 := Aside0.mk (Kd.S_drew HO_3.out)
             replace BK407 := Aside0.mk (Qah BK407.out)
             replace HB := Aside0.mk (Qad HB.out)
             refine start_ (n := 13) (S := fun w' => True) (ds := []) #[F, F, F, F, F, F, F, F, F, F, F, F, F] (by kernel_rfl) rfl rfl trivial (fun hHeld => ?_); refine Qa3 Qap.tab7 Qap.bits7 (fun HT_ HW_ => ?_)
             generalize w19.drew = w20 at HO_2 HO_3 BK407 HB hHeld ⊢
             refine Zsp (i := 0) (N := some 18) (pm 13 1) HT_ ?_
             refine Zsp (i := 1) (N := some 19) (pm 13 2) HT_ ?_
             refine Zsp (i := 2) (N := some 20) (pm 13 3) HT_ ?_
             refine Zso (i := 3) (N := some 21) (pm 13 4) HT_ ?_
             refine Zso (i := 4) (N := some 22) (pm 13 5) HT_ ?_
             refine Zso (i := 5) (N := some 23) (pm 13 6) HT_ ?_
             refine Zso (i := 6) (N := some 24) (pm 13 7) HT_ ?_
             refine Zso (i := 7) (N := some 25) (pm 13 8) HT_ ?_
             refine Zso (i := 8) (N := some 26) (pm 13 9) HT_ ?_
             refine Zso (i := 9) (N := some 27) (pm 13 10) HT_ ?_
             refine Zso (i := 10) (N := some 28) (pm 13 11) HT_ ?_
             refine Zso (i := 11) (N := some 29) (pm 13 12) HT_ ?_
             refine Zsp (i := 12) (N := some 30) (pm 13 13) HT_ ?_
             refine done_ (Qbc HT_.out (by kernel_rfl)) ?_
             obtain ⟨hcz21_0, hfz21_0⟩ := Zy (v := (.string ((rd_T71 l0 x12_1).f0.f0))) BK407.out 0
             obtain ⟨hcz21_1, hfz21_1⟩ := Zy (v := (.int .i64 ((rd_T71 l0 x12_1).f0.f1))) BK407.out 1
             obtain ⟨hcz21_2, hfz21_2⟩ := Zy (v := (.int .i64 ((rd_T71 l0 x12_1).f0.f2))) BK407.out 2
             obtain ⟨hcz21_3, hfz21_3⟩ := Zy (v := (.int .i64 ((rd_T71 l0 x12_1).f0.f3))) BK407.out 3
             obtain ⟨hcz21_4, hfz21_4⟩ := Zy (v := (.int .i64 ((rd_T71 l0 x12_1).f1))) BK407.out 4
             obtain ⟨hcz21_5, hfz21_5⟩ := Zy (v := (.int .i64 ((rd_T71 l0 x12_1).f2))) BK407.out 5
             try go_wp2_with (first | ((with_reducible refine Qa9 (b := .append) (xs := #[.tmp 31, .tmp 35]) rfl ?_); at_builtin; refine Kd.R_append Kd.string (w0 := w) w.heap.size rfl (.tmp 31) (.tmp 35) 43 9 (.string ⟨#[]⟩) 16 rfl Try.underlying43 info9 rfl (by decide) (by omega) (.slice Ao18 x2_1.length co18) x2_1 ((rd_T71 l0 x12_1).f0.f0) [.string ((rd_T71 l0 x12_1).f0.f0)] (fun _ => True) (fun _ => False) rfl rfl ?aP (fun _ hk => hk.elim) ?aF ?aO ?aB ?aS ?aL ?_; (case aP => exact rfl); (case aB => exact (Zc1 GE407.out)); (case aF => exact (fun _ _ => trivial)); (case aO => exact (Zr HO_2.out)); (case aS => exact (Qau (Zc1 GE407.out))); (case aL => have := LMc9.out; omega); intro v409 w22 ho hb hg hat; rw [← Ny408.out] at ho; have HO410 := Aside0.mk (ho); replace HO_3 := Aside0.mk (Kd.S_over' (by (with_reducible repeat (first | apply Kd.S_alloc | apply Kd.S_drewN | apply Kd.S_drew)); exact HO_3.out) (Kd.R_typed (Zr HO_2.out)) (by decide) hg); replace BK407 := Aside0.mk (QaN (g := gb407) (o := .cells #[.string ((rd_T71 l0 x12_1).f0.f0), .int .i64 ((rd_T71 l0 x12_1).f0.f1), .int .i64 ((rd_T71 l0 x12_1).f0.f2), .int .i64 ((rd_T71 l0 x12_1).f0.f3), .int .i64 ((rd_T71 l0 x12_1).f1), .int .i64 ((rd_T71 l0 x12_1).f2)] 71 (0, 0)) (Zu BK407.out) hg (Kd.R_ne HO_2.out BK407.out (by decide))); replace HB := Aside0.mk (hb); clear HO_2; clear ho hb hg hat) | ((with_reducible refine Qa9 (b := .append) (xs := #[.tmp 37, .tmp 38]) rfl ?_); at_builtin; refine Kd.S_append (Kd.slice 71 k71) (w0 := w) w.heap.size rfl (.tmp 37) (.tmp 38) 44 22 (.slice none 0 0) 24 rfl Try.underlying44 info22 rfl (by decide) (by omega) u3 x3_1 [] [.slice none 0 0] (fun k_ => k_ ≠ gb407) (fun _ => False) rfl rfl ?aP (fun _ hk => hk.elim) ?aF ?aO ?aB ?aS ?aL ?_; (case aP => exact ⟨_, rfl, Kd.R_nil _ _ _ _ _⟩); (case aB => exact (Zc1 GE407.out)); (case aF => exact (fun k_ hk => Kd.freshB (g := gb407) (o := .cells #[.string ((rd_T71 l0 x12_1).f0.f0), .int .i64 ((rd_T71 l0 x12_1).f0.f1), .int .i64 ((rd_T71 l0 x12_1).f0.f2), .int .i64 ((rd_T71 l0 x12_1).f0.f3), .int .i64 ((rd_T71 l0 x12_1).f1), .int .i64 ((rd_T71 l0 x12_1).f2)] 71 (0, 0)) (Zu BK407.out) k_ hk)); (case aO => exact (by (with_reducible repeat (first | apply Kd.S_alloc | apply Kd.S_drewN | apply Kd.S_drew)); exact Kd.S_mono HO_3.out (fun k_ hk => ⟨hk, fun e_ => e_⟩))); (case aS => exact (Qau (Zc1 GE407.out))); (case aL => have := LMc10.out; omega); intro v412 w23 ho hb hg hat; rw [← Ny411.out] at ho; have HO413 := Aside0.mk (ho); replace BK407 := Aside0.mk (QaN (g := gb407) (o := .cells #[.string ((rd_T71 l0 x12_1).f0.f0), .int .i64 ((rd_T71 l0 x12_1).f0.f1), .int .i64 ((rd_T71 l0 x12_1).f0.f2), .int .i64 ((rd_T71 l0 x12_1).f0.f3), .int .i64 ((rd_T71 l0 x12_1).f1), .int .i64 ((rd_T71 l0 x12_1).f2)] 71 (0, 0)) (Zu BK407.out) hg (Kd.S_ne HO_3.out BK407.out (by decide))); replace HO410 := Aside0.mk (Kd.R_over' (Zr HO410.out) (Kd.S_typed (by (with_reducible repeat (first | apply Kd.S_alloc | apply Kd.S_drewN | apply Kd.S_drew)); exact HO_3.out)) (by decide) hg); replace HB := Aside0.mk (hb); clear HO_3; clear ho hb hg hat))
             replace HO410 := Aside0.mk (Kd.R_drew HO410.out)
             replace HO413 := Aside0.mk (Kd.S_drew HO413.out)
             replace BK407 := Aside0.mk (Qah BK407.out)
             replace HB := Aside0.mk (Qad HB.out)
             obtain ⟨Ao25, co25, eo25⟩ := Kd.S_slice HO413.out
             (first | subst eo25 | (injection eo25 with f1_ f2_ f3_; have f4_ := f1_.symm; have f5_ := f3_.symm; clear f1_ f2_ f3_; subst f4_; subst f5_))
             have p414 : 0 ≤ ((ji11) : Int) := Ze
             have q414 : (ji11) < (y411.length : Int) := Ze
             obtain ⟨ad414, A414_0, c414_0, e414, hx414_0, hl414_0, hi414_0⟩ := at_L7 (Kd.S_reads' HO413.out).2.2 (ji11) p414 q414
             cases e414
             obtain ⟨ce414, hce414, hMe414, hcc414⟩ := Kd.S_get HO413.out [] (ji11) p414 (by first | exact q414 | exact Ze | (have e_ := (Kd.S_reads' HO413.out).1; omega))
             obtain ⟨ve414_0, rfl, ge414_0⟩ := hMe414
             have hv414_0 := hcc414 0 _ rfl
             rw [Nat.add_zero, show ((Kd.slice 71 k71)).sz = 1 from rfl, Nat.mul_one] at hv414_0
             replace hv414_0 := Option.some.inj (hv414_0.symm.trans hx414_0)
             rw [hv414_0] at ge414_0
             have HL414_0 := Aside0.mk (show Kd.R k71 71 _ _ _ _ (rd_L7 y411 (ji11)) from ge414_0)
             clear hv414_0 ge414_0
             have HX414_0 := Aside0.mk hx414_0
             clear hcc414 hce414
             have HR414_0 := Aside0.mk hi414_0
             have HC414_0 := Aside0.mk hl414_0
             clear hi414_0 hl414_0
             replace p414 := eq_true p414
             replace q414 := eq_true q414
             obtain ⟨go26, co26, eo26, gb26, gl26, cl26, HG26⟩ := Kd.S_form HO413.out (by have h_ : ((ji11) : Int) < ((y411.length : Int) : Int) := Ze; have h2_ : 0 ≤ ((ji11) : Int) := (Ze); omega)
             (first | cases eo26 | (injection eo26 with ea_ en_ ec_; (first | subst ea_ | (injection ea_ with ea_; subst ea_)); subst ec_; clear en_))
             have GB26 := Aside0.mk gb26
             have GG26 := Aside0.mk HG26
             clear gb26 gl26 HG26
             (first | simp only [QaT] at hx414_0 | skip)
             obtain ⟨oki26, ce26, hcl26, hM26, hcc26, _, _, hH26⟩ := Kd.S_elem HO413.out [] ((ji11) : Int) (Ze) (by have h_ : ((ji11) : Int) < ((y411.length : Int) : Int) := Ze; first | exact h_ | (have e_ := (Kd.S_reads' HO413.out).1; omega) | simpa using h_)
             obtain ⟨ve26_0, rfl, ge26_0⟩ := hM26
             have hv26 := hcc26 0 _ rfl
             have hX26 := HX414_0.out
             (try simp only [QaT] at hX26)
             (try simp only [Nat.add_zero] at hv26)
             (try rw [show ((Kd.slice 71 k71)).sz = 1 from rfl, Nat.mul_one] at hv26)
             replace hv26 := Option.some.inj (hv26.symm.trans hX26)
             subst hv26
             clear hX26 hcc26 hcl26
             have UU26 := Aside0.mk (show Kd.R k71 71 _ w.heap.size oki26 (.slice A414_0 (rd_L7 y411 (ji11)).length c414_0) (rd_L7 y411 (ji11)) from ge26_0)
             have HH26 := Aside0.mk hH26
             have HN26 := Aside0.mk (Kd.S_reads' HO413.out).1
             clear hH26 ge26_0
             refine start_ (n := 15) (S := fun w' => w'.cell? ⟨gb407, 0, none⟩ = some (.string ((rd_T71 l0 x12_1).f0.f0)) ∧ w'.cell? ⟨gb407, 1, none⟩ = some (.int .i64 ((rd_T71 l0 x12_1).f0.f1)) ∧ w'.cell? ⟨gb407, 2, none⟩ = some (.int .i64 ((rd_T71 l0 x12_1).f0.f2)) ∧ w'.cell? ⟨gb407, 3, none⟩ = some (.int .i64 ((rd_T71 l0 x12_1).f0.f3)) ∧ w'.cell? ⟨gb407, 4, none⟩ = some (.int .i64 ((rd_T71 l0 x12_1).f1)) ∧ w'.cell? ⟨gb407, 5, none⟩ = some (.int .i64 ((rd_T71 l0 x12_1).f2)) ∧ w'.cell? ⟨go26, ((ji11)).toNat, none⟩ = some (.slice A414_0 (rd_L7 y411 (ji11)).length c414_0)) (ds := [14]) #[F, F, F, F, F, F, F, F, F, F, F, F, F, F, F] (by kernel_rfl) rfl rfl ⟨(Qae BK407.out 0).trans rfl, (Qae BK407.out 1).trans rfl, (Qae BK407.out 2).trans rfl, (Qae BK407.out 3).trans rfl, (Qae BK407.out 4).trans rfl, (Qae BK407.out 5).trans rfl, hx414_0⟩ (fun hHeld => ?_); refine Qa3 Qap.tab10 Qap.bits10 (fun HT_ HW_ => ?_)
             generalize w23.drew = w24 at HO410 HO413 BK407 HB GG26 HH26 HL414_0 HR414_0 HX414_0 UU26 hx414_0 hHeld ⊢
             refine Zsp (i := 0) (N := some 40) (pm 15 1) HT_ ?_
             refine Zsp (i := 1) (N := some 41) (pm 15 2) HT_ ?_
             refine Zsp (i := 2) (N := some 42) (pm 15 3) HT_ ?_
             refine Zsp (i := 3) (N := some 43) (pm 15 4) HT_ ?_
             refine Zsp (i := 4) (N := some 44) (pm 15 5) HT_ ?_
             refine Zsp (i := 5) (N := some 45) (pm 15 6) HT_ ?_
             refine Zsp (i := 6) (N := some 46) (pm 15 7) HT_ ?_
             refine Zsp (i := 7) (N := some 47) (pm 15 8) HT_ ?_
             refine Zsp (i := 8) (N := some 48) (pm 15 9) HT_ ?_
             refine Zst (i := 9) (N := some 49) (pm 15 10) HT_ HW_ hHeld ?_ (hy := by (refine Or.inl ⟨by rfl, ?_⟩; rintro w' ⟨s0, s1, s2, s3, s4, s5, s6⟩; go_simp; with_reducible rfl))
             refine Zst (i := 10) (N := some 50) (pm 15 11) HT_ HW_ hHeld ?_ (hy := by (refine Or.inl ⟨by rfl, ?_⟩; rintro w' ⟨s0, s1, s2, s3, s4, s5, s6⟩; go_simp; with_reducible rfl))
             refine one_ (i := 11) (N := some 51) #[T, T, T, T, T, T, T, T, T, T, T, T, F, F, F] rfl rfl (one_of HT_.out (by kernel_rfl)) (by decide) (fun K hK => ?_)
             refine value_ (w1 := ?_) (v := ?_) (by rfl) rfl ?_ ?_
             rotate_left 2
             ·go_simp
              constructor
              ·rfl
              rfl
             refine hK.out _ _ ⟨(Qae (Qaf BK407.out _) 0).trans rfl, (Qae (Qaf BK407.out _) 1).trans rfl, (Qae (Qaf BK407.out _) 2).trans rfl, (Qae (Qaf BK407.out _) 3).trans rfl, (Qae (Qaf BK407.out _) 4).trans rfl, (Qae (Qaf BK407.out _) 5).trans rfl, (World.cell?_alloc_lt _ _ _ (World.block_lt_of_cell? _ _ (hHeld.2.2.2.2.2.2))).trans (hHeld.2.2.2.2.2.2)⟩ (fun hHeld => ?_)
             clear hK K
             refine norm_ (a' := ?_) ?_ ?_
             rotate_left
             ·show Act.put _ (some 51) _ = _
              simp only [Act.put, Zj, Zk, Zm, i64_w, i32_w]
              rfl
             refine one_ (i := 12) (N := some 52) #[T, T, T, T, T, T, T, T, T, T, T, T, T, F, F] rfl rfl (one_of HT_.out (by kernel_rfl)) (by decide) (fun K hK => ?_)
             refine Kd.R_append_step k71 (w0 := w) w.heap.size (by rfl) (.tmp 49) (.tmp 51) 22 71 (.agg #[(.string ⟨#[]⟩), (.int .i64 0), (.int .i64 0), (.int .i64 0), (.int .i64 0), (.int .i64 0)]) 56 rfl Try.underlying22 info71 rfl (by decide) (by omega) (.slice A414_0 (rd_L7 y411 (ji11)).length c414_0) (rd_L7 y411 (ji11)) (⟨(⟨(rd_T71 l0 x12_1).f0.f0, (rd_T71 l0 x12_1).f0.f1, (rd_T71 l0 x12_1).f0.f2, (rd_T71 l0 x12_1).f0.f3⟩ : S69), (rd_T71 l0 x12_1).f1, (rd_T71 l0 x12_1).f2⟩ : S71) [.string ((rd_T71 l0 x12_1).f0.f0), .int .i64 ((rd_T71 l0 x12_1).f0.f1), .int .i64 ((rd_T71 l0 x12_1).f0.f2), .int .i64 ((rd_T71 l0 x12_1).f0.f3), .int .i64 ((rd_T71 l0 x12_1).f1), .int .i64 ((rd_T71 l0 x12_1).f2)] (fun k_ => oki26 k_ ∨ ((fun k_ => k_ ≠ gb407)) k_ ∧ w24.heap.size ≤ k_) (fun _ => False) rfl rfl ?aP (fun _ hk => hk.elim) ?aF ?aO ?aB ?aS ?aL ?_
             (case aP => exact Qbx _ _ _ (⟨(⟨(rd_T71 l0 x12_1).f0.f0, (rd_T71 l0 x12_1).f0.f1, (rd_T71 l0 x12_1).f0.f2, (rd_T71 l0 x12_1).f0.f3⟩ : S69), (rd_T71 l0 x12_1).f1, (rd_T71 l0 x12_1).f2⟩ : S71))
             (case aB => exact (Zc1 GE407.out))
             (case aF => exact (fun k_ hk => .inr ⟨Kd.freshB (g := gb407) (o := .cells #[.string ((rd_T71 l0 x12_1).f0.f0), .int .i64 ((rd_T71 l0 x12_1).f0.f1), .int .i64 ((rd_T71 l0 x12_1).f0.f2), .int .i64 ((rd_T71 l0 x12_1).f0.f3), .int .i64 ((rd_T71 l0 x12_1).f1), .int .i64 ((rd_T71 l0 x12_1).f2)] 71 (0, 0)) (Zu BK407.out) k_ hk, hk⟩))
             (case aO => exact (by (with_reducible repeat (first | apply Kd.R_alloc | apply Kd.R_drewN | apply Kd.R_drew)); exact Kd.R_mono UU26.out (fun _ hk => .inl hk)))
             (case aS => exact (Qau (Zc1 GE407.out)))
             (case aL => have := LMc14.out; omega)
             intro v416 w27 ho hb hg hat
             (first | have HS6_ := cellg hg (hHeld.2.2.2.2.2.2) (by first | (rw [QaW]; exact (fun e_ => ((HL414_0.out.1 _ e_.symm).2) rfl)) | (show some (Addr.add _ _).block ≠ _; rw [QaW]; exact (fun e_ => ((HL414_0.out.1 _ e_.symm).2) rfl)) | exact (fun e_ => ((HL414_0.out.1 _ e_.symm).2) rfl)) | have HS6_ := cellg hg (QbG (hHeld.2.2.2.2.2.2) (by first | (rw [QaW]; exact Kd.S_lt HO413.out _ rfl) | (show (Addr.add _ _).block < _; rw [QaW]; exact Kd.S_lt HO413.out _ rfl) | exact Kd.S_lt HO413.out _ rfl)) (by first | (rw [QaW]; exact (fun e_ => ((HL414_0.out.1 _ e_.symm).2) rfl)) | (show some (Addr.add _ _).block ≠ _; rw [QaW]; exact (fun e_ => ((HL414_0.out.1 _ e_.symm).2) rfl)) | exact (fun e_ => ((HL414_0.out.1 _ e_.symm).2) rfl)))
             rw [← Ny415.out] at ho
             have HO417 := Aside0.mk (ho)
             replace BK407 := Aside0.mk (QaN (g := gb407) (o := .cells #[.string ((rd_T71 l0 x12_1).f0.f0), .int .i64 ((rd_T71 l0 x12_1).f0.f1), .int .i64 ((rd_T71 l0 x12_1).f0.f2), .int .i64 ((rd_T71 l0 x12_1).f0.f3), .int .i64 ((rd_T71 l0 x12_1).f1), .int .i64 ((rd_T71 l0 x12_1).f2)] 71 (0, 0)) (Zu BK407.out) hg (Kd.R_away HL414_0.out (fun _ hk => hk.1)))
             replace HO410 := Aside0.mk (Kd.R_over' (v := (.slice A414_0 (rd_L7 y411 (ji11)).length c414_0)) (Zr HO410.out) (Kd.R_typed HL414_0.out) (by decide) hg)
             replace HB := Aside0.mk (hb)
             replace HH26 := Aside0.mk (Kd.H_grown (Kd.H_widen (by repeat (first | exact HH26.out | refine Kd.H_alloc ?_ _ | refine Kd.H_drewN ?_ _ | refine Kd.H_drew ?_))) hg (fun k_ e_ => .inl (UU26.out.1 k_ e_)))
             clear HO413 UU26 HL414_0
             clear ho hb hg hat
             have p15 : 0 ≤ ((ji11) : Int) := Ze
             have q15 : ((ji11) : Int) < ((y411.length : Int) : Int) := Ze
             replace p15 := eq_true p15
             replace q15 := eq_true q15
             obtain ⟨Ao30, co30, eo30⟩ := Kd.R_slice HO417.out
             (first | subst eo30 | (injection eo30 with f1_ f2_ f3_; have f4_ := f1_.symm; have f5_ := f3_.symm; clear f1_ f2_ f3_; subst f4_; subst f5_))
             obtain ⟨_, _, hraw28, _, _, hcc28, _⟩ := Kd.H_raw HH26.out (Ze) (by have h_ : ((ji11) : Int) < ((y411.length : Int) : Int) := Ze; first | exact h_ | (have e_ := (HN26.out); omega) | simpa using h_)
             obtain ⟨_, hfr28⟩ := Kd.H_at HH26.out (Ze) (by have h_ : ((ji11) : Int) < ((y411.length : Int) : Int) := Ze; first | exact h_ | (have e_ := (HN26.out); omega) | simpa using h_)
             have hx28_0 := hcc28 0 _ rfl
             have hf28_0 := hfr28 0
             (try simp only [Nat.add_zero] at hx28_0 hf28_0)
             (try rw [show ((Kd.slice 71 k71)).sz = 1 from rfl, Nat.mul_one] at hx28_0)
             (try rw [show ((Kd.slice 71 k71)).sz = 1 from rfl, Nat.mul_one] at hf28_0)
             have HP28 := Kd.S_seg0 HH26.out (Ze) (by have h_ : ((ji11) : Int) < ((y411.length : Int) : Int) := Ze; first | exact h_ | (have e_ := (HN26.out); omega) | simpa using h_) (seg := [.slice Ao30 y415.length co30]) (j := 0) (show 1 ≤ 1 from by decide) (x' := y415) (Kd.M_row HO417.out) (fun _ hk => hk)
             (try simp only [show ((Kd.slice 71 k71)).sz = 1 from rfl, Nat.mul_one, Nat.add_zero] at HP28)
             clear hcc28 hfr28
             have HNB407_go26 := Aside0.mk (show gb407 ≠ go26 from by have h_ := Kd.R_ne hraw28 BK407.out (by decide); intro e_; exact h_ (by rw [e_]; rfl))
             have HS28 := HP28.1
             rw [← Ny418.out] at HS28
             have HQ28 := Aside0.mk HS28
             obtain ⟨_, hgg28⟩ := Kd.R_typed hraw28 go26 rfl
             have GG28_ := Aside0.mk hgg28
             clear HP28 HS28 hgg28
             refine hK.out _ _ ⟨(Qae BK407.out 0).trans rfl, (Qae BK407.out 1).trans rfl, (Qae BK407.out 2).trans rfl, (Qae BK407.out 3).trans rfl, (Qae BK407.out 4).trans rfl, (Qae BK407.out 5).trans rfl, HS6_⟩ (fun hHeld => ?_)
             clear hK K
             refine norm_ (a' := ?_) ?_ ?_
             rotate_left
             ·show Act.put _ (some 52) _ = _
              simp only [Act.put, Zj, Zk, Zm, i64_w, i32_w]
              rfl
             refine Zsp (i := 13) (N := some 53) (pm 15 14) HT_ ?_
             refine last_ (i := 14) (N := none) #[T, T, T, T, T, T, T, T, T, T, T, T, T, T, T] rfl rfl (one_of HT_.out (by kernel_rfl)) (by decide) (fun K hK => ?_)
             refine skip_ (w1 := ?_) (by rfl) rfl ?_ ?_
             rotate_left
             ·go_simp
              rfl
             refine hK.out _ _ ?_
             clear hK K
             refine done_ (Qbc HT_.out (by kernel_rfl)) ?_
             try go_wp2
             go_roundg k1
             case measure => have := HK1.out; omega
             case rel => exact ⟨(y408), (y418), (wrap64 (x12_1 + 1)), (Zs), H', ⟨by have := HK1.out; omega⟩, ⟨by (with_reducible repeat (first | apply Kd.R_alloc | apply Kd.R_drewN | apply Kd.R_drew)); exact Kd.R_mono (Kd.R_far (p := ⟨go26, ((ji11) : Int).toNat, none⟩) (Kd.R_types HO410.out GG28_.out (by decide)) (fun _ hk => hk.2) (.slice Ao30 y415.length co30)) (fun _ hk => trivial)⟩, ⟨by (with_reducible repeat (first | apply Kd.S_alloc | apply Kd.S_drewN | apply Kd.S_drew)); exact Kd.S_mono HQ28.out (fun _ hk => trivial)⟩, ⟨by repeat (first | (with_reducible first | exact HB.out | apply Qac | apply Qab | apply Qad | refine Qam ?_ GB26.out | refine Qam ?_ GE407.out) | exact HB.out)⟩⟩
            rw [if_neg c14] at H
            exact absurd H (by simp)
           rw [if_neg c13] at H
           exact absurd H (by simp)
          rw [if_neg c12] at H
          exact absurd H (by simp)
         rw [if_neg c10] at H
         exact absurd H (by simp)
        rw [if_neg c9] at H
        exact absurd H (by simp)
       rw [if_neg c8] at H
       have c8b0 : ((x2_1.length : Int) == 0) = F := beq_eq_false_iff_ne.mpr c8
       have c8b1 : ((x2_1.length : Int) != 0) = T := bne_iff_ne.mpr c8
       have c8b2 : ¬ (x2_1 = []) := fun h_ => c8 (by rw [h_]; rfl)
       obtain ⟨ji31, hji31⟩ : ∃ j_ : Int, (wrap64 ((x2_1.length : Int) - 1)) = j_ := ⟨_, rfl⟩
       replace H : (if 0 ≤ (ji31) then (if (ji31) < (x2_1.length : Int) then (if (rdOf ByteArray.empty x2_1 (ji31)).toList = ((rd_T71 l0 x12_1).f0.f0).toList then (if 0 ≤ (wrap64 ((x3_1.length : Int) - 1)) then (if (wrap64 ((x3_1.length : Int) - 1)) < (x3_1.length : Int) then (if (rd_L7 x3_1 (wrap64 ((x3_1.length : Int) - 1))).length < 2513169434916 then (Qap.l0 k1 x2_1 (x3_1.set ((wrap64 ((x3_1.length : Int) - 1)) : Int).toNat ((rd_L7 x3_1 (wrap64 ((x3_1.length : Int) - 1))) ++ [(⟨(⟨(rd_T71 l0 x12_1).f0.f0, (rd_T71 l0 x12_1).f0.f1, (rd_T71 l0 x12_1).f0.f2, (rd_T71 l0 x12_1).f0.f3⟩ : S69), (rd_T71 l0 x12_1).f1, (rd_T71 l0 x12_1).f2⟩ : S71)])) l0 (l0.length : Int) (wrap64 (x12_1 + 1))) else (none)) else (none)) else (none)) else (if x2_1.length < 8796093022208 then (if x3_1.length < 5864062014805 then ((some (x3_1 ++ [[]] : List (List (S71)))).bind fun y428 => (if 0 ≤ (wrap64 ((y428.length : Int) - 1)) then (if (wrap64 ((y428.length : Int) - 1)) < (y428.length : Int) then (if (rd_L7 y428 (wrap64 ((y428.length : Int) - 1))).length < 2513169434916 then (Qap.l0 k1 (x2_1 ++ [(rd_T71 l0 x12_1).f0.f0]) (y428.set ((wrap64 ((y428.length : Int) - 1)) : Int).toNat ((rd_L7 y428 (wrap64 ((y428.length : Int) - 1))) ++ [(⟨(⟨(rd_T71 l0 x12_1).f0.f0, (rd_T71 l0 x12_1).f0.f1, (rd_T71 l0 x12_1).f0.f2, (rd_T71 l0 x12_1).f0.f3⟩ : S69), (rd_T71 l0 x12_1).f1, (rd_T71 l0 x12_1).f2⟩ : S71)])) l0 (l0.length : Int) (wrap64 (x12_1 + 1))) else (none)) else (none)) else (none))) else (none)) else (none))) else (none)) else (none)) = some (r1, r2) := by first | (rw [hji31] at H; exact H) | (simp only [hji31] at H ⊢; exact H)
       have hji31w : (IntKind.i64.wrap ((x2_1.length : Int) - 1)) = ji31 := (i64_w _).trans hji31
       by_cases c32 : 0 ≤ (ji31)
       ·rw [if_pos c32] at H
        have c32b0 : decide (0 ≤ (ji31)) = T := decide_eq_true c32
        clear c32
        by_cases c33 : (ji31) < (x2_1.length : Int)
        ·rw [if_pos c33] at H
         have c33b0 : decide ((ji31) < (x2_1.length : Int)) = T := decide_eq_true c33
         clear c33
         have p406 : 0 ≤ (x12_1 : Int) := Ze
         have q406 : x12_1 < (l0.length : Int) := Ze
         obtain ⟨ad406, e406, hx406_0, hx406_1, hx406_2, hx406_3, hx406_4, hx406_5⟩ := at_T71 HR0.out x12_1 p406 q406
         cases e406
         replace hx406_0 := Zx HB.out hx406_0
         replace hx406_1 := Zx HB.out hx406_1
         replace hx406_2 := Zx HB.out hx406_2
         replace hx406_3 := Zx HB.out hx406_3
         replace hx406_4 := Zx HB.out hx406_4
         replace hx406_5 := Zx HB.out hx406_5
         replace p406 := eq_true p406
         replace q406 := eq_true q406
         try go_wp2_with (first | ((with_reducible refine QaX (N := 5) rfl ?_); refine Zbx (N := 5) (cs := #[.string (⟨#[]⟩ : ByteArray), .int .i64 0, .int .i64 0, .int .i64 0, .int .i64 0, .int .i64 0]) (t := 71) ?_; intro gb407 hg w34 hbox hb; have BK407 := Aside0.mk (hbox); have GW407 := Aside0.mk (Zt w hg (Zb)); have GE407 := GW407; replace HO_2 := Aside0.mk (Kd.R_below (Zr HO_2.out) hb); replace HO_3 := Aside0.mk (Kd.S_below (Kd.S_elderB (by (with_reducible repeat (first | apply Kd.S_alloc | apply Kd.S_drewN | apply Kd.S_drew)); exact HO_3.out) gb407 (Nat.le_of_eq hg.symm)) hb); replace HB := Aside0.mk (Qav (Zb) hb); clear hb hbox hg; obtain ⟨hcz35_0, hfz35_0⟩ := Zy (v := (.string (⟨#[]⟩ : ByteArray))) BK407.out 0; obtain ⟨hcz35_1, hfz35_1⟩ := Zy (v := (.int .i64 0)) BK407.out 1; obtain ⟨hcz35_2, hfz35_2⟩ := Zy (v := (.int .i64 0)) BK407.out 2; obtain ⟨hcz35_3, hfz35_3⟩ := Zy (v := (.int .i64 0)) BK407.out 3; obtain ⟨hcz35_4, hfz35_4⟩ := Zy (v := (.int .i64 0)) BK407.out 4; obtain ⟨hcz35_5, hfz35_5⟩ := Zy (v := (.int .i64 0)) BK407.out 5; obtain ⟨Ao36, co36, eo36⟩ := Kd.R_slice HO_2.out; subst eo36))
         have n0_ : Aside0 (Kd.R Kd.string 9 ((((((w34.setCell ⟨gb407, 0, none⟩ (.string ((rd_T71 l0 x12_1).f0.f0))).setCell ⟨gb407, 1, none⟩ (.int .i64 ((rd_T71 l0 x12_1).f0.f1))).setCell ⟨gb407, 2, none⟩ (.int .i64 ((rd_T71 l0 x12_1).f0.f2))).setCell ⟨gb407, 3, none⟩ (.int .i64 ((rd_T71 l0 x12_1).f0.f3))).setCell ⟨gb407, 4, none⟩ (.int .i64 ((rd_T71 l0 x12_1).f1))).setCell ⟨gb407, 5, none⟩ (.int .i64 ((rd_T71 l0 x12_1).f2))) w.heap.size (fun _ => True) (.slice Ao36 x2_1.length co36) x2_1) := ⟨by (with_reducible repeat (first | apply Kd.R_alloc | apply Kd.R_drewN | apply Kd.R_drew)); exact Kd.R_mono (Kd.R_far (p := ⟨gb407, 5, none⟩) (Kd.R_far (p := ⟨gb407, 4, none⟩) (Kd.R_far (p := ⟨gb407, 3, none⟩) (Kd.R_far (p := ⟨gb407, 2, none⟩) (Kd.R_far (p := ⟨gb407, 1, none⟩) (Kd.R_far (p := ⟨gb407, 0, none⟩) (Kd.R_types HO_2.out BK407.out (by decide)) (fun _ hk => hk.2) (.string ((rd_T71 l0 x12_1).f0.f0))) (fun _ hk => hk.2) (.int .i64 ((rd_T71 l0 x12_1).f0.f1))) (fun _ hk => hk.2) (.int .i64 ((rd_T71 l0 x12_1).f0.f2))) (fun _ hk => hk.2) (.int .i64 ((rd_T71 l0 x12_1).f0.f3))) (fun _ hk => hk.2) (.int .i64 ((rd_T71 l0 x12_1).f1))) (fun _ hk => hk.2) (.int .i64 ((rd_T71 l0 x12_1).f2))) (fun _ hk => trivial)⟩
         have n1_ : Aside0 (Kd.S (Kd.slice 71 k71) 22 ((((((w34.setCell ⟨gb407, 0, none⟩ (.string ((rd_T71 l0 x12_1).f0.f0))).setCell ⟨gb407, 1, none⟩ (.int .i64 ((rd_T71 l0 x12_1).f0.f1))).setCell ⟨gb407, 2, none⟩ (.int .i64 ((rd_T71 l0 x12_1).f0.f2))).setCell ⟨gb407, 3, none⟩ (.int .i64 ((rd_T71 l0 x12_1).f0.f3))).setCell ⟨gb407, 4, none⟩ (.int .i64 ((rd_T71 l0 x12_1).f1))).setCell ⟨gb407, 5, none⟩ (.int .i64 ((rd_T71 l0 x12_1).f2))) w.heap.size (fun k_ => k_ ≠ gb407) u3 x3_1) := ⟨by (with_reducible repeat (first | apply Kd.S_alloc | apply Kd.S_drewN | apply Kd.S_drew)); exact Kd.S_mono (Kd.S_far (p := ⟨gb407, 5, none⟩) (Kd.S_far (p := ⟨gb407, 4, none⟩) (Kd.S_far (p := ⟨gb407, 3, none⟩) (Kd.S_far (p := ⟨gb407, 2, none⟩) (Kd.S_far (p := ⟨gb407, 1, none⟩) (Kd.S_far (p := ⟨gb407, 0, none⟩) (Kd.S_mono HO_3.out (fun k_ hk => (⟨hk, hk.2⟩ : _ ∧ k_ ≠ gb407))) (fun _ hk => hk.2) (.string ((rd_T71 l0 x12_1).f0.f0))) (fun _ hk => hk.2) (.int .i64 ((rd_T71 l0 x12_1).f0.f1))) (fun _ hk => hk.2) (.int .i64 ((rd_T71 l0 x12_1).f0.f2))) (fun _ hk => hk.2) (.int .i64 ((rd_T71 l0 x12_1).f0.f3))) (fun _ hk => hk.2) (.int .i64 ((rd_T71 l0 x12_1).f1))) (fun _ hk => hk.2) (.int .i64 ((rd_T71 l0 x12_1).f2))) (fun _ hk => hk.1.2)⟩
         have n2_ : Aside0 (((((((w34.setCell ⟨gb407, 0, none⟩ (.string ((rd_T71 l0 x12_1).f0.f0))).setCell ⟨gb407, 1, none⟩ (.int .i64 ((rd_T71 l0 x12_1).f0.f1))).setCell ⟨gb407, 2, none⟩ (.int .i64 ((rd_T71 l0 x12_1).f0.f2))).setCell ⟨gb407, 3, none⟩ (.int .i64 ((rd_T71 l0 x12_1).f0.f3))).setCell ⟨gb407, 4, none⟩ (.int .i64 ((rd_T71 l0 x12_1).f1))).setCell ⟨gb407, 5, none⟩ (.int .i64 ((rd_T71 l0 x12_1).f2))).heap[gb407]? = some (.cells #[.string ((rd_T71 l0 x12_1).f0.f0), .int .i64 ((rd_T71 l0 x12_1).f0.f1), .int .i64 ((rd_T71 l0 x12_1).f0.f2), .int .i64 ((rd_T71 l0 x12_1).f0.f3), .int .i64 ((rd_T71 l0 x12_1).f1), .int .i64 ((rd_T71 l0 x12_1).f2)] 71 (0, 0))) := ⟨Zp2 BK407.out⟩
         have n3_ : Aside0 (Below w.heap.size w ((((((w34.setCell ⟨gb407, 0, none⟩ (.string ((rd_T71 l0 x12_1).f0.f0))).setCell ⟨gb407, 1, none⟩ (.int .i64 ((rd_T71 l0 x12_1).f0.f1))).setCell ⟨gb407, 2, none⟩ (.int .i64 ((rd_T71 l0 x12_1).f0.f2))).setCell ⟨gb407, 3, none⟩ (.int .i64 ((rd_T71 l0 x12_1).f0.f3))).setCell ⟨gb407, 4, none⟩ (.int .i64 ((rd_T71 l0 x12_1).f1))).setCell ⟨gb407, 5, none⟩ (.int .i64 ((rd_T71 l0 x12_1).f2)))) := ⟨Zc1 GE407.out⟩
         (try clear HO_2)
         (try clear HO_3)
         (try clear BK407)
         (try clear HB)
         generalize ((((((w34.setCell ⟨gb407, 0, none⟩ (.string ((rd_T71 l0 x12_1).f0.f0))).setCell ⟨gb407, 1, none⟩ (.int .i64 ((rd_T71 l0 x12_1).f0.f1))).setCell ⟨gb407, 2, none⟩ (.int .i64 ((rd_T71 l0 x12_1).f0.f2))).setCell ⟨gb407, 3, none⟩ (.int .i64 ((rd_T71 l0 x12_1).f0.f3))).setCell ⟨gb407, 4, none⟩ (.int .i64 ((rd_T71 l0 x12_1).f1))).setCell ⟨gb407, 5, none⟩ (.int .i64 ((rd_T71 l0 x12_1).f2))) = w37 at n0_ n1_ n2_ n3_ ⊢
         have HO_2 := n0_
         have HO_3 := n1_
         have BK407 := n2_
         have HB := n3_
         clear n0_ n1_ n2_ n3_
         replace HO_2 := Aside0.mk (Kd.R_drew HO_2.out)
         replace HO_3 := Aside0.mk (Kd.S_drew HO_3.out)
         replace BK407 := Aside0.mk (Qah BK407.out)
         replace HB := Aside0.mk (Qad HB.out)
         have p419 : 0 ≤ ((ji31) : Int) := Ze
         have q419 : (ji31) < (x2_1.length : Int) := Ze
         obtain ⟨ad419, e419, hx419_0⟩ := Kd.at_string (Kd.R_reads' HO_2.out).2.2 (ji31) p419 q419
         cases e419
         replace p419 := eq_true p419
         replace q419 := eq_true q419
         refine start_ (n := 13) (S := fun w' => w'.cell? ⟨gb407, 0, none⟩ = some (.string ((rd_T71 l0 x12_1).f0.f0)) ∧ w'.cell? ⟨gb407, 1, none⟩ = some (.int .i64 ((rd_T71 l0 x12_1).f0.f1)) ∧ w'.cell? ⟨gb407, 2, none⟩ = some (.int .i64 ((rd_T71 l0 x12_1).f0.f2)) ∧ w'.cell? ⟨gb407, 3, none⟩ = some (.int .i64 ((rd_T71 l0 x12_1).f0.f3)) ∧ w'.cell? ⟨gb407, 4, none⟩ = some (.int .i64 ((rd_T71 l0 x12_1).f1)) ∧ w'.cell? ⟨gb407, 5, none⟩ = some (.int .i64 ((rd_T71 l0 x12_1).f2)) ∧ w'.cell? (ad419.add ((ji31)).toNat) = some (.string (rdOf ByteArray.empty x2_1 (ji31)))) (ds := []) #[F, F, F, F, F, F, F, F, F, F, F, F, F] (by kernel_rfl) rfl rfl ⟨(Qae BK407.out 0).trans rfl, (Qae BK407.out 1).trans rfl, (Qae BK407.out 2).trans rfl, (Qae BK407.out 3).trans rfl, (Qae BK407.out 4).trans rfl, (Qae BK407.out 5).trans rfl, hx419_0⟩ (fun hHeld => ?_); refine Qa3 Qap.tab7 Qap.bits7 (fun HT_ HW_ => ?_)
         generalize w37.drew = w38 at HO_2 HO_3 BK407 HB hx419_0 hHeld ⊢
         refine Zsp (i := 0) (N := some 18) (pm 13 1) HT_ ?_
         refine Zsp (i := 1) (N := some 19) (pm 13 2) HT_ ?_
         refine Zsp (i := 2) (N := some 20) (pm 13 3) HT_ ?_
         refine Zsp (i := 3) (N := some 21) (pm 13 4) HT_ ?_
         refine Zsp (i := 4) (N := some 22) (pm 13 5) HT_ ?_
         refine Zsp (i := 5) (N := some 23) (pm 13 6) HT_ ?_
         refine Zsp (i := 6) (N := some 24) (pm 13 7) HT_ ?_
         refine Zsp (i := 8) (N := some 26) #[T, T, T, T, T, T, T, F, T, F, F, F, F] HT_ ?_
         refine Zsp (i := 9) (N := some 27) #[T, T, T, T, T, T, T, F, T, T, F, F, F] HT_ ?_
         refine Zst (i := 7) (N := some 25) (pm 13 10) HT_ HW_ hHeld ?_ (hy := by (refine Or.inl ⟨by rfl, ?_⟩; rintro w' ⟨s0, s1, s2, s3, s4, s5, s6⟩; go_simp; with_reducible rfl))
         refine Zst (i := 10) (N := some 28) (pm 13 11) HT_ HW_ hHeld ?_ (hy := by (refine Or.inl ⟨by rfl, ?_⟩; rintro w' ⟨s0, s1, s2, s3, s4, s5, s6⟩; go_simp; with_reducible rfl))
         refine Zsp (i := 11) (N := some 29) (pm 13 12) HT_ ?_
         refine Zsp (i := 12) (N := some 30) (pm 13 13) HT_ ?_
         refine done_ (Qbc HT_.out (by kernel_rfl)) ?_
         go_upto_if 30 with (fail)
         by_cases c39 : (rdOf ByteArray.empty x2_1 (ji31)).toList = ((rd_T71 l0 x12_1).f0.f0).toList
         ·rw [if_pos c39] at H
          have c39b0 : ((rdOf ByteArray.empty x2_1 (ji31)).toList == ((rd_T71 l0 x12_1).f0.f0).toList) = T := beq_iff_eq.mpr c39
          have c39b1 : ((rdOf ByteArray.empty x2_1 (ji31)).toList != ((rd_T71 l0 x12_1).f0.f0).toList) = F := bne_eq_false_iff_eq.mpr c39
          clear c39
          (try simp only [c39b0, c39b1])
          obtain ⟨ji40, hji40⟩ : ∃ j_ : Int, (wrap64 ((x3_1.length : Int) - 1)) = j_ := ⟨_, rfl⟩
          replace H : (if 0 ≤ (ji40) then (if (ji40) < (x3_1.length : Int) then (if (rd_L7 x3_1 (ji40)).length < 2513169434916 then (Qap.l0 k1 x2_1 (x3_1.set ((ji40) : Int).toNat ((rd_L7 x3_1 (ji40)) ++ [(⟨(⟨(rd_T71 l0 x12_1).f0.f0, (rd_T71 l0 x12_1).f0.f1, (rd_T71 l0 x12_1).f0.f2, (rd_T71 l0 x12_1).f0.f3⟩ : S69), (rd_T71 l0 x12_1).f1, (rd_T71 l0 x12_1).f2⟩ : S71)])) l0 (l0.length : Int) (wrap64 (x12_1 + 1))) else (none)) else (none)) else (none)) = some (r1, r2) := by first | (rw [hji40] at H; exact H) | (simp only [hji40] at H ⊢; exact H)
          have hji40w : (IntKind.i64.wrap ((x3_1.length : Int) - 1)) = ji40 := (i64_w _).trans hji40
          by_cases c41 : 0 ≤ (ji40)
          ·rw [if_pos c41] at H
           have c41b0 : decide (0 ≤ (ji40)) = T := decide_eq_true c41
           clear c41
           by_cases c42 : (ji40) < (x3_1.length : Int)
           ·rw [if_pos c42] at H
            have c42b0 : decide ((ji40) < (x3_1.length : Int)) = T := decide_eq_true c42
            clear c42
            by_cases c43 : (rd_L7 x3_1 (ji40)).length < 2513169434916
            ·rw [if_pos c43] at H
             have LMc43 := Aside0.mk c43
             clear c43
             obtain ⟨y421, hy421⟩ : ∃ y_ : List (S71), y_ = ((rd_L7 x3_1 (ji40)) ++ [(⟨(⟨(rd_T71 l0 x12_1).f0.f0, (rd_T71 l0 x12_1).f0.f1, (rd_T71 l0 x12_1).f0.f2, (rd_T71 l0 x12_1).f0.f3⟩ : S69), (rd_T71 l0 x12_1).f1, (rd_T71 l0 x12_1).f2⟩ : S71)]) := ⟨_, rfl⟩
             replace H : (Qap.l0 k1 x2_1 (x3_1.set ((ji40) : Int).toNat y421) l0 (l0.length : Int) (wrap64 (x12_1 + 1))) = some (r1, r2) := by first | (rw [hy421]; with_reducible exact H) | (have H2_ := (Option.bind_some _ _).symm.trans H; rw [hy421]; with_reducible exact H2_) | (have H2_ := (Option.bind_some _ _).symm.trans H; with_reducible exact H2_) | with_reducible exact H | (rw [hy421]; exact H) | exact H
             have Ny421 := Aside0.mk hy421
             clear hy421
             obtain ⟨y424, hy424⟩ : ∃ y_ : List (List (S71)), y_ = (x3_1.set ((ji40) : Int).toNat y421) := ⟨_, rfl⟩
             replace H : (Qap.l0 k1 x2_1 y424 l0 (l0.length : Int) (wrap64 (x12_1 + 1))) = some (r1, r2) := by first | (rw [hy424]; with_reducible exact H) | (have H2_ := (Option.bind_some _ _).symm.trans H; rw [hy424]; with_reducible exact H2_) | (have H2_ := (Option.bind_some _ _).symm.trans H; with_reducible exact H2_) | with_reducible exact H | (rw [hy424]; exact H) | exact H
             have Ny424 := Aside0.mk hy424
             clear hy424
             have H' := Aside0.mk H
             clear H
             try go_wp2
             replace HO_2 := Aside0.mk (Kd.R_drew HO_2.out)
             replace HO_3 := Aside0.mk (Kd.S_drew HO_3.out)
             replace BK407 := Aside0.mk (Qah BK407.out)
             replace HB := Aside0.mk (Qad HB.out)
             obtain ⟨Ao46, co46, eo46⟩ := Kd.S_slice HO_3.out
             (first | subst eo46 | (injection eo46 with f1_ f2_ f3_; have f4_ := f1_.symm; have f5_ := f3_.symm; clear f1_ f2_ f3_; subst f4_; subst f5_))
             have p420 : 0 ≤ ((ji40) : Int) := Ze
             have q420 : (ji40) < (x3_1.length : Int) := Ze
             obtain ⟨ad420, A420_0, c420_0, e420, hx420_0, hl420_0, hi420_0⟩ := at_L7 (Kd.S_reads' HO_3.out).2.2 (ji40) p420 q420
             cases e420
             obtain ⟨ce420, hce420, hMe420, hcc420⟩ := Kd.S_get HO_3.out [] (ji40) p420 (by first | exact q420 | exact Ze | (have e_ := (Kd.S_reads' HO_3.out).1; omega))
             obtain ⟨ve420_0, rfl, ge420_0⟩ := hMe420
             have hv420_0 := hcc420 0 _ rfl
             rw [Nat.add_zero, show ((Kd.slice 71 k71)).sz = 1 from rfl, Nat.mul_one] at hv420_0
             replace hv420_0 := Option.some.inj (hv420_0.symm.trans hx420_0)
             rw [hv420_0] at ge420_0
             have HL420_0 := Aside0.mk (show Kd.R k71 71 _ _ _ _ (rd_L7 x3_1 (ji40)) from ge420_0)
             clear hv420_0 ge420_0
             have HX420_0 := Aside0.mk hx420_0
             clear hcc420 hce420
             have HR420_0 := Aside0.mk hi420_0
             have HC420_0 := Aside0.mk hl420_0
             clear hi420_0 hl420_0
             replace p420 := eq_true p420
             replace q420 := eq_true q420
             obtain ⟨go47, co47, eo47, gb47, gl47, cl47, HG47⟩ := Kd.S_form HO_3.out (by have h_ : ((ji40) : Int) < ((x3_1.length : Int) : Int) := Ze; have h2_ : 0 ≤ ((ji40) : Int) := (Ze); omega)
             (first | cases eo47 | (injection eo47 with ea_ en_ ec_; (first | subst ea_ | (injection ea_ with ea_; subst ea_)); subst ec_; clear en_))
             have GB47 := Aside0.mk gb47
             have GG47 := Aside0.mk HG47
             clear gb47 gl47 HG47
             (first | simp only [QaT] at hx420_0 | skip)
             obtain ⟨oki47, ce47, hcl47, hM47, hcc47, _, _, hH47⟩ := Kd.S_elem HO_3.out [] ((ji40) : Int) (Ze) (by have h_ : ((ji40) : Int) < ((x3_1.length : Int) : Int) := Ze; first | exact h_ | (have e_ := (Kd.S_reads' HO_3.out).1; omega) | simpa using h_)
             obtain ⟨ve47_0, rfl, ge47_0⟩ := hM47
             have hv47 := hcc47 0 _ rfl
             have hX47 := HX420_0.out
             (try simp only [QaT] at hX47)
             (try simp only [Nat.add_zero] at hv47)
             (try rw [show ((Kd.slice 71 k71)).sz = 1 from rfl, Nat.mul_one] at hv47)
             replace hv47 := Option.some.inj (hv47.symm.trans hX47)
             subst hv47
             clear hX47 hcc47 hcl47
             have UU47 := Aside0.mk (show Kd.R k71 71 _ w.heap.size oki47 (.slice A420_0 (rd_L7 x3_1 (ji40)).length c420_0) (rd_L7 x3_1 (ji40)) from ge47_0)
             have HH47 := Aside0.mk hH47
             have HN47 := Aside0.mk (Kd.S_reads' HO_3.out).1
             clear hH47 ge47_0
             refine start_ (n := 15) (S := fun w' => w'.cell? ⟨gb407, 0, none⟩ = some (.string ((rd_T71 l0 x12_1).f0.f0)) ∧ w'.cell? ⟨gb407, 1, none⟩ = some (.int .i64 ((rd_T71 l0 x12_1).f0.f1)) ∧ w'.cell? ⟨gb407, 2, none⟩ = some (.int .i64 ((rd_T71 l0 x12_1).f0.f2)) ∧ w'.cell? ⟨gb407, 3, none⟩ = some (.int .i64 ((rd_T71 l0 x12_1).f0.f3)) ∧ w'.cell? ⟨gb407, 4, none⟩ = some (.int .i64 ((rd_T71 l0 x12_1).f1)) ∧ w'.cell? ⟨gb407, 5, none⟩ = some (.int .i64 ((rd_T71 l0 x12_1).f2)) ∧ w'.cell? ⟨go47, ((ji40)).toNat, none⟩ = some (.slice A420_0 (rd_L7 x3_1 (ji40)).length c420_0)) (ds := [14]) #[F, F, F, F, F, F, F, F, F, F, F, F, F, F, F] (by kernel_rfl) rfl rfl ⟨(Qae BK407.out 0).trans rfl, (Qae BK407.out 1).trans rfl, (Qae BK407.out 2).trans rfl, (Qae BK407.out 3).trans rfl, (Qae BK407.out 4).trans rfl, (Qae BK407.out 5).trans rfl, hx420_0⟩ (fun hHeld => ?_); refine Qa3 Qap.tab10 Qap.bits10 (fun HT_ HW_ => ?_)
             generalize w38.drew = w45 at HO_2 HO_3 BK407 HB GG47 HH47 HL420_0 HR420_0 HX420_0 UU47 hx420_0 hHeld ⊢
             refine Zsp (i := 0) (N := some 40) (pm 15 1) HT_ ?_
             refine Zsp (i := 1) (N := some 41) (pm 15 2) HT_ ?_
             refine Zsp (i := 2) (N := some 42) (pm 15 3) HT_ ?_
             refine Zsp (i := 3) (N := some 43) (pm 15 4) HT_ ?_
             refine Zsp (i := 4) (N := some 44) (pm 15 5) HT_ ?_
             refine Zsp (i := 5) (N := some 45) (pm 15 6) HT_ ?_
             refine Zsp (i := 6) (N := some 46) (pm 15 7) HT_ ?_
             refine Zsp (i := 7) (N := some 47) (pm 15 8) HT_ ?_
             refine Zsp (i := 8) (N := some 48) (pm 15 9) HT_ ?_
             refine Zst (i := 9) (N := some 49) (pm 15 10) HT_ HW_ hHeld ?_ (hy := by (refine Or.inl ⟨by rfl, ?_⟩; rintro w' ⟨s0, s1, s2, s3, s4, s5, s6⟩; go_simp; with_reducible rfl))
             refine Zst (i := 10) (N := some 50) (pm 15 11) HT_ HW_ hHeld ?_ (hy := by (refine Or.inl ⟨by rfl, ?_⟩; rintro w' ⟨s0, s1, s2, s3, s4, s5, s6⟩; go_simp; with_reducible rfl))
             refine one_ (i := 11) (N := some 51) #[T, T, T, T, T, T, T, T, T, T, T, T, F, F, F] rfl rfl (one_of HT_.out (by kernel_rfl)) (by decide) (fun K hK => ?_)
             refine value_ (w1 := ?_) (v := ?_) (by rfl) rfl ?_ ?_
             rotate_left 2
             ·go_simp
              constructor
              ·rfl
              rfl
             refine hK.out _ _ ⟨(Qae (Qaf BK407.out _) 0).trans rfl, (Qae (Qaf BK407.out _) 1).trans rfl, (Qae (Qaf BK407.out _) 2).trans rfl, (Qae (Qaf BK407.out _) 3).trans rfl, (Qae (Qaf BK407.out _) 4).trans rfl, (Qae (Qaf BK407.out _) 5).trans rfl, (World.cell?_alloc_lt _ _ _ (World.block_lt_of_cell? _ _ (hHeld.2.2.2.2.2.2))).trans (hHeld.2.2.2.2.2.2)⟩ (fun hHeld => ?_)
             clear hK K
             refine norm_ (a' := ?_) ?_ ?_
             rotate_left
             ·show Act.put _ (some 51) _ = _
              simp only [Act.put, Zj, Zk, Zm, i64_w, i32_w]
              rfl
             refine one_ (i := 12) (N := some 52) #[T, T, T, T, T, T, T, T, T, T, T, T, T, F, F] rfl rfl (one_of HT_.out (by kernel_rfl)) (by decide) (fun K hK => ?_)
             refine Kd.R_append_step k71 (w0 := w) w.heap.size (by rfl) (.tmp 49) (.tmp 51) 22 71 (.agg #[(.string ⟨#[]⟩), (.int .i64 0), (.int .i64 0), (.int .i64 0), (.int .i64 0), (.int .i64 0)]) 56 rfl Try.underlying22 info71 rfl (by decide) (by omega) (.slice A420_0 (rd_L7 x3_1 (ji40)).length c420_0) (rd_L7 x3_1 (ji40)) (⟨(⟨(rd_T71 l0 x12_1).f0.f0, (rd_T71 l0 x12_1).f0.f1, (rd_T71 l0 x12_1).f0.f2, (rd_T71 l0 x12_1).f0.f3⟩ : S69), (rd_T71 l0 x12_1).f1, (rd_T71 l0 x12_1).f2⟩ : S71) [.string ((rd_T71 l0 x12_1).f0.f0), .int .i64 ((rd_T71 l0 x12_1).f0.f1), .int .i64 ((rd_T71 l0 x12_1).f0.f2), .int .i64 ((rd_T71 l0 x12_1).f0.f3), .int .i64 ((rd_T71 l0 x12_1).f1), .int .i64 ((rd_T71 l0 x12_1).f2)] (fun k_ => oki47 k_ ∨ ((fun k_ => k_ ≠ gb407)) k_ ∧ w45.heap.size ≤ k_) (fun _ => False) rfl rfl ?aP (fun _ hk => hk.elim) ?aF ?aO ?aB ?aS ?aL ?_
             (case aP => exact Qbx _ _ _ (⟨(⟨(rd_T71 l0 x12_1).f0.f0, (rd_T71 l0 x12_1).f0.f1, (rd_T71 l0 x12_1).f0.f2, (rd_T71 l0 x12_1).f0.f3⟩ : S69), (rd_T71 l0 x12_1).f1, (rd_T71 l0 x12_1).f2⟩ : S71))
             (case aB => exact (Zc1 GE407.out))
             (case aF => exact (fun k_ hk => .inr ⟨Kd.freshB (g := gb407) (o := .cells #[.string ((rd_T71 l0 x12_1).f0.f0), .int .i64 ((rd_T71 l0 x12_1).f0.f1), .int .i64 ((rd_T71 l0 x12_1).f0.f2), .int .i64 ((rd_T71 l0 x12_1).f0.f3), .int .i64 ((rd_T71 l0 x12_1).f1), .int .i64 ((rd_T71 l0 x12_1).f2)] 71 (0, 0)) (Zu BK407.out) k_ hk, hk⟩))
             (case aO => exact (by (with_reducible repeat (first | apply Kd.R_alloc | apply Kd.R_drewN | apply Kd.R_drew)); exact Kd.R_mono UU47.out (fun _ hk => .inl hk)))
             (case aS => exact (Qau (Zc1 GE407.out)))
             (case aL => have := LMc43.out; omega)
             intro v422 w48 ho hb hg hat
             (first | have HS6_ := cellg hg (hHeld.2.2.2.2.2.2) (by first | (rw [QaW]; exact (fun e_ => ((HL420_0.out.1 _ e_.symm).2) rfl)) | (show some (Addr.add _ _).block ≠ _; rw [QaW]; exact (fun e_ => ((HL420_0.out.1 _ e_.symm).2) rfl)) | exact (fun e_ => ((HL420_0.out.1 _ e_.symm).2) rfl)) | have HS6_ := cellg hg (QbG (hHeld.2.2.2.2.2.2) (by first | (rw [QaW]; exact Kd.S_lt HO_3.out _ rfl) | (show (Addr.add _ _).block < _; rw [QaW]; exact Kd.S_lt HO_3.out _ rfl) | exact Kd.S_lt HO_3.out _ rfl)) (by first | (rw [QaW]; exact (fun e_ => ((HL420_0.out.1 _ e_.symm).2) rfl)) | (show some (Addr.add _ _).block ≠ _; rw [QaW]; exact (fun e_ => ((HL420_0.out.1 _ e_.symm).2) rfl)) | exact (fun e_ => ((HL420_0.out.1 _ e_.symm).2) rfl)))
             rw [← Ny421.out] at ho
             have HO423 := Aside0.mk (ho)
             replace HO_2 := Aside0.mk (Kd.R_over' (v := (.slice A420_0 (rd_L7 x3_1 (ji40)).length c420_0)) (Zr HO_2.out) (Kd.R_typed HL420_0.out) (by decide) hg)
             replace BK407 := Aside0.mk (QaN (g := gb407) (o := .cells #[.string ((rd_T71 l0 x12_1).f0.f0), .int .i64 ((rd_T71 l0 x12_1).f0.f1), .int .i64 ((rd_T71 l0 x12_1).f0.f2), .int .i64 ((rd_T71 l0 x12_1).f0.f3), .int .i64 ((rd_T71 l0 x12_1).f1), .int .i64 ((rd_T71 l0 x12_1).f2)] 71 (0, 0)) (Zu BK407.out) hg (Kd.R_away HL420_0.out (fun _ hk => hk.1)))
             replace HB := Aside0.mk (hb)
             replace HH47 := Aside0.mk (Kd.H_grown (Kd.H_widen (by repeat (first | exact HH47.out | refine Kd.H_alloc ?_ _ | refine Kd.H_drewN ?_ _ | refine Kd.H_drew ?_))) hg (fun k_ e_ => .inl (UU47.out.1 k_ e_)))
             clear HO_3 UU47 HL420_0
             clear ho hb hg hat
             have p44 : 0 ≤ ((ji40) : Int) := Ze
             have q44 : ((ji40) : Int) < ((x3_1.length : Int) : Int) := Ze
             replace p44 := eq_true p44
             replace q44 := eq_true q44
             obtain ⟨Ao51, co51, eo51⟩ := Kd.R_slice HO423.out
             (first | subst eo51 | (injection eo51 with f1_ f2_ f3_; have f4_ := f1_.symm; have f5_ := f3_.symm; clear f1_ f2_ f3_; subst f4_; subst f5_))
             obtain ⟨_, _, hraw49, _, _, hcc49, _⟩ := Kd.H_raw HH47.out (Ze) (by have h_ : ((ji40) : Int) < ((x3_1.length : Int) : Int) := Ze; first | exact h_ | (have e_ := (HN47.out); omega) | simpa using h_)
             obtain ⟨_, hfr49⟩ := Kd.H_at HH47.out (Ze) (by have h_ : ((ji40) : Int) < ((x3_1.length : Int) : Int) := Ze; first | exact h_ | (have e_ := (HN47.out); omega) | simpa using h_)
             have hx49_0 := hcc49 0 _ rfl
             have hf49_0 := hfr49 0
             (try simp only [Nat.add_zero] at hx49_0 hf49_0)
             (try rw [show ((Kd.slice 71 k71)).sz = 1 from rfl, Nat.mul_one] at hx49_0)
             (try rw [show ((Kd.slice 71 k71)).sz = 1 from rfl, Nat.mul_one] at hf49_0)
             have HP49 := Kd.S_seg0 HH47.out (Ze) (by have h_ : ((ji40) : Int) < ((x3_1.length : Int) : Int) := Ze; first | exact h_ | (have e_ := (HN47.out); omega) | simpa using h_) (seg := [.slice Ao51 y421.length co51]) (j := 0) (show 1 ≤ 1 from by decide) (x' := y421) (Kd.M_row HO423.out) (fun _ hk => hk)
             (try simp only [show ((Kd.slice 71 k71)).sz = 1 from rfl, Nat.mul_one, Nat.add_zero] at HP49)
             clear hcc49 hfr49
             have HNB407_go47 := Aside0.mk (show gb407 ≠ go47 from by have h_ := Kd.R_ne hraw49 BK407.out (by decide); intro e_; exact h_ (by rw [e_]; rfl))
             have HS49 := HP49.1
             rw [← Ny424.out] at HS49
             have HQ49 := Aside0.mk HS49
             obtain ⟨_, hgg49⟩ := Kd.R_typed hraw49 go47 rfl
             have GG49_ := Aside0.mk hgg49
             clear HP49 HS49 hgg49
             refine hK.out _ _ ⟨(Qae BK407.out 0).trans rfl, (Qae BK407.out 1).trans rfl, (Qae BK407.out 2).trans rfl, (Qae BK407.out 3).trans rfl, (Qae BK407.out 4).trans rfl, (Qae BK407.out 5).trans rfl, HS6_⟩ (fun hHeld => ?_)
             clear hK K
             refine norm_ (a' := ?_) ?_ ?_
             rotate_left
             ·show Act.put _ (some 52) _ = _
              simp only [Act.put, Zj, Zk, Zm, i64_w, i32_w]
              rfl
             refine Zsp (i := 13) (N := some 53) (pm 15 14) HT_ ?_
             refine last_ (i := 14) (N := none) #[T, T, T, T, T, T, T, T, T, T, T, T, T, T, T] rfl rfl (one_of HT_.out (by kernel_rfl)) (by decide) (fun K hK => ?_)
             refine skip_ (w1 := ?_) (by rfl) rfl ?_ ?_
             rotate_left
             ·go_simp
              rfl
             refine hK.out _ _ ?_
             clear hK K
             refine done_ (Qbc HT_.out (by kernel_rfl)) ?_
             try go_wp2
             go_roundg k1
             case measure => have := HK1.out; omega
             case rel => exact ⟨(x2_1), (y424), (wrap64 (x12_1 + 1)), (Zs), H', ⟨by have := HK1.out; omega⟩, ⟨by (with_reducible repeat (first | apply Kd.R_alloc | apply Kd.R_drewN | apply Kd.R_drew)); exact Kd.R_mono (Kd.R_far (p := ⟨go47, ((ji40) : Int).toNat, none⟩) (Kd.R_types HO_2.out GG49_.out (by decide)) (fun _ hk => hk.2) (.slice Ao51 y421.length co51)) (fun _ hk => trivial)⟩, ⟨by (with_reducible repeat (first | apply Kd.S_alloc | apply Kd.S_drewN | apply Kd.S_drew)); exact Kd.S_mono HQ49.out (fun _ hk => trivial)⟩, ⟨by repeat (first | (with_reducible first | exact HB.out | apply Qac | apply Qab | apply Qad | refine Qam ?_ GB47.out | refine Qam ?_ GE407.out) | exact HB.out)⟩⟩
            rw [if_neg c43] at H
            exact absurd H (by simp)
           rw [if_neg c42] at H
           exact absurd H (by simp)
          rw [if_neg c41] at H
          exact absurd H (by simp)
         rw [if_neg c39] at H
         have c39b0 : ((rdOf ByteArray.empty x2_1 (ji31)).toList == ((rd_T71 l0 x12_1).f0.f0).toList) = F := beq_eq_false_iff_ne.mpr c39
         have c39b1 : ((rdOf ByteArray.empty x2_1 (ji31)).toList != ((rd_T71 l0 x12_1).f0.f0).toList) = T := bne_iff_ne.mpr c39
         (try simp only [c39b0, c39b1])
         by_cases c52 : x2_1.length < 8796093022208
         ·rw [if_pos c52] at H
          have LMc52 := Aside0.mk c52
          clear c52
          obtain ⟨y425, hy425⟩ : ∃ y_ : List ByteArray, y_ = (x2_1 ++ [(rd_T71 l0 x12_1).f0.f0]) := ⟨_, rfl⟩
          replace H : (if x3_1.length < 5864062014805 then ((some (x3_1 ++ [[]] : List (List (S71)))).bind fun y428 => (if 0 ≤ (wrap64 ((y428.length : Int) - 1)) then (if (wrap64 ((y428.length : Int) - 1)) < (y428.length : Int) then (if (rd_L7 y428 (wrap64 ((y428.length : Int) - 1))).length < 2513169434916 then (Qap.l0 k1 y425 (y428.set ((wrap64 ((y428.length : Int) - 1)) : Int).toNat ((rd_L7 y428 (wrap64 ((y428.length : Int) - 1))) ++ [(⟨(⟨(rd_T71 l0 x12_1).f0.f0, (rd_T71 l0 x12_1).f0.f1, (rd_T71 l0 x12_1).f0.f2, (rd_T71 l0 x12_1).f0.f3⟩ : S69), (rd_T71 l0 x12_1).f1, (rd_T71 l0 x12_1).f2⟩ : S71)])) l0 (l0.length : Int) (wrap64 (x12_1 + 1))) else (none)) else (none)) else (none))) else (none)) = some (r1, r2) := by first | (rw [hy425]; with_reducible exact H) | (have H2_ := (Option.bind_some _ _).symm.trans H; rw [hy425]; with_reducible exact H2_) | (have H2_ := (Option.bind_some _ _).symm.trans H; with_reducible exact H2_) | with_reducible exact H | (rw [hy425]; exact H) | exact H
          have Ny425 := Aside0.mk hy425
          clear hy425
          by_cases c53 : x3_1.length < 5864062014805
          ·rw [if_pos c53] at H
           have LMc53 := Aside0.mk c53
           clear c53
           obtain ⟨y428, hy428⟩ : ∃ y_ : List (List (S71)), y_ = (x3_1 ++ [[]]) := ⟨_, rfl⟩
           replace H : (if 0 ≤ (wrap64 ((y428.length : Int) - 1)) then (if (wrap64 ((y428.length : Int) - 1)) < (y428.length : Int) then (if (rd_L7 y428 (wrap64 ((y428.length : Int) - 1))).length < 2513169434916 then (Qap.l0 k1 y425 (y428.set ((wrap64 ((y428.length : Int) - 1)) : Int).toNat ((rd_L7 y428 (wrap64 ((y428.length : Int) - 1))) ++ [(⟨(⟨(rd_T71 l0 x12_1).f0.f0, (rd_T71 l0 x12_1).f0.f1, (rd_T71 l0 x12_1).f0.f2, (rd_T71 l0 x12_1).f0.f3⟩ : S69), (rd_T71 l0 x12_1).f1, (rd_T71 l0 x12_1).f2⟩ : S71)])) l0 (l0.length : Int) (wrap64 (x12_1 + 1))) else (none)) else (none)) else (none)) = some (r1, r2) := by first | (rw [hy428]; with_reducible exact H) | (have H2_ := (Option.bind_some _ _).symm.trans H; rw [hy428]; with_reducible exact H2_) | (have H2_ := (Option.bind_some _ _).symm.trans H; with_reducible exact H2_) | with_reducible exact H | (rw [hy428]; exact H) | exact H
           have Ny428 := Aside0.mk hy428
           clear hy428
           obtain ⟨ji54, hji54⟩ : ∃ j_ : Int, (wrap64 ((y428.length : Int) - 1)) = j_ := ⟨_, rfl⟩
           replace H : (if 0 ≤ (ji54) then (if (ji54) < (y428.length : Int) then (if (rd_L7 y428 (ji54)).length < 2513169434916 then (Qap.l0 k1 y425 (y428.set ((ji54) : Int).toNat ((rd_L7 y428 (ji54)) ++ [(⟨(⟨(rd_T71 l0 x12_1).f0.f0, (rd_T71 l0 x12_1).f0.f1, (rd_T71 l0 x12_1).f0.f2, (rd_T71 l0 x12_1).f0.f3⟩ : S69), (rd_T71 l0 x12_1).f1, (rd_T71 l0 x12_1).f2⟩ : S71)])) l0 (l0.length : Int) (wrap64 (x12_1 + 1))) else (none)) else (none)) else (none)) = some (r1, r2) := by first | (rw [hji54] at H; exact H) | (simp only [hji54] at H ⊢; exact H)
           have hji54w : (IntKind.i64.wrap ((y428.length : Int) - 1)) = ji54 := (i64_w _).trans hji54
           by_cases c55 : 0 ≤ (ji54)
           ·rw [if_pos c55] at H
            have c55b0 : decide (0 ≤ (ji54)) = T := decide_eq_true c55
            clear c55
            by_cases c56 : (ji54) < (y428.length : Int)
            ·rw [if_pos c56] at H
             have c56b0 : decide ((ji54) < (y428.length : Int)) = T := decide_eq_true c56
             clear c56
             by_cases c57 : (rd_L7 y428 (ji54)).length < 2513169434916
             ·rw [if_pos c57] at H
              have LMc57 := Aside0.mk c57
              clear c57
              obtain ⟨y432, hy432⟩ : ∃ y_ : List (S71), y_ = ((rd_L7 y428 (ji54)) ++ [(⟨(⟨(rd_T71 l0 x12_1).f0.f0, (rd_T71 l0 x12_1).f0.f1, (rd_T71 l0 x12_1).f0.f2, (rd_T71 l0 x12_1).f0.f3⟩ : S69), (rd_T71 l0 x12_1).f1, (rd_T71 l0 x12_1).f2⟩ : S71)]) := ⟨_, rfl⟩
              replace H : (Qap.l0 k1 y425 (y428.set ((ji54) : Int).toNat y432) l0 (l0.length : Int) (wrap64 (x12_1 + 1))) = some (r1, r2) := by first | (rw [hy432]; with_reducible exact H) | (have H2_ := (Option.bind_some _ _).symm.trans H; rw [hy432]; with_reducible exact H2_) | (have H2_ := (Option.bind_some _ _).symm.trans H; with_reducible exact H2_) | with_reducible exact H | (rw [hy432]; exact H) | exact H
              have Ny432 := Aside0.mk hy432
              clear hy432
              obtain ⟨y435, hy435⟩ : ∃ y_ : List (List (S71)), y_ = (y428.set ((ji54) : Int).toNat y432) := ⟨_, rfl⟩
              replace H : (Qap.l0 k1 y425 y435 l0 (l0.length : Int) (wrap64 (x12_1 + 1))) = some (r1, r2) := by first | (rw [hy435]; with_reducible exact H) | (have H2_ := (Option.bind_some _ _).symm.trans H; rw [hy435]; with_reducible exact H2_) | (have H2_ := (Option.bind_some _ _).symm.trans H; with_reducible exact H2_) | with_reducible exact H | (rw [hy435]; exact H) | exact H
              have Ny435 := Aside0.mk hy435
              clear hy435
              have H' := Aside0.mk H
              clear H
              obtain ⟨hcz59_0, hfz59_0⟩ := Zy (v := (.string ((rd_T71 l0 x12_1).f0.f0))) BK407.out 0
              obtain ⟨hcz59_1, hfz59_1⟩ := Zy (v := (.int .i64 ((rd_T71 l0 x12_1).f0.f1))) BK407.out 1
              obtain ⟨hcz59_2, hfz59_2⟩ := Zy (v := (.int .i64 ((rd_T71 l0 x12_1).f0.f2))) BK407.out 2
              obtain ⟨hcz59_3, hfz59_3⟩ := Zy (v := (.int .i64 ((rd_T71 l0 x12_1).f0.f3))) BK407.out 3
              obtain ⟨hcz59_4, hfz59_4⟩ := Zy (v := (.int .i64 ((rd_T71 l0 x12_1).f1))) BK407.out 4
              obtain ⟨hcz59_5, hfz59_5⟩ := Zy (v := (.int .i64 ((rd_T71 l0 x12_1).f2))) BK407.out 5
              try go_wp2_with (first | ((with_reducible refine Qa9 (b := .append) (xs := #[.tmp 31, .tmp 35]) rfl ?_); at_builtin; refine Kd.R_append Kd.string (w0 := w) w.heap.size rfl (.tmp 31) (.tmp 35) 43 9 (.string ⟨#[]⟩) 16 rfl Try.underlying43 info9 rfl (by decide) (by omega) (.slice (some ad419) x2_1.length co36) x2_1 ((rd_T71 l0 x12_1).f0.f0) [.string ((rd_T71 l0 x12_1).f0.f0)] (fun _ => True) (fun _ => False) rfl rfl ?aP (fun _ hk => hk.elim) ?aF ?aO ?aB ?aS ?aL ?_; (case aP => exact rfl); (case aB => exact (Zc1 GE407.out)); (case aF => exact (fun _ _ => trivial)); (case aO => exact (Zr HO_2.out)); (case aS => exact (Qau (Zc1 GE407.out))); (case aL => have := LMc52.out; omega); intro v426 w60 ho hb hg hat; rw [← Ny425.out] at ho; have HO427 := Aside0.mk (ho); replace HO_3 := Aside0.mk (Kd.S_over' (by (with_reducible repeat (first | apply Kd.S_alloc | apply Kd.S_drewN | apply Kd.S_drew)); exact HO_3.out) (Kd.R_typed (Zr HO_2.out)) (by decide) hg); replace BK407 := Aside0.mk (QaN (g := gb407) (o := .cells #[.string ((rd_T71 l0 x12_1).f0.f0), .int .i64 ((rd_T71 l0 x12_1).f0.f1), .int .i64 ((rd_T71 l0 x12_1).f0.f2), .int .i64 ((rd_T71 l0 x12_1).f0.f3), .int .i64 ((rd_T71 l0 x12_1).f1), .int .i64 ((rd_T71 l0 x12_1).f2)] 71 (0, 0)) (Zu BK407.out) hg (Kd.R_ne HO_2.out BK407.out (by decide))); replace HB := Aside0.mk (hb); clear HO_2; clear ho hb hg hat) | ((with_reducible refine Qa9 (b := .append) (xs := #[.tmp 37, .tmp 38]) rfl ?_); at_builtin; refine Kd.S_append (Kd.slice 71 k71) (w0 := w) w.heap.size rfl (.tmp 37) (.tmp 38) 44 22 (.slice none 0 0) 24 rfl Try.underlying44 info22 rfl (by decide) (by omega) u3 x3_1 [] [.slice none 0 0] (fun k_ => k_ ≠ gb407) (fun _ => False) rfl rfl ?aP (fun _ hk => hk.elim) ?aF ?aO ?aB ?aS ?aL ?_; (case aP => exact ⟨_, rfl, Kd.R_nil _ _ _ _ _⟩); (case aB => exact (Zc1 GE407.out)); (case aF => exact (fun k_ hk => Kd.freshB (g := gb407) (o := .cells #[.string ((rd_T71 l0 x12_1).f0.f0), .int .i64 ((rd_T71 l0 x12_1).f0.f1), .int .i64 ((rd_T71 l0 x12_1).f0.f2), .int .i64 ((rd_T71 l0 x12_1).f0.f3), .int .i64 ((rd_T71 l0 x12_1).f1), .int .i64 ((rd_T71 l0 x12_1).f2)] 71 (0, 0)) (Zu BK407.out) k_ hk)); (case aO => exact (by (with_reducible repeat (first | apply Kd.S_alloc | apply Kd.S_drewN | apply Kd.S_drew)); exact Kd.S_mono HO_3.out (fun k_ hk => ⟨hk, fun e_ => e_⟩))); (case aS => exact (Qau (Zc1 GE407.out))); (case aL => have := LMc53.out; omega); intro v429 w61 ho hb hg hat; rw [← Ny428.out] at ho; have HO430 := Aside0.mk (ho); replace BK407 := Aside0.mk (QaN (g := gb407) (o := .cells #[.string ((rd_T71 l0 x12_1).f0.f0), .int .i64 ((rd_T71 l0 x12_1).f0.f1), .int .i64 ((rd_T71 l0 x12_1).f0.f2), .int .i64 ((rd_T71 l0 x12_1).f0.f3), .int .i64 ((rd_T71 l0 x12_1).f1), .int .i64 ((rd_T71 l0 x12_1).f2)] 71 (0, 0)) (Zu BK407.out) hg (Kd.S_ne HO_3.out BK407.out (by decide))); replace HO427 := Aside0.mk (Kd.R_over' (Zr HO427.out) (Kd.S_typed (by (with_reducible repeat (first | apply Kd.S_alloc | apply Kd.S_drewN | apply Kd.S_drew)); exact HO_3.out)) (by decide) hg); replace HB := Aside0.mk (hb); clear HO_3; clear ho hb hg hat))
              replace HO427 := Aside0.mk (Kd.R_drew HO427.out)
              replace HO430 := Aside0.mk (Kd.S_drew HO430.out)
              replace BK407 := Aside0.mk (Qah BK407.out)
              replace HB := Aside0.mk (Qad HB.out)
              obtain ⟨Ao63, co63, eo63⟩ := Kd.S_slice HO430.out
              (first | subst eo63 | (injection eo63 with f1_ f2_ f3_; have f4_ := f1_.symm; have f5_ := f3_.symm; clear f1_ f2_ f3_; subst f4_; subst f5_))
              have p431 : 0 ≤ ((ji54) : Int) := Ze
              have q431 : (ji54) < (y428.length : Int) := Ze
              obtain ⟨ad431, A431_0, c431_0, e431, hx431_0, hl431_0, hi431_0⟩ := at_L7 (Kd.S_reads' HO430.out).2.2 (ji54) p431 q431
              cases e431
              obtain ⟨ce431, hce431, hMe431, hcc431⟩ := Kd.S_get HO430.out [] (ji54) p431 (by first | exact q431 | exact Ze | (have e_ := (Kd.S_reads' HO430.out).1; omega))
              obtain ⟨ve431_0, rfl, ge431_0⟩ := hMe431
              have hv431_0 := hcc431 0 _ rfl
              rw [Nat.add_zero, show ((Kd.slice 71 k71)).sz = 1 from rfl, Nat.mul_one] at hv431_0
              replace hv431_0 := Option.some.inj (hv431_0.symm.trans hx431_0)
              rw [hv431_0] at ge431_0
              have HL431_0 := Aside0.mk (show Kd.R k71 71 _ _ _ _ (rd_L7 y428 (ji54)) from ge431_0)
              clear hv431_0 ge431_0
              have HX431_0 := Aside0.mk hx431_0
              clear hcc431 hce431
              have HR431_0 := Aside0.mk hi431_0
              have HC431_0 := Aside0.mk hl431_0
              clear hi431_0 hl431_0
              replace p431 := eq_true p431
              replace q431 := eq_true q431
              obtain ⟨go64, co64, eo64, gb64, gl64, cl64, HG64⟩ := Kd.S_form HO430.out (by have h_ : ((ji54) : Int) < ((y428.length : Int) : Int) := Ze; have h2_ : 0 ≤ ((ji54) : Int) := (Ze); omega)
              (first | cases eo64 | (injection eo64 with ea_ en_ ec_; (first | subst ea_ | (injection ea_ with ea_; subst ea_)); subst ec_; clear en_))
              have GB64 := Aside0.mk gb64
              have GG64 := Aside0.mk HG64
              clear gb64 gl64 HG64
              (first | simp only [QaT] at hx431_0 | skip)
              obtain ⟨oki64, ce64, hcl64, hM64, hcc64, _, _, hH64⟩ := Kd.S_elem HO430.out [] ((ji54) : Int) (Ze) (by have h_ : ((ji54) : Int) < ((y428.length : Int) : Int) := Ze; first | exact h_ | (have e_ := (Kd.S_reads' HO430.out).1; omega) | simpa using h_)
              obtain ⟨ve64_0, rfl, ge64_0⟩ := hM64
              have hv64 := hcc64 0 _ rfl
              have hX64 := HX431_0.out
              (try simp only [QaT] at hX64)
              (try simp only [Nat.add_zero] at hv64)
              (try rw [show ((Kd.slice 71 k71)).sz = 1 from rfl, Nat.mul_one] at hv64)
              replace hv64 := Option.some.inj (hv64.symm.trans hX64)
              subst hv64
              clear hX64 hcc64 hcl64
              have UU64 := Aside0.mk (show Kd.R k71 71 _ w.heap.size oki64 (.slice A431_0 (rd_L7 y428 (ji54)).length c431_0) (rd_L7 y428 (ji54)) from ge64_0)
              have HH64 := Aside0.mk hH64
              have HN64 := Aside0.mk (Kd.S_reads' HO430.out).1
              clear hH64 ge64_0
              refine start_ (n := 15) (S := fun w' => w'.cell? ⟨gb407, 0, none⟩ = some (.string ((rd_T71 l0 x12_1).f0.f0)) ∧ w'.cell? ⟨gb407, 1, none⟩ = some (.int .i64 ((rd_T71 l0 x12_1).f0.f1)) ∧ w'.cell? ⟨gb407, 2, none⟩ = some (.int .i64 ((rd_T71 l0 x12_1).f0.f2)) ∧ w'.cell? ⟨gb407, 3, none⟩ = some (.int .i64 ((rd_T71 l0 x12_1).f0.f3)) ∧ w'.cell? ⟨gb407, 4, none⟩ = some (.int .i64 ((rd_T71 l0 x12_1).f1)) ∧ w'.cell? ⟨gb407, 5, none⟩ = some (.int .i64 ((rd_T71 l0 x12_1).f2)) ∧ w'.cell? ⟨go64, ((ji54)).toNat, none⟩ = some (.slice A431_0 (rd_L7 y428 (ji54)).length c431_0)) (ds := [14]) #[F, F, F, F, F, F, F, F, F, F, F, F, F, F, F] (by kernel_rfl) rfl rfl ⟨(Qae BK407.out 0).trans rfl, (Qae BK407.out 1).trans rfl, (Qae BK407.out 2).trans rfl, (Qae BK407.out 3).trans rfl, (Qae BK407.out 4).trans rfl, (Qae BK407.out 5).trans rfl, hx431_0⟩ (fun hHeld => ?_); refine Qa3 Qap.tab10 Qap.bits10 (fun HT_ HW_ => ?_)
              generalize w61.drew = w62 at HO427 HO430 BK407 HB GG64 HH64 HL431_0 HR431_0 HX431_0 UU64 hx431_0 hHeld ⊢
              refine Zsp (i := 0) (N := some 40) (pm 15 1) HT_ ?_
              refine Zsp (i := 1) (N := some 41) (pm 15 2) HT_ ?_
              refine Zsp (i := 2) (N := some 42) (pm 15 3) HT_ ?_
              refine Zsp (i := 3) (N := some 43) (pm 15 4) HT_ ?_
              refine Zsp (i := 4) (N := some 44) (pm 15 5) HT_ ?_
              refine Zsp (i := 5) (N := some 45) (pm 15 6) HT_ ?_
              refine Zsp (i := 6) (N := some 46) (pm 15 7) HT_ ?_
              refine Zsp (i := 7) (N := some 47) (pm 15 8) HT_ ?_
              refine Zsp (i := 8) (N := some 48) (pm 15 9) HT_ ?_
              refine Zst (i := 9) (N := some 49) (pm 15 10) HT_ HW_ hHeld ?_ (hy := by (refine Or.inl ⟨by rfl, ?_⟩; rintro w' ⟨s0, s1, s2, s3, s4, s5, s6⟩; go_simp; with_reducible rfl))
              refine Zst (i := 10) (N := some 50) (pm 15 11) HT_ HW_ hHeld ?_ (hy := by (refine Or.inl ⟨by rfl, ?_⟩; rintro w' ⟨s0, s1, s2, s3, s4, s5, s6⟩; go_simp; with_reducible rfl))
              refine one_ (i := 11) (N := some 51) #[T, T, T, T, T, T, T, T, T, T, T, T, F, F, F] rfl rfl (one_of HT_.out (by kernel_rfl)) (by decide) (fun K hK => ?_)
              refine value_ (w1 := ?_) (v := ?_) (by rfl) rfl ?_ ?_
              rotate_left 2
              ·go_simp
               constructor
               ·rfl
               rfl
              refine hK.out _ _ ⟨(Qae (Qaf BK407.out _) 0).trans rfl, (Qae (Qaf BK407.out _) 1).trans rfl, (Qae (Qaf BK407.out _) 2).trans rfl, (Qae (Qaf BK407.out _) 3).trans rfl, (Qae (Qaf BK407.out _) 4).trans rfl, (Qae (Qaf BK407.out _) 5).trans rfl, (World.cell?_alloc_lt _ _ _ (World.block_lt_of_cell? _ _ (hHeld.2.2.2.2.2.2))).trans (hHeld.2.2.2.2.2.2)⟩ (fun hHeld => ?_)
              clear hK K
              refine norm_ (a' := ?_) ?_ ?_
              rotate_left
              ·show Act.put _ (some 51) _ = _
               simp only [Act.put, Zj, Zk, Zm, i64_w, i32_w]
               rfl
              refine one_ (i := 12) (N := some 52) #[T, T, T, T, T, T, T, T, T, T, T, T, T, F, F] rfl rfl (one_of HT_.out (by kernel_rfl)) (by decide) (fun K hK => ?_)
              refine Kd.R_append_step k71 (w0 := w) w.heap.size (by rfl) (.tmp 49) (.tmp 51) 22 71 (.agg #[(.string ⟨#[]⟩), (.int .i64 0), (.int .i64 0), (.int .i64 0), (.int .i64 0), (.int .i64 0)]) 56 rfl Try.underlying22 info71 rfl (by decide) (by omega) (.slice A431_0 (rd_L7 y428 (ji54)).length c431_0) (rd_L7 y428 (ji54)) (⟨(⟨(rd_T71 l0 x12_1).f0.f0, (rd_T71 l0 x12_1).f0.f1, (rd_T71 l0 x12_1).f0.f2, (rd_T71 l0 x12_1).f0.f3⟩ : S69), (rd_T71 l0 x12_1).f1, (rd_T71 l0 x12_1).f2⟩ : S71) [.string ((rd_T71 l0 x12_1).f0.f0), .int .i64 ((rd_T71 l0 x12_1).f0.f1), .int .i64 ((rd_T71 l0 x12_1).f0.f2), .int .i64 ((rd_T71 l0 x12_1).f0.f3), .int .i64 ((rd_T71 l0 x12_1).f1), .int .i64 ((rd_T71 l0 x12_1).f2)] (fun k_ => oki64 k_ ∨ ((fun k_ => k_ ≠ gb407)) k_ ∧ w62.heap.size ≤ k_) (fun _ => False) rfl rfl ?aP (fun _ hk => hk.elim) ?aF ?aO ?aB ?aS ?aL ?_
              (case aP => exact Qbx _ _ _ (⟨(⟨(rd_T71 l0 x12_1).f0.f0, (rd_T71 l0 x12_1).f0.f1, (rd_T71 l0 x12_1).f0.f2, (rd_T71 l0 x12_1).f0.f3⟩ : S69), (rd_T71 l0 x12_1).f1, (rd_T71 l0 x12_1).f2⟩ : S71))
              (case aB => exact (Zc1 GE407.out))
              (case aF => exact (fun k_ hk => .inr ⟨Kd.freshB (g := gb407) (o := .cells #[.string ((rd_T71 l0 x12_1).f0.f0), .int .i64 ((rd_T71 l0 x12_1).f0.f1), .int .i64 ((rd_T71 l0 x12_1).f0.f2), .int .i64 ((rd_T71 l0 x12_1).f0.f3), .int .i64 ((rd_T71 l0 x12_1).f1), .int .i64 ((rd_T71 l0 x12_1).f2)] 71 (0, 0)) (Zu BK407.out) k_ hk, hk⟩))
              (case aO => exact (by (with_reducible repeat (first | apply Kd.R_alloc | apply Kd.R_drewN | apply Kd.R_drew)); exact Kd.R_mono UU64.out (fun _ hk => .inl hk)))
              (case aS => exact (Qau (Zc1 GE407.out)))
              (case aL => have := LMc57.out; omega)
              intro v433 w65 ho hb hg hat
              (first | have HS6_ := cellg hg (hHeld.2.2.2.2.2.2) (by first | (rw [QaW]; exact (fun e_ => ((HL431_0.out.1 _ e_.symm).2) rfl)) | (show some (Addr.add _ _).block ≠ _; rw [QaW]; exact (fun e_ => ((HL431_0.out.1 _ e_.symm).2) rfl)) | exact (fun e_ => ((HL431_0.out.1 _ e_.symm).2) rfl)) | have HS6_ := cellg hg (QbG (hHeld.2.2.2.2.2.2) (by first | (rw [QaW]; exact Kd.S_lt HO430.out _ rfl) | (show (Addr.add _ _).block < _; rw [QaW]; exact Kd.S_lt HO430.out _ rfl) | exact Kd.S_lt HO430.out _ rfl)) (by first | (rw [QaW]; exact (fun e_ => ((HL431_0.out.1 _ e_.symm).2) rfl)) | (show some (Addr.add _ _).block ≠ _; rw [QaW]; exact (fun e_ => ((HL431_0.out.1 _ e_.symm).2) rfl)) | exact (fun e_ => ((HL431_0.out.1 _ e_.symm).2) rfl)))
              rw [← Ny432.out] at ho
              have HO434 := Aside0.mk (ho)
              replace BK407 := Aside0.mk (QaN (g := gb407) (o := .cells #[.string ((rd_T71 l0 x12_1).f0.f0), .int .i64 ((rd_T71 l0 x12_1).f0.f1), .int .i64 ((rd_T71 l0 x12_1).f0.f2), .int .i64 ((rd_T71 l0 x12_1).f0.f3), .int .i64 ((rd_T71 l0 x12_1).f1), .int .i64 ((rd_T71 l0 x12_1).f2)] 71 (0, 0)) (Zu BK407.out) hg (Kd.R_away HL431_0.out (fun _ hk => hk.1)))
              replace HO427 := Aside0.mk (Kd.R_over' (v := (.slice A431_0 (rd_L7 y428 (ji54)).length c431_0)) (Zr HO427.out) (Kd.R_typed HL431_0.out) (by decide) hg)
              replace HB := Aside0.mk (hb)
              replace HH64 := Aside0.mk (Kd.H_grown (Kd.H_widen (by repeat (first | exact HH64.out | refine Kd.H_alloc ?_ _ | refine Kd.H_drewN ?_ _ | refine Kd.H_drew ?_))) hg (fun k_ e_ => .inl (UU64.out.1 k_ e_)))
              clear HO430 UU64 HL431_0
              clear ho hb hg hat
              have p58 : 0 ≤ ((ji54) : Int) := Ze
              have q58 : ((ji54) : Int) < ((y428.length : Int) : Int) := Ze
              replace p58 := eq_true p58
              replace q58 := eq_true q58
              obtain ⟨Ao68, co68, eo68⟩ := Kd.R_slice HO434.out
              (first | subst eo68 | (injection eo68 with f1_ f2_ f3_; have f4_ := f1_.symm; have f5_ := f3_.symm; clear f1_ f2_ f3_; subst f4_; subst f5_))
              obtain ⟨_, _, hraw66, _, _, hcc66, _⟩ := Kd.H_raw HH64.out (Ze) (by have h_ : ((ji54) : Int) < ((y428.length : Int) : Int) := Ze; first | exact h_ | (have e_ := (HN64.out); omega) | simpa using h_)
              obtain ⟨_, hfr66⟩ := Kd.H_at HH64.out (Ze) (by have h_ : ((ji54) : Int) < ((y428.length : Int) : Int) := Ze; first | exact h_ | (have e_ := (HN64.out); omega) | simpa using h_)
              have hx66_0 := hcc66 0 _ rfl
              have hf66_0 := hfr66 0
              (try simp only [Nat.add_zero] at hx66_0 hf66_0)
              (try rw [show ((Kd.slice 71 k71)).sz = 1 from rfl, Nat.mul_one] at hx66_0)
              (try rw [show ((Kd.slice 71 k71)).sz = 1 from rfl, Nat.mul_one] at hf66_0)
              have HP66 := Kd.S_seg0 HH64.out (Ze) (by have h_ : ((ji54) : Int) < ((y428.length : Int) : Int) := Ze; first | exact h_ | (have e_ := (HN64.out); omega) | simpa using h_) (seg := [.slice Ao68 y432.length co68]) (j := 0) (show 1 ≤ 1 from by decide) (x' := y432) (Kd.M_row HO434.out) (fun _ hk => hk)
              (try simp only [show ((Kd.slice 71 k71)).sz = 1 from rfl, Nat.mul_one, Nat.add_zero] at HP66)
              clear hcc66 hfr66
              have HNB407_go64 := Aside0.mk (show gb407 ≠ go64 from by have h_ := Kd.R_ne hraw66 BK407.out (by decide); intro e_; exact h_ (by rw [e_]; rfl))
              have HS66 := HP66.1
              rw [← Ny435.out] at HS66
              have HQ66 := Aside0.mk HS66
              obtain ⟨_, hgg66⟩ := Kd.R_typed hraw66 go64 rfl
              have GG66_ := Aside0.mk hgg66
              clear HP66 HS66 hgg66
              refine hK.out _ _ ⟨(Qae BK407.out 0).trans rfl, (Qae BK407.out 1).trans rfl, (Qae BK407.out 2).trans rfl, (Qae BK407.out 3).trans rfl, (Qae BK407.out 4).trans rfl, (Qae BK407.out 5).trans rfl, HS6_⟩ (fun hHeld => ?_)
              clear hK K
              refine norm_ (a' := ?_) ?_ ?_
              rotate_left
              ·show Act.put _ (some 52) _ = _
               simp only [Act.put, Zj, Zk, Zm, i64_w, i32_w]
               rfl
              refine Zsp (i := 13) (N := some 53) (pm 15 14) HT_ ?_
              refine last_ (i := 14) (N := none) #[T, T, T, T, T, T, T, T, T, T, T, T, T, T, T] rfl rfl (one_of HT_.out (by kernel_rfl)) (by decide) (fun K hK => ?_)
              refine skip_ (w1 := ?_) (by rfl) rfl ?_ ?_
              rotate_left
              ·go_simp
               rfl
              refine hK.out _ _ ?_
              clear hK K
              refine done_ (Qbc HT_.out (by kernel_rfl)) ?_
              try go_wp2
              go_roundg k1
              case measure => have := HK1.out; omega
              case rel => exact ⟨(y425), (y435), (wrap64 (x12_1 + 1)), (Zs), H', ⟨by have := HK1.out; omega⟩, ⟨by (with_reducible repeat (first | apply Kd.R_alloc | apply Kd.R_drewN | apply Kd.R_drew)); exact Kd.R_mono (Kd.R_far (p := ⟨go64, ((ji54) : Int).toNat, none⟩) (Kd.R_types HO427.out GG66_.out (by decide)) (fun _ hk => hk.2) (.slice Ao68 y432.length co68)) (fun _ hk => trivial)⟩, ⟨by (with_reducible repeat (first | apply Kd.S_alloc | apply Kd.S_drewN | apply Kd.S_drew)); exact Kd.S_mono HQ66.out (fun _ hk => trivial)⟩, ⟨by repeat (first | (with_reducible first | exact HB.out | apply Qac | apply Qab | apply Qad | refine Qam ?_ GB64.out | refine Qam ?_ GE407.out) | exact HB.out)⟩⟩
             rw [if_neg c57] at H
             exact absurd H (by simp)
            rw [if_neg c56] at H
            exact absurd H (by simp)
           rw [if_neg c55] at H
           exact absurd H (by simp)
          rw [if_neg c53] at H
          exact absurd H (by simp)
         rw [if_neg c52] at H
         exact absurd H (by simp)
        rw [if_neg c33] at H
        exact absurd H (by simp)
       rw [if_neg c32] at H
       exact absurd H (by simp)
      rw [if_neg c7] at H
      exact absurd H (by simp)
     rw [if_neg c6] at H
     exact absurd H (by simp)
    rw [if_neg c5] at H
    have c5b0 : decide (x12_1 < (l0.length : Int)) = F := decide_eq_false c5
    clear c5
    (try simp only [c5b0])
    simp only [Option.some.injEq, Prod.mk.injEq] at H
    obtain ⟨rfl, rfl⟩ := H
    go_wp2
    go_ret2
    exact ⟨_, _, Zq, Zr HO_2.out, by (with_reducible repeat (first | apply Kd.S_alloc | apply Kd.S_drewN | apply Kd.S_drew)); exact HO_3.out, Zb⟩
 rw [if_neg c4] at H
 have c4b0 : (t405 == 0) = F := beq_eq_false_iff_ne.mpr c4
 have c4b1 : (t405 != 0) = T := bne_iff_ne.mpr c4
 (try simp only [c4b0, c4b1])
 simp only [Option.some.injEq, Prod.mk.injEq] at H
 obtain ⟨rfl, rfl⟩ := H
 go_wp2
 go_ret2
 exact ⟨_, _, Zq, by first | exact Kd.R_nil _ _ _ _ _ | exact Kd.N_nil _ _ _ _ _ | exact Kd.V_nil _ _ _ _ _ | exact Kd.Q_nil _ _ _ _ _ | exact Kd.S_nil _ _ _ _ _, by first | exact Kd.S_nil _ _ _ _ _ | exact Kd.N_nil _ _ _ _ _ | exact Kd.V_nil _ _ _ _ _ | exact Kd.Q_nil _ _ _ _ _ | exact Kd.R_nil _ _ _ _ _, Zb⟩
end Go.Proofs.Ytgnmhfjfefgbfaa.Pr
