/- Functions' values and contracts, as the print wrote them. -/
import Derived.Test.YtfcaaefdmabkhaaQDA3P0
import Derived.Test.YtfcaaefdmabkhaaQDA3P3
import Derived.Test.YtfcaaefdmabkhaaQDA3P4
import Derived.Test.YtfcaaefdmabkhaaQDA3P2
namespace Go.Proofs.Ytfcaaefdmabkhaa.Pr
open Bool renaming true → T
open Bool renaming false → F
open Go.RowKit Go.Proofs.YtfcaaefdmabkhaaW.PrintWords Go.Proofs.YtfcaaefdmabkhaaW.PrintLast Go.Proofs.YtfcaaefdmabkhaaW.PrintMore
attribute [local go_sem] QaQ QaS Qa1 Qa2 QaJ QaK QaR QaT   -- for this text's walks alone
set_option linter.unusedVariables false
set_option linter.unusedSimpArgs false
set_option maxRecDepth 100000
set_option maxHeartbeats 8000000
mutual
def Qau.j0 : Nat → List (S98) → Bool → Option (Int)
 | 0, _, _ => none
 | k + 1, x0, x15 => if x15 = T then (some 8) else (Qau.l0 k x0 0)
def Qau.l0 : Nat → List (S98) → Int → Option (Int)
 | 0, _, _ => none
 | k + 1, x0, x3 => if x3 < (x0.length : Int) then (if 0 ≤ x3 then ((Qay.f k ((rd_T98 x0 x3).f0)).bind fun t361 => (if t361 = T then (Qau.l0 k x0 (wrap64 (x3 + 1))) else (some 10))) else (none)) else (Qau.l1 k x0 0)
def Qau.l1 : Nat → List (S98) → Int → Option (Int)
 | 0, _, _ => none
 | k + 1, x0, x4 => if x4 < (x0.length : Int) then (if 0 ≤ x4 then ((QaO.f k x0 ((rd_T98 x0 x4).f0)).bind fun bt363 => (if bt363.1 = x4 then (Qau.l1 k x0 (wrap64 (x4 + 1))) else (some 12))) else (none)) else (Qau.l2 k x0 0)
def Qau.l2 : Nat → List (S98) → Int → Option (Int)
 | 0, _, _ => none
 | k + 1, x0, x7 => if x7 < (x0.length : Int) then (if 0 ≤ x7 then (if ((rd_T98 x0 x7).f1) < 1 then (some 25) else (if ((rd_T98 x0 x7).f1) > 1000000000000 then (some 25) else (if x7 = 0 then (if ((rd_T98 x0 x7).f1) = 1000000 then (Qau.l2 k x0 (wrap64 (x7 + 1))) else (some 25)) else (Qau.l2 k x0 (wrap64 (x7 + 1)))))) else (none)) else (some 0)
end
def Qau.f (k : Nat) (l0 : List (S98)) : Option (Int) := if (l0.length : Int) = 0 then (Qau.j0 k l0 T) else (Qau.j0 k l0 (decide ((l0.length : Int) > 8)))
theorem Qau.mono_l : ∀ k, (∀ y0 y1, LeO (Qau.j0 k y0 y1) (Qau.j0 (k + 1) y0 y1)) ∧ (∀ y0 y1, LeO (Qau.l0 k y0 y1) (Qau.l0 (k + 1) y0 y1)) ∧ (∀ y0 y1, LeO (Qau.l1 k y0 y1) (Qau.l1 (k + 1) y0 y1)) ∧ (∀ y0 y1, LeO (Qau.l2 k y0 y1) (Qau.l2 (k + 1) y0 y1))
 | 0 => ⟨fun _ _ r h => by simp [Qau.j0] at h, fun _ _ r h => by simp [Qau.l0] at h, fun _ _ r h => by simp [Qau.l1] at h, fun _ _ r h => by simp [Qau.l2] at h⟩
 | k + 1 => by
  obtain ⟨ih0, ih1, ih2, ih3⟩ := Qau.mono_l k
  refine ⟨?_, ?_, ?_, ?_⟩
  ·intro y0 y1
   unfold Qau.j0
   exact ZM6 ih0 ih1 ih2 ih3 Qay.mono QaO.mono
  ·intro y0 y1
   unfold Qau.l0
   exact ZM6 ih0 ih1 ih2 ih3 Qay.mono QaO.mono
  ·intro y0 y1
   unfold Qau.l1
   exact ZM6 ih0 ih1 ih2 ih3 Qay.mono QaO.mono
  intro y0 y1
  unfold Qau.l2
  exact ZM6 ih0 ih1 ih2 ih3 Qay.mono QaO.mono
theorem Qau.mono : ∀ a0 k, LeO (Qau.f k a0) (Qau.f (k + 1) a0) := by
 intro a0 k
 obtain ⟨ih0, ih1, ih2, ih3⟩ := Qau.mono_l k
 unfold Qau.f
 exact ZM6 ih0 ih1 ih2 ih3 Qay.mono QaO.mono
theorem Qau.calls (k : Nat) (A0 : Option Addr) (c0 : Nat) (l0 : List (S98)) (r : Int) (w : World) (hr0 : Kd.C k98 w A0 l0.length l0) (hc0 : l0.length ≤ c0) (h : Qau.f k l0 = some r) :
  Calls Try.prog 119 #[.slice A0 l0.length c0] w fun e w' => e = .returned (.int .i64 r) ∧ Drawn0 w w' := by
 have HR0 := Aside0.mk hr0
 have HC0 := Aside0.mk hc0
 clear hr0 hc0
 have H : (if (l0.length : Int) = 0 then (Qau.j0 k l0 T) else (Qau.j0 k l0 (decide ((l0.length : Int) > 8)))) = some r := h
 clear h
 have HC2 := Aside0.mk H
 clear H
 go_enter Try.func119, Try.ntmps119
 go_upto_region 1 with (fail)
 go_cut [15] (fun v15 wc => ∃ (kq : Nat) (x15_1 : Bool), v15 = .bool x15_1 ∧ Aside0 (Qau.j0 kq l0 x15_1 = some r) ∧ Aside0 (kq ≤ k) ∧ Drawn0 w wc)
 case first =>
  have H := HC2.out
  clear HC2
  by_cases c3 : (l0.length : Int) = 0
  ·rw [if_pos c3] at H
   have c3b0 : ((l0.length : Int) == 0) = T := beq_iff_eq.mpr c3
   have c3b1 : ((l0.length : Int) != 0) = F := bne_eq_false_iff_eq.mpr c3
   clear c3
   have H' := Aside0.mk H
   clear H
   go_wp2
   go_meet
   case rel => exact ⟨_, (T), (Zs), H', ⟨by first | omega | exact Nat.le_refl _⟩, Zd⟩
  rw [if_neg c3] at H
  have c3b0 : ((l0.length : Int) == 0) = F := beq_eq_false_iff_ne.mpr c3
  have c3b1 : ((l0.length : Int) != 0) = T := bne_iff_ne.mpr c3
  have c3b2 : ¬ (l0 = []) := fun h_ => c3 (by rw [h_]; rfl)
  have H' := Aside0.mk H
  clear H
  go_wp2
  go_meet
  case rel => exact ⟨_, (decide ((l0.length : Int) > 8)), (Zs), H', ⟨by first | omega | exact Nat.le_refl _⟩, Zd⟩
 case rest =>
  clear HC2
  try clear c1
  try clear p2
  try clear c3
  try clear c3b0
  try clear c3b1
  try clear c3b2
  obtain ⟨kq, x15_1, rfl, HA, HJ1, ⟨mc1, rfl⟩⟩ := hcut
  cases kq with
  | zero => exact absurd HA.out (by simp [Qau.j0])
  | succ kj1 =>
   have H := HA.out
   clear HA
   simp only [Qau.j0] at H
   by_cases c4 : x15_1 = T
   ·subst c4
    have H1 : (some 8) = some r := by rw [if_pos rfl] at H; exact H
    clear H
    have H := H1
    clear H1
    obtain rfl := Option.some.inj H
    go_wp2
    go_ret
    exact ⟨Zs, Zd⟩
   replace c4 := Bool.eq_false_iff.mpr c4
   subst c4
   have H1 : (Qau.l0 kj1 l0 0) = some r := by rw [if_neg (show ¬ (F = T) by decide)] at H; exact H
   clear H
   have H := H1
   clear H1
   have H' := Aside0.mk H
   clear H
   go_wp2
   go_loopg [3] kj1 (fun kq v3 w' => ∃ (x3_2 : Int), v3 = .int .i64 x3_2 ∧ Aside0 (Qau.l0 kq l0 x3_2 = some r) ∧ Aside0 (kq ≤ kj1) ∧ Drawn0 w w')
   case atStart => exact ⟨(0), (Zs), H', ⟨Nat.le_refl _⟩, Zd⟩
   case round =>
    clear H'
    try clear c1
    try clear p2
    try clear c3
    try clear c3b0
    try clear c3b1
    try clear c3b2
    try clear c4
    try clear p2
    obtain ⟨x3_2, rfl, HA, HK2, ⟨m2, rfl⟩⟩ := hrel
    cases gk with
    | zero => exact absurd HA.out (by simp [Qau.l0])
    | succ k2 =>
     have H := HA.out
     clear HA
     simp only [Qau.l0] at H
     by_cases c5 : x3_2 < (l0.length : Int)
     ·rw [if_pos c5] at H
      have c5b0 : decide (x3_2 < (l0.length : Int)) = T := decide_eq_true c5
      clear c5
      (try simp only [c5b0])
      by_cases c6 : 0 ≤ x3_2
      ·rw [if_pos c6] at H
       have c6b0 : decide (0 ≤ x3_2) = T := decide_eq_true c6
       clear c6
       replace H := Option.bind_eq_some_iff.mp H
       obtain ⟨t361, A70, H⟩ := H
       replace H : (if t361 = T then (Qau.l0 k2 l0 (wrap64 (x3_2 + 1))) else (some 10)) = some r := H
       have A7 := Aside0.mk A70
       clear A70
       have p360 : 0 ≤ (x3_2 : Int) := Ze
       have q360 : x3_2 < (l0.length : Int) := Ze
       obtain ⟨ad360, e360, hx360_0, hx360_1⟩ := at_T98 HR0.out x3_2 p360 q360
       cases e360
       replace p360 := eq_true p360
       replace q360 := eq_true q360
       go_upto_if 28 with (first | ((with_reducible refine Qaw (f := 99) rfl ?_); refine goesL_ (some 27) rfl rfl Try.func99 (by kernel_rfl) rfl #[.string ((rd_T98 l0 x3_2).f0)] rfl (Zl) ?_; (with_reducible refine (Qay.calls k2 ((rd_T98 l0 x3_2).f0) t361 _ A7.out).mono ?_); rintro e w' ⟨rfl, ⟨nd, rfl⟩⟩; refine ⟨_, rfl, ?_⟩))
       (try simp only [Act.put, Zj, Zk, Zm])
       by_cases c8 : t361 = T
       ·subst c8
        have H1 : (Qau.l0 k2 l0 (wrap64 (x3_2 + 1))) = some r := by rw [if_pos rfl] at H; exact H
        clear H
        have H := H1
        clear H1
        have H' := Aside0.mk H
        clear H
        go_wp2
        go_roundg k2
        case measure => have := HJ1.out; have := HK2.out; omega
        case rel => exact ⟨(wrap64 (x3_2 + 1)), (Zs), H', ⟨by have := HJ1.out; have := HK2.out; omega⟩, Zd⟩
       replace c8 := Bool.eq_false_iff.mpr c8
       subst c8
       have H1 : (some 10) = some r := by rw [if_neg (show ¬ (F = T) by decide)] at H; exact H
       clear H
       have H := H1
       clear H1
       obtain rfl := Option.some.inj H
       go_wp2
       go_ret
       exact ⟨Zs, Zd⟩
      rw [if_neg c6] at H
      exact absurd H (by simp)
     rw [if_neg c5] at H
     have c5b0 : decide (x3_2 < (l0.length : Int)) = F := decide_eq_false c5
     clear c5
     (try simp only [c5b0])
     have H' := Aside0.mk H
     clear H
     go_wp2
     go_loopg [4] k2 (fun kq v4 w' => ∃ (x4_3 : Int), v4 = .int .i64 x4_3 ∧ Aside0 (Qau.l1 kq l0 x4_3 = some r) ∧ Aside0 (kq ≤ k2) ∧ Drawn0 w w')
     case atStart => exact ⟨(0), (Zs), H', ⟨Nat.le_refl _⟩, Zd⟩
     case round =>
      clear H'
      try clear c1
      try clear p2
      try clear c3
      try clear c3b0
      try clear c3b1
      try clear c3b2
      try clear p3
      try clear q3
      try clear hx3
      try clear c4
      try clear c5
      try clear c5b0
      try clear c6
      try clear c6b0
      try clear p6
      try clear c8
      try clear hx360_0
      try clear hx360_1
      try clear p2
      try clear p360
      try clear q360
      obtain ⟨x4_3, rfl, HA, HK3, ⟨m3, rfl⟩⟩ := hrel
      cases gk with
      | zero => exact absurd HA.out (by simp [Qau.l1])
      | succ k3 =>
       have H := HA.out
       clear HA
       simp only [Qau.l1] at H
       by_cases c9 : x4_3 < (l0.length : Int)
       ·rw [if_pos c9] at H
        have c9b0 : decide (x4_3 < (l0.length : Int)) = T := decide_eq_true c9
        clear c9
        (try simp only [c9b0])
        by_cases c10 : 0 ≤ x4_3
        ·rw [if_pos c10] at H
         have c10b0 : decide (0 ≤ x4_3) = T := decide_eq_true c10
         clear c10
         replace H := Option.bind_eq_some_iff.mp H
         obtain ⟨⟨t363, t364⟩, A110, H⟩ := H
         replace H : (if t363 = x4_3 then (Qau.l1 k3 l0 (wrap64 (x4_3 + 1))) else (some 12)) = some r := H
         have A11 := Aside0.mk A110
         clear A110
         have p362 : 0 ≤ (x4_3 : Int) := Ze
         have q362 : x4_3 < (l0.length : Int) := Ze
         obtain ⟨ad362, e362, hx362_0, hx362_1⟩ := at_T98 HR0.out x4_3 p362 q362
         cases e362
         replace p362 := eq_true p362
         replace q362 := eq_true q362
         go_upto_if 47 with (first | ((with_reducible refine Qaw (f := 128) rfl ?_); refine goesL_ (some 42) rfl rfl Try.func128 (by kernel_rfl) rfl #[.slice (some ad362) l0.length c0, .string ((rd_T98 l0 x4_3).f0)] rfl (Zl) ?_; (with_reducible refine (QaO.calls k3 _ _ l0 ((rd_T98 l0 x4_3).f0) t363 t364 _ ?side1 ?side2 A11.out).mono ?_); (case side1 => exact Zv HR0.out); (case side2 => exact HC0.out); rintro e w' ⟨rfl, ⟨nd, rfl⟩⟩; refine ⟨_, rfl, ?_⟩))
         (try simp only [Act.put, Zj, Zk, Zm])
         by_cases c12 : t363 = x4_3
         ·rw [if_pos c12] at H
          have c12b0 : (t363 == x4_3) = T := beq_iff_eq.mpr c12
          have c12b1 : (t363 != x4_3) = F := bne_eq_false_iff_eq.mpr c12
          clear c12
          (try simp only [c12b0, c12b1])
          have H' := Aside0.mk H
          clear H
          go_wp2
          go_roundg k3
          case measure => have := HJ1.out; have := HK2.out; have := HK3.out; omega
          case rel => exact ⟨(wrap64 (x4_3 + 1)), (Zs), H', ⟨by have := HJ1.out; have := HK2.out; have := HK3.out; omega⟩, Zd⟩
         rw [if_neg c12] at H
         have c12b0 : (t363 == x4_3) = F := beq_eq_false_iff_ne.mpr c12
         have c12b1 : (t363 != x4_3) = T := bne_iff_ne.mpr c12
         (try simp only [c12b0, c12b1])
         obtain rfl := Option.some.inj H
         go_wp2
         go_ret
         exact ⟨Zs, Zd⟩
        rw [if_neg c10] at H
        exact absurd H (by simp)
       rw [if_neg c9] at H
       have c9b0 : decide (x4_3 < (l0.length : Int)) = F := decide_eq_false c9
       clear c9
       (try simp only [c9b0])
       have H' := Aside0.mk H
       clear H
       go_wp2
       go_loopg [7] k3 (fun kq v7 w' => ∃ (x7_4 : Int), v7 = .int .i64 x7_4 ∧ Aside0 (Qau.l2 kq l0 x7_4 = some r) ∧ Aside0 (kq ≤ k3) ∧ Drawn0 w w')
       case atStart => exact ⟨(0), (Zs), H', ⟨Nat.le_refl _⟩, Zd⟩
       case round =>
        clear H'
        try clear c1
        try clear p2
        try clear c3
        try clear c3b0
        try clear c3b1
        try clear c3b2
        try clear p3
        try clear q3
        try clear hx3
        try clear c4
        try clear c5
        try clear c5b0
        try clear c6
        try clear c6b0
        try clear p6
        try clear c8
        try clear c9
        try clear c9b0
        try clear c10
        try clear c10b0
        try clear c11
        try clear c12
        try clear c12b0
        try clear c12b1
        try clear hx360_0
        try clear hx360_1
        try clear hx362_0
        try clear hx362_1
        try clear p2
        try clear p3
        try clear p360
        try clear p362
        try clear p6
        try clear q3
        try clear q360
        try clear q362
        obtain ⟨x7_4, rfl, HA, HK4, ⟨m4, rfl⟩⟩ := hrel
        cases gk with
        | zero => exact absurd HA.out (by simp [Qau.l2])
        | succ k4 =>
         have H := HA.out
         clear HA
         simp only [Qau.l2] at H
         by_cases c13 : x7_4 < (l0.length : Int)
         ·rw [if_pos c13] at H
          have c13b0 : decide (x7_4 < (l0.length : Int)) = T := decide_eq_true c13
          clear c13
          (try simp only [c13b0])
          by_cases c14 : 0 ≤ x7_4
          ·rw [if_pos c14] at H
           have c14b0 : decide (0 ≤ x7_4) = T := decide_eq_true c14
           clear c14
           by_cases c15 : ((rd_T98 l0 x7_4).f1) < 1
           ·rw [if_pos c15] at H
            have c15b0 : decide (((rd_T98 l0 x7_4).f1) < 1) = T := decide_eq_true c15
            clear c15
            obtain rfl := Option.some.inj H
            have p365 : 0 ≤ (x7_4 : Int) := Ze
            have q365 : x7_4 < (l0.length : Int) := Ze
            obtain ⟨ad365, e365, hx365_0, hx365_1⟩ := at_T98 HR0.out x7_4 p365 q365
            cases e365
            replace p365 := eq_true p365
            replace q365 := eq_true q365
            go_wp2
            go_ret
            exact ⟨Zs, Zd⟩
           rw [if_neg c15] at H
           have c15b0 : decide (((rd_T98 l0 x7_4).f1) < 1) = F := decide_eq_false c15
           clear c15
           by_cases c16 : ((rd_T98 l0 x7_4).f1) > 1000000000000
           ·rw [if_pos c16] at H
            have c16b0 : decide (1000000000000 < ((rd_T98 l0 x7_4).f1)) = T := decide_eq_true c16
            clear c16
            obtain rfl := Option.some.inj H
            have p365 : 0 ≤ (x7_4 : Int) := Ze
            have q365 : x7_4 < (l0.length : Int) := Ze
            obtain ⟨ad365, e365, hx365_0, hx365_1⟩ := at_T98 HR0.out x7_4 p365 q365
            cases e365
            replace p365 := eq_true p365
            replace q365 := eq_true q365
            have p366 : 0 ≤ (x7_4 : Int) := Ze
            have q366 : x7_4 < (l0.length : Int) := Ze
            obtain ⟨ad366, e366, hx366_0, hx366_1⟩ := at_T98 HR0.out x7_4 p366 q366
            obtain rfl : ad365 = ad366 := (by injection e366)
            replace p366 := eq_true p366
            replace q366 := eq_true q366
            go_wp2
            go_ret
            exact ⟨Zs, Zd⟩
           rw [if_neg c16] at H
           have c16b0 : decide (1000000000000 < ((rd_T98 l0 x7_4).f1)) = F := decide_eq_false c16
           clear c16
           by_cases c17 : x7_4 = 0
           ·rw [if_pos c17] at H
            have c17b0 : (x7_4 == 0) = T := beq_iff_eq.mpr c17
            have c17b1 : (x7_4 != 0) = F := bne_eq_false_iff_eq.mpr c17
            clear c17
            have p365 : 0 ≤ (x7_4 : Int) := Ze
            have q365 : x7_4 < (l0.length : Int) := Ze
            obtain ⟨ad365, e365, hx365_0, hx365_1⟩ := at_T98 HR0.out x7_4 p365 q365
            cases e365
            replace p365 := eq_true p365
            replace q365 := eq_true q365
            have p366 : 0 ≤ (x7_4 : Int) := Ze
            have q366 : x7_4 < (l0.length : Int) := Ze
            obtain ⟨ad366, e366, hx366_0, hx366_1⟩ := at_T98 HR0.out x7_4 p366 q366
            obtain rfl : ad365 = ad366 := (by injection e366)
            replace p366 := eq_true p366
            replace q366 := eq_true q366
            have p367 : 0 ≤ (x7_4 : Int) := Ze
            have q367 : x7_4 < (l0.length : Int) := Ze
            obtain ⟨ad367, e367, hx367_0, hx367_1⟩ := at_T98 HR0.out x7_4 p367 q367
            obtain rfl : ad365 = ad367 := (by injection e367)
            replace p367 := eq_true p367
            replace q367 := eq_true q367
            go_upto_if 79 with (fail)
            by_cases c18 : ((rd_T98 l0 x7_4).f1) = 1000000
            ·rw [if_pos c18] at H
             have c18b0 : (((rd_T98 l0 x7_4).f1) == 1000000) = T := beq_iff_eq.mpr c18
             have c18b1 : (((rd_T98 l0 x7_4).f1) != 1000000) = F := bne_eq_false_iff_eq.mpr c18
             clear c18
             (try simp only [c18b0, c18b1])
             have H' := Aside0.mk H
             clear H
             go_wp2
             go_roundg k4
             case measure => have := HJ1.out; have := HK2.out; have := HK3.out; have := HK4.out; omega
             case rel => exact ⟨(wrap64 (x7_4 + 1)), (Zs), H', ⟨by have := HJ1.out; have := HK2.out; have := HK3.out; have := HK4.out; omega⟩, Zd⟩
            rw [if_neg c18] at H
            have c18b0 : (((rd_T98 l0 x7_4).f1) == 1000000) = F := beq_eq_false_iff_ne.mpr c18
            have c18b1 : (((rd_T98 l0 x7_4).f1) != 1000000) = T := bne_iff_ne.mpr c18
            (try simp only [c18b0, c18b1])
            obtain rfl := Option.some.inj H
            go_wp2
            go_ret
            exact ⟨Zs, Zd⟩
           rw [if_neg c17] at H
           have c17b0 : (x7_4 == 0) = F := beq_eq_false_iff_ne.mpr c17
           have c17b1 : (x7_4 != 0) = T := bne_iff_ne.mpr c17
           have H' := Aside0.mk H
           clear H
           have p365 : 0 ≤ (x7_4 : Int) := Ze
           have q365 : x7_4 < (l0.length : Int) := Ze
           obtain ⟨ad365, e365, hx365_0, hx365_1⟩ := at_T98 HR0.out x7_4 p365 q365
           cases e365
           replace p365 := eq_true p365
           replace q365 := eq_true q365
           have p366 : 0 ≤ (x7_4 : Int) := Ze
           have q366 : x7_4 < (l0.length : Int) := Ze
           obtain ⟨ad366, e366, hx366_0, hx366_1⟩ := at_T98 HR0.out x7_4 p366 q366
           obtain rfl : ad365 = ad366 := (by injection e366)
           replace p366 := eq_true p366
           replace q366 := eq_true q366
           go_wp2
           go_roundg k4
           case measure => have := HJ1.out; have := HK2.out; have := HK3.out; have := HK4.out; omega
           case rel => exact ⟨(wrap64 (x7_4 + 1)), (Zs), H', ⟨by have := HJ1.out; have := HK2.out; have := HK3.out; have := HK4.out; omega⟩, Zd⟩
          rw [if_neg c14] at H
          exact absurd H (by simp)
         rw [if_neg c13] at H
         have c13b0 : decide (x7_4 < (l0.length : Int)) = F := decide_eq_false c13
         clear c13
         (try simp only [c13b0])
         obtain rfl := Option.some.inj H
         go_wp2
         go_ret
         exact ⟨Zs, Zd⟩
def Qa8.f (k : Nat) (l0 : List (S98)) (a1 : Int) (a2 : Int) (a3 : Int) (a4 : Int) : Option (Int × Int) := (Qau.f k l0).bind fun t368 => (if t368 = 0 then (if a2 < 0 then (some (0, 25)) else (if a3 < 0 then (some (0, 25)) else (if a2 ≥ (l0.length : Int) then (some (0, 25)) else (if a3 ≥ (l0.length : Int) then (some (0, 25)) else (if 0 ≤ a2 then (if a2 < (l0.length : Int) then (if 0 ≤ a3 then (if a3 < (l0.length : Int) then ((Qa9.f a1 ((rd_T98 l0 a2).f1) ((rd_T98 l0 a3).f1) a4).bind fun bt371 => (some (bt371.1, bt371.2))) else (none)) else (none)) else (none)) else (none)))))) else (some (0, t368)))
theorem Qa8.mono : ∀ a0 a1 a2 a3 a4 k, LeO (Qa8.f k a0 a1 a2 a3 a4) (Qa8.f (k + 1) a0 a1 a2 a3 a4) := by
 intro a0 a1 a2 a3 a4 k
 unfold Qa8.f
 exact ZM1 Qau.mono
def Qa8.T6 : Bool × List (List Nat × List Nat) := (T, [([], []), ([], []), ([], []), ([1, 2], [1, 2]), ([3], [3]), ([4], [4]), ([], []), ([], []), ([6, 7], [6, 7]), ([8], [8]), ([9], [9]), ([], []), ([0, 5, 10, 11], [0, 5, 10, 11]), ([12], [12]), ([12], [12]), ([13, 12, 0, 1, 2, 3, 4, 5, 6, 7, 8, 9, 10, 11, 12, 13, 14], [13]), ([14, 15, 0, 1, 2, 3, 4, 5, 6, 7, 8, 9, 10, 11, 12, 13, 14, 15], [14])])
def Qa8.B6 : List Nat := [0, 0, 0, 6, 14, 30, 0, 0, 192, 448, 960, 0, 4095, 8191, 8191, 32767, 65535]
theorem Qa8.tab6 : rtab .any (opsOf Try.f106 6) = Qa8.T6 := by kernel_rfl
theorem Qa8.bits6 : Qb0 Qa8.T6.2 Qa8.B6 = T := by kernel_rfl
theorem Qa8.calls (k : Nat) (A0 : Option Addr) (c0 : Nat) (l0 : List (S98)) (a1 : Int) (a2 : Int) (a3 : Int) (a4 : Int) (r1 : Int) (r2 : Int) (w : World) (hr0 : Kd.C k98 w A0 l0.length l0) (hc0 : l0.length ≤ c0) (h : Qa8.f k l0 a1 a2 a3 a4 = some (r1, r2)) :
  Calls Try.prog 106 #[.slice A0 l0.length c0, .int .i64 a1, .int .i64 a2, .int .i64 a3, .int .i64 a4] w fun e w' => e = .returned (.tuple #[.int .i64 r1, .int .i64 r2]) ∧ Below w.heap.size w w' := by
 have HR0 := Aside0.mk hr0
 have HC0 := Aside0.mk hc0
 clear hr0 hc0
 have HB := Aside0.mk (Below.refl w.heap.size w)
 have H : ((Qau.f k l0).bind fun t368 => (if t368 = 0 then (if a2 < 0 then (some (0, 25)) else (if a3 < 0 then (some (0, 25)) else (if a2 ≥ (l0.length : Int) then (some (0, 25)) else (if a3 ≥ (l0.length : Int) then (some (0, 25)) else (if 0 ≤ a2 then (if a2 < (l0.length : Int) then (if 0 ≤ a3 then (if a3 < (l0.length : Int) then ((Qa9.f a1 ((rd_T98 l0 a2).f1) ((rd_T98 l0 a3).f1) a4).bind fun bt371 => (some (bt371.1, bt371.2))) else (none)) else (none)) else (none)) else (none)))))) else (some (0, t368)))) = some (r1, r2) := h
 clear h
 replace H := Option.bind_eq_some_iff.mp H
 obtain ⟨t368, A60, H⟩ := H
 replace H : (if t368 = 0 then (if a2 < 0 then (some (0, 25)) else (if a3 < 0 then (some (0, 25)) else (if a2 ≥ (l0.length : Int) then (some (0, 25)) else (if a3 ≥ (l0.length : Int) then (some (0, 25)) else (if 0 ≤ a2 then (if a2 < (l0.length : Int) then (if 0 ≤ a3 then (if a3 < (l0.length : Int) then ((Qa9.f a1 ((rd_T98 l0 a2).f1) ((rd_T98 l0 a3).f1) a4).bind fun bt371 => (some (bt371.1, bt371.2))) else (none)) else (none)) else (none)) else (none)))))) else (some (0, t368))) = some (r1, r2) := H
 have A6 := Aside0.mk A60
 clear A60
 go_enter Try.func106, Try.ntmps106
 go_upto_if 16 with (first | ((with_reducible refine Qaw (f := 119) rfl ?_); refine goesL_ (some 14) rfl rfl Try.func119 (by kernel_rfl) rfl #[.slice A0 l0.length c0] rfl (Zl) ?_; (with_reducible refine (Qau.calls k _ _ l0 t368 _ ?side1 ?side2 A6.out).mono ?_); (case side1 => exact Zv HR0.out); (case side2 => exact HC0.out); rintro e w' ⟨rfl, ⟨nd, rfl⟩⟩; refine ⟨_, rfl, ?_⟩))
 (try simp only [Act.put, Zj, Zk, Zm])
 by_cases c7 : t368 = 0
 ·rw [if_pos c7] at H
  have c7b0 : (t368 == 0) = T := beq_iff_eq.mpr c7
  have c7b1 : (t368 != 0) = F := bne_eq_false_iff_eq.mpr c7
  clear c7
  (try simp only [c7b0, c7b1])
  by_cases c8 : a2 < 0
  ·rw [if_pos c8] at H
   have c8b0 : decide (a2 < 0) = T := decide_eq_true c8
   clear c8
   simp only [Option.some.injEq, Prod.mk.injEq] at H
   obtain ⟨rfl, rfl⟩ := H
   go_wp2
   go_ret2
   exact ⟨Zq, by repeat (first | (with_reducible first | exact HB.out | apply Qaf | apply Qae | apply Qag | exact Below.refl _ _) | exact HB.out)⟩
  rw [if_neg c8] at H
  have c8b0 : decide (a2 < 0) = F := decide_eq_false c8
  clear c8
  by_cases c9 : a3 < 0
  ·rw [if_pos c9] at H
   have c9b0 : decide (a3 < 0) = T := decide_eq_true c9
   clear c9
   simp only [Option.some.injEq, Prod.mk.injEq] at H
   obtain ⟨rfl, rfl⟩ := H
   go_wp2
   go_ret2
   exact ⟨Zq, by repeat (first | (with_reducible first | exact HB.out | apply Qaf | apply Qae | apply Qag | exact Below.refl _ _) | exact HB.out)⟩
  rw [if_neg c9] at H
  have c9b0 : decide (a3 < 0) = F := decide_eq_false c9
  clear c9
  by_cases c10 : a2 ≥ (l0.length : Int)
  ·rw [if_pos c10] at H
   have c10b0 : decide ((l0.length : Int) ≤ a2) = T := decide_eq_true c10
   clear c10
   simp only [Option.some.injEq, Prod.mk.injEq] at H
   obtain ⟨rfl, rfl⟩ := H
   go_wp2
   go_ret2
   exact ⟨Zq, by repeat (first | (with_reducible first | exact HB.out | apply Qaf | apply Qae | apply Qag | exact Below.refl _ _) | exact HB.out)⟩
  rw [if_neg c10] at H
  have c10b0 : decide ((l0.length : Int) ≤ a2) = F := decide_eq_false c10
  clear c10
  by_cases c11 : a3 ≥ (l0.length : Int)
  ·rw [if_pos c11] at H
   have c11b0 : decide ((l0.length : Int) ≤ a3) = T := decide_eq_true c11
   clear c11
   (try simp only [c11b0])
   simp only [Option.some.injEq, Prod.mk.injEq] at H
   obtain ⟨rfl, rfl⟩ := H
   go_wp2
   go_ret2
   exact ⟨Zq, by repeat (first | (with_reducible first | exact HB.out | apply Qaf | apply Qae | apply Qag | exact Below.refl _ _) | exact HB.out)⟩
  rw [if_neg c11] at H
  have c11b0 : decide ((l0.length : Int) ≤ a3) = F := decide_eq_false c11
  clear c11
  (try simp only [c11b0])
  by_cases c12 : 0 ≤ a2
  ·rw [if_pos c12] at H
   have c12b0 : decide (0 ≤ a2) = T := decide_eq_true c12
   clear c12
   by_cases c13 : a2 < (l0.length : Int)
   ·rw [if_pos c13] at H
    have c13b0 : decide (a2 < (l0.length : Int)) = T := decide_eq_true c13
    clear c13
    by_cases c14 : 0 ≤ a3
    ·rw [if_pos c14] at H
     have c14b0 : decide (0 ≤ a3) = T := decide_eq_true c14
     clear c14
     by_cases c15 : a3 < (l0.length : Int)
     ·rw [if_pos c15] at H
      have c15b0 : decide (a3 < (l0.length : Int)) = T := decide_eq_true c15
      clear c15
      replace H := Option.bind_eq_some_iff.mp H
      obtain ⟨⟨t371, t372⟩, A160, H⟩ := H
      replace H : (some (t371, t372)) = some (r1, r2) := H
      have A16 := Aside0.mk A160
      clear A160
      simp only [Option.some.injEq, Prod.mk.injEq] at H
      obtain ⟨rfl, rfl⟩ := H
      try go_wp2
      replace HB := Aside0.mk (Qag HB.out)
      have p369 : 0 ≤ (a2 : Int) := Ze
      have q369 : a2 < (l0.length : Int) := Ze
      obtain ⟨ad369, e369, hx369_0, hx369_1⟩ := at_T98 HR0.out a2 p369 q369
      have hw369_1 := hx369_1
      have hw369_0 := hx369_0
      cases e369
      replace hx369_0 := Zx HB.out hx369_0
      replace hx369_1 := Zx HB.out hx369_1
      replace p369 := eq_true p369
      replace q369 := eq_true q369
      have p370 : 0 ≤ (a3 : Int) := Ze
      have q370 : a3 < (l0.length : Int) := Ze
      obtain ⟨ad370, e370, hx370_0, hx370_1⟩ := at_T98 HR0.out a3 p370 q370
      have hw370_1 := hx370_1
      have hw370_0 := hx370_0
      obtain rfl : ad369 = ad370 := (by injection e370)
      replace hx370_0 := Zx HB.out hx370_0
      replace hx370_1 := Zx HB.out hx370_1
      replace p370 := eq_true p370
      replace q370 := eq_true q370
      refine start_ (n := 17) (S := fun w' => w'.cell? (ad369.add ((a2).toNat * 2)) = some (.string ((rd_T98 l0 a2).f0)) ∧ w'.cell? ⟨(ad369.add ((a2).toNat * 2)).block, (ad369.add ((a2).toNat * 2)).off + 1, none⟩ = some (.int .i64 ((rd_T98 l0 a2).f1)) ∧ w'.cell? (ad369.add ((a3).toNat * 2)) = some (.string ((rd_T98 l0 a3).f0)) ∧ w'.cell? ⟨(ad369.add ((a3).toNat * 2)).block, (ad369.add ((a3).toNat * 2)).off + 1, none⟩ = some (.int .i64 ((rd_T98 l0 a3).f1))) (ds := []) #[F, F, F, F, F, F, F, F, F, F, F, F, F, F, F, F, F] (by kernel_rfl) rfl rfl ⟨((HB.out.cell (World.block_lt_of_cell? w _ hw369_0)).trans hw369_0), ((HB.out.cell (World.block_lt_of_cell? w _ hw369_1)).trans hw369_1), ((HB.out.cell (World.block_lt_of_cell? w _ hw370_0)).trans hw370_0), ((HB.out.cell (World.block_lt_of_cell? w _ hw370_1)).trans hw370_1)⟩ (fun hHeld => ?_); refine QbW Qa8.tab6 Qa8.bits6 (fun HT_ HW_ => ?_)
      generalize w.drew = w17 at HB hx369_0 hx369_1 hx370_0 hx370_1 hHeld ⊢
      refine pure_ (i := 0) (N := some 36) (v := ?_) (a' := ?_) #[T, F, F, F, F, F, F, F, F, F, F, F, F, F, F, F, F] rfl rfl (any_of HT_.out (by kernel_rfl)) (fun _ _ _ h => h) (Or.inl ⟨by rfl, ?_⟩) ?_ ?_
      rotate_left
      ·intro w'
       go_simp
       with_reducible rfl
      rotate_left
      ·simp only [Act.put, Zj, Zk, Zm, i64_w, i32_w]
       rfl
      refine pure_ (i := 1) (N := some 37) (v := ?_) (a' := ?_) #[T, T, F, F, F, F, F, F, F, F, F, F, F, F, F, F, F] rfl rfl (any_of HT_.out (by kernel_rfl)) (fun _ _ _ h => h) (Or.inl ⟨by rfl, ?_⟩) ?_ ?_
      rotate_left
      ·intro w'
       go_simp
       with_reducible rfl
      rotate_left
      ·simp only [Act.put, Zj, Zk, Zm, i64_w, i32_w]
       rfl
      refine pure_ (i := 2) (N := some 38) (v := ?_) (a' := ?_) #[T, T, T, F, F, F, F, F, F, F, F, F, F, F, F, F, F] rfl rfl (any_of HT_.out (by kernel_rfl)) (fun _ _ _ h => h) (Or.inl ⟨by rfl, ?_⟩) ?_ ?_
      rotate_left
      ·intro w'
       go_simp
       with_reducible rfl
      rotate_left
      ·simp only [Act.put, Zj, Zk, Zm, i64_w, i32_w]
       rfl
      refine pure_ (i := 3) (N := some 39) (v := ?_) (a' := ?_) #[T, T, T, T, F, F, F, F, F, F, F, F, F, F, F, F, F] rfl rfl (any_of HT_.out (by kernel_rfl)) (fun _ _ _ h => h) (Or.inl ⟨by rfl, ?_⟩) ?_ ?_
      rotate_left
      ·intro w'
       go_simp
       with_reducible rfl
      rotate_left
      ·simp only [Act.put, Zj, Zk, Zm, i64_w, i32_w]
       rfl
      refine pure_ (i := 4) (N := some 40) (v := ?_) (a' := ?_) #[T, T, T, T, T, F, F, F, F, F, F, F, F, F, F, F, F] rfl rfl (any_of HT_.out (by kernel_rfl)) (fun _ _ _ h => h) (Or.inl ⟨by rfl, ?_⟩) ?_ ?_
      rotate_left
      ·intro w'
       go_simp
       with_reducible rfl
      rotate_left
      ·simp only [Act.put, Zj, Zk, Zm, i64_w, i32_w]
       rfl
      refine pure_ (i := 6) (N := some 42) (v := ?_) (a' := ?_) #[T, T, T, T, T, F, T, F, F, F, F, F, F, F, F, F, F] rfl rfl (any_of HT_.out (by kernel_rfl)) (fun _ _ _ h => h) (Or.inl ⟨by rfl, ?_⟩) ?_ ?_
      rotate_left
      ·intro w'
       go_simp
       with_reducible rfl
      rotate_left
      ·simp only [Act.put, Zj, Zk, Zm, i64_w, i32_w]
       rfl
      refine pure_ (i := 7) (N := some 43) (v := ?_) (a' := ?_) #[T, T, T, T, T, F, T, T, F, F, F, F, F, F, F, F, F] rfl rfl (any_of HT_.out (by kernel_rfl)) (fun _ _ _ h => h) (Or.inl ⟨by rfl, ?_⟩) ?_ ?_
      rotate_left
      ·intro w'
       go_simp
       with_reducible rfl
      rotate_left
      ·simp only [Act.put, Zj, Zk, Zm, i64_w, i32_w]
       rfl
      refine pure_ (i := 8) (N := some 44) (v := ?_) (a' := ?_) #[T, T, T, T, T, F, T, T, T, F, F, F, F, F, F, F, F] rfl rfl (any_of HT_.out (by kernel_rfl)) (fun _ _ _ h => h) (Or.inl ⟨by rfl, ?_⟩) ?_ ?_
      rotate_left
      ·intro w'
       go_simp
       with_reducible rfl
      rotate_left
      ·simp only [Act.put, Zj, Zk, Zm, i64_w, i32_w]
       rfl
      refine pure_ (i := 9) (N := some 45) (v := ?_) (a' := ?_) #[T, T, T, T, T, F, T, T, T, T, F, F, F, F, F, F, F] rfl rfl (any_of HT_.out (by kernel_rfl)) (fun _ _ _ h => h) (Or.inl ⟨by rfl, ?_⟩) ?_ ?_
      rotate_left
      ·intro w'
       go_simp
       with_reducible rfl
      rotate_left
      ·simp only [Act.put, Zj, Zk, Zm, i64_w, i32_w]
       rfl
      refine pure_ (i := 11) (N := some 47) (v := ?_) (a' := ?_) #[T, T, T, T, T, F, T, T, T, T, F, T, F, F, F, F, F] rfl rfl (any_of HT_.out (by kernel_rfl)) (fun _ _ _ h => h) (Or.inl ⟨by rfl, ?_⟩) ?_ ?_
      rotate_left
      ·intro w'
       go_simp
       with_reducible rfl
      rotate_left
      ·simp only [Act.put, Zj, Zk, Zm, i64_w, i32_w]
       rfl
      refine take_ (i := 5) (N := some 41) (v := ?_) (a' := ?_) #[T, T, T, T, T, T, T, T, T, T, F, T, F, F, F, F, F] rfl rfl (QbJ HT_.out HW_.out (by kernel_rfl)) (fun _ _ _ h => h) (Or.inl ⟨by rfl, ?_⟩) hHeld ?_ ?_
      rotate_left
      ·rintro w' ⟨s0, s1, s2, s3⟩
       go_simp
       with_reducible rfl
      rotate_left
      ·simp only [Act.put, Zj, Zk, Zm, i64_w, i32_w]
       rfl
      refine take_ (i := 10) (N := some 46) (v := ?_) (a' := ?_) #[T, T, T, T, T, T, T, T, T, T, T, T, F, F, F, F, F] rfl rfl (QbJ HT_.out HW_.out (by kernel_rfl)) (fun _ _ _ h => h) (Or.inl ⟨by rfl, ?_⟩) hHeld ?_ ?_
      rotate_left
      ·rintro w' ⟨s0, s1, s2, s3⟩
       go_simp
       with_reducible rfl
      rotate_left
      ·simp only [Act.put, Zj, Zk, Zm, i64_w, i32_w]
       rfl
      refine one_ (i := 12) (N := some 48) #[T, T, T, T, T, T, T, T, T, T, T, T, T, F, F, F, F] rfl rfl (one_of HT_.out (by kernel_rfl)) (by decide) (fun K hK => ?_)
      refine goes_ Try.func58 (by kernel_rfl) rfl #[.int .i64 a1, .int .i64 ((rd_T98 l0 a2).f1), .int .i64 ((rd_T98 l0 a3).f1), .int .i64 a4] (by rfl) rfl rfl (Zl) ?_
      with_reducible refine (Qa9.calls a1 ((rd_T98 l0 a2).f1) ((rd_T98 l0 a3).f1) a4 t371 t372 _ A16.out).mono ?_
      rintro e w18 ⟨rfl, hb⟩
      refine ⟨_, rfl, ?_⟩
      replace HB := Aside0.mk (Qan (by repeat (first | (with_reducible first | exact HB.out | apply Qaf | apply Qae | apply Qag | exact Below.refl _ _) | exact HB.out)) hb)
      (try clear hb)
      (try clear hb2)
      (try clear hk)
      (try clear hi)
      refine hK.out _ _ ⟨((HB.out.cell (World.block_lt_of_cell? w _ hw369_0)).trans hw369_0), ((HB.out.cell (World.block_lt_of_cell? w _ hw369_1)).trans hw369_1), ((HB.out.cell (World.block_lt_of_cell? w _ hw370_0)).trans hw370_0), ((HB.out.cell (World.block_lt_of_cell? w _ hw370_1)).trans hw370_1)⟩ (fun hHeld => ?_)
      clear hK K
      refine norm_ (a' := ?_) ?_ ?_
      rotate_left
      ·show Act.put _ (some 48) _ = _
       simp only [Act.put, Zj, Zk, Zm, i64_w, i32_w]
       rfl
      refine pure_ (i := 13) (N := some 49) (v := ?_) (a' := ?_) #[T, T, T, T, T, T, T, T, T, T, T, T, T, T, F, F, F] rfl rfl (any_of HT_.out (by kernel_rfl)) (fun _ _ _ h => h) (Or.inl ⟨by rfl, ?_⟩) ?_ ?_
      rotate_left
      ·intro w'
       go_simp
       with_reducible rfl
      rotate_left
      ·simp only [Act.put, Zj, Zk, Zm, i64_w, i32_w]
       rfl
      refine pure_ (i := 14) (N := some 50) (v := ?_) (a' := ?_) #[T, T, T, T, T, T, T, T, T, T, T, T, T, T, T, F, F] rfl rfl (any_of HT_.out (by kernel_rfl)) (fun _ _ _ h => h) (Or.inl ⟨by rfl, ?_⟩) ?_ ?_
      rotate_left
      ·intro w'
       go_simp
       with_reducible rfl
      rotate_left
      ·simp only [Act.put, Zj, Zk, Zm, i64_w, i32_w]
       rfl
      refine pure_ (i := 15) (N := some 10) (v := ?_) (a' := ?_) #[T, T, T, T, T, T, T, T, T, T, T, T, T, T, T, T, F] rfl rfl (any_of HT_.out (by kernel_rfl)) (fun _ _ _ h => h) (Or.inl ⟨by rfl, ?_⟩) ?_ ?_
      rotate_left
      ·intro w'
       go_simp
       with_reducible rfl
      rotate_left
      ·simp only [Act.put, Zj, Zk, Zm, i64_w, i32_w]
       rfl
      refine pure_ (i := 16) (N := some 11) (v := ?_) (a' := ?_) #[T, T, T, T, T, T, T, T, T, T, T, T, T, T, T, T, T] rfl rfl (any_of HT_.out (by kernel_rfl)) (fun _ _ _ h => h) (Or.inl ⟨by rfl, ?_⟩) ?_ ?_
      rotate_left
      ·intro w'
       go_simp
       with_reducible rfl
      rotate_left
      ·simp only [Act.put, Zj, Zk, Zm, i64_w, i32_w]
       rfl
      refine done_ (Qb4 HT_.out (by kernel_rfl)) ?_
      try go_wp2
      go_ret2
      exact ⟨Zq, by repeat (first | (with_reducible first | exact HB.out | apply Qaf | apply Qae | apply Qag | exact Below.refl _ _) | exact HB.out)⟩
     rw [if_neg c15] at H
     exact absurd H (by simp)
    rw [if_neg c14] at H
    exact absurd H (by simp)
   rw [if_neg c13] at H
   exact absurd H (by simp)
  rw [if_neg c12] at H
  exact absurd H (by simp)
 rw [if_neg c7] at H
 have c7b0 : (t368 == 0) = F := beq_eq_false_iff_ne.mpr c7
 have c7b1 : (t368 != 0) = T := bne_iff_ne.mpr c7
 (try simp only [c7b0, c7b1])
 simp only [Option.some.injEq, Prod.mk.injEq] at H
 obtain ⟨rfl, rfl⟩ := H
 go_wp2
 go_ret2
 exact ⟨Zq, by repeat (first | (with_reducible first | exact HB.out | apply Qaf | apply Qae | apply Qag | exact Below.refl _ _) | exact HB.out)⟩
def Qbu.f (k : Nat) (l0 : List (S98)) (a1 : Int) (a2 : Int) (a3 : Int) : Option (Int × Int) := (Qa8.f k l0 a1 a2 0 a3).bind fun bt373 => (some (bt373.1, bt373.2))
theorem Qbu.mono : ∀ a0 a1 a2 a3 k, LeO (Qbu.f k a0 a1 a2 a3) (Qbu.f (k + 1) a0 a1 a2 a3) := by
 intro a0 a1 a2 a3 k
 unfold Qbu.f
 exact ZM1 Qa8.mono
theorem Qbu.calls (k : Nat) (A0 : Option Addr) (c0 : Nat) (l0 : List (S98)) (a1 : Int) (a2 : Int) (a3 : Int) (r1 : Int) (r2 : Int) (w : World) (hr0 : Kd.C k98 w A0 l0.length l0) (hc0 : l0.length ≤ c0) (h : Qbu.f k l0 a1 a2 a3 = some (r1, r2)) :
  Calls Try.prog 70 #[.slice A0 l0.length c0, .int .i64 a1, .int .i64 a2, .int .i64 a3] w fun e w' => e = .returned (.tuple #[.int .i64 r1, .int .i64 r2]) ∧ Below w.heap.size w w' := by
 have HR0 := Aside0.mk hr0
 have HC0 := Aside0.mk hc0
 clear hr0 hc0
 have HB := Aside0.mk (Below.refl w.heap.size w)
 have H : ((Qa8.f k l0 a1 a2 0 a3).bind fun bt373 => (some (bt373.1, bt373.2))) = some (r1, r2) := h
 clear h
 replace H := Option.bind_eq_some_iff.mp H
 obtain ⟨⟨t373, t374⟩, A50, H⟩ := H
 replace H : (some (t373, t374)) = some (r1, r2) := H
 have A5 := Aside0.mk A50
 clear A50
 simp only [Option.some.injEq, Prod.mk.injEq] at H
 obtain ⟨rfl, rfl⟩ := H
 go_enter Try.func70, Try.ntmps70
 go_wp2_with (first | ((with_reducible refine Qaw (f := 106) rfl ?_); refine goesL_ (some 14) rfl rfl Try.func106 (by kernel_rfl) rfl #[.slice A0 l0.length c0, .int .i64 a1, .int .i64 a2, .int .i64 0, .int .i64 a3] rfl (Zl) ?_; (with_reducible refine (Qa8.calls k _ _ l0 a1 a2 0 a3 t373 t374 _ ?side1 ?side2 A5.out).mono ?_); (case side1 => exact Zv HR0.out); (case side2 => exact HC0.out); rintro e w6 ⟨rfl, hb⟩; refine ⟨_, rfl, ?_⟩; replace HB := Aside0.mk (Qan (Zb) hb); (try clear hb); (try clear hb2); (try clear hk); (try clear hi)))
 go_ret2
 exact ⟨Zq, Zb⟩
def Qa7.f (k : Nat) (a0_0 : ByteArray) (a0_1 : Int) (a0_2 : Int) (a0_3 : Int) (a0_4 : Int) (a0_5 : Int) (a1 : Int) (l2 : List (S98)) : Option (Int × Int) := (Qbv.f k a0_0 a0_1 a0_2 a0_3 a0_4 a0_5 a1).bind fun bt376 => (if bt376.2 = 0 then ((Qbu.f k l2 bt376.1 a0_2 3).bind fun bt378 => (if bt378.2 = 0 then ((Qa9.f bt378.1 (wrap64 (1000 - a0_4)) 1000 3).bind fun bt380 => (some (bt380.1, bt380.2))) else (some (0, bt378.2)))) else (some (0, bt376.2)))
theorem Qa7.mono : ∀ a0 a1 a2 a3 a4 a5 a6 a7 k, LeO (Qa7.f k a0 a1 a2 a3 a4 a5 a6 a7) (Qa7.f (k + 1) a0 a1 a2 a3 a4 a5 a6 a7) := by
 intro a0 a1 a2 a3 a4 a5 a6 a7 k
 unfold Qa7.f
 exact ZM2 Qbu.mono Qbv.mono
theorem Qa7.calls (k : Nat) (a0_0 : ByteArray) (a0_1 : Int) (a0_2 : Int) (a0_3 : Int) (a0_4 : Int) (a0_5 : Int) (a1 : Int) (A2 : Option Addr) (c2 : Nat) (l2 : List (S98)) (r1 : Int) (r2 : Int) (w : World) (hr2 : Kd.C k98 w A2 l2.length l2) (hc2 : l2.length ≤ c2) (h : Qa7.f k a0_0 a0_1 a0_2 a0_3 a0_4 a0_5 a1 l2 = some (r1, r2)) :
  Calls Try.prog 42 #[.agg #[.string a0_0, .int .i64 a0_1, .int .i64 a0_2, .int .i64 a0_3, .int .i64 a0_4, .int .i64 a0_5], .int .i64 a1, .slice A2 l2.length c2] w fun e w' => e = .returned (.tuple #[.int .i64 r1, .int .i64 r2]) ∧ Below w.heap.size w w' := by
 have hu84 := Try.underlying84
 have HR2 := Aside0.mk hr2
 have HC2 := Aside0.mk hc2
 clear hr2 hc2
 have HB := Aside0.mk (Below.refl w.heap.size w)
 have H : ((Qbv.f k a0_0 a0_1 a0_2 a0_3 a0_4 a0_5 a1).bind fun bt376 => (if bt376.2 = 0 then ((Qbu.f k l2 bt376.1 a0_2 3).bind fun bt378 => (if bt378.2 = 0 then ((Qa9.f bt378.1 (wrap64 (1000 - a0_4)) 1000 3).bind fun bt380 => (some (bt380.1, bt380.2))) else (some (0, bt378.2)))) else (some (0, bt376.2)))) = some (r1, r2) := h
 clear h
 replace H := Option.bind_eq_some_iff.mp H
 obtain ⟨⟨t376, t377⟩, A40, H⟩ := H
 replace H : (if t377 = 0 then ((Qbu.f k l2 t376 a0_2 3).bind fun bt378 => (if bt378.2 = 0 then ((Qa9.f bt378.1 (wrap64 (1000 - a0_4)) 1000 3).bind fun bt380 => (some (bt380.1, bt380.2))) else (some (0, bt378.2)))) else (some (0, t377))) = some (r1, r2) := H
 have A4 := Aside0.mk A40
 clear A40
 go_enter Try.func42, Try.ntmps42
 go_upto_if 19 with (first | ((with_reducible refine QaL (N := 3) rfl ?_); refine Zbx (N := 3) (cs := #[.string a0_0, .int .i64 a0_1, .int .i64 a0_2, .int .i64 a0_3, .int .i64 a0_4, .int .i64 a0_5]) (t := 84) ?_; intro gb375 hg w5 hbox hb; have BK375 := Aside0.mk (hbox); have GW375 := Aside0.mk (Zt w hg (Zb)); have GE375 := GW375; replace HB := Aside0.mk (Qan (Zb) hb); clear hb hbox hg; obtain ⟨hcz6_0, hfz6_0⟩ := Zy (v := (.string a0_0)) BK375.out 0; obtain ⟨hcz6_1, hfz6_1⟩ := Zy (v := (.int .i64 a0_1)) BK375.out 1; obtain ⟨hcz6_2, hfz6_2⟩ := Zy (v := (.int .i64 a0_2)) BK375.out 2; obtain ⟨hcz6_3, hfz6_3⟩ := Zy (v := (.int .i64 a0_3)) BK375.out 3; obtain ⟨hcz6_4, hfz6_4⟩ := Zy (v := (.int .i64 a0_4)) BK375.out 4; obtain ⟨hcz6_5, hfz6_5⟩ := Zy (v := (.int .i64 a0_5)) BK375.out 5) | ((with_reducible refine Qaw (f := 69) rfl ?_); refine goesL_ (some 15) rfl rfl Try.func69 (by kernel_rfl) rfl #[.agg #[.string a0_0, .int .i64 a0_1, .int .i64 a0_2, .int .i64 a0_3, .int .i64 a0_4, .int .i64 a0_5], .int .i64 a1] rfl (Zl) ?_; (with_reducible refine (Qbv.calls k a0_0 a0_1 a0_2 a0_3 a0_4 a0_5 a1 t376 t377 _ A4.out).mono ?_); rintro e w7 ⟨rfl, hb⟩; refine ⟨_, rfl, ?_⟩; replace BK375 := Aside0.mk (Zi BK375.out hb); replace HB := Aside0.mk (Qan (Zc1 GE375.out) hb); (try clear hb); (try clear hb2); (try clear hk); (try clear hi)))
 (try simp only [Act.put, Zj, Zk, Zm])
 by_cases c8 : t377 = 0
 ·rw [if_pos c8] at H
  have c8b0 : (t377 == 0) = T := beq_iff_eq.mpr c8
  have c8b1 : (t377 != 0) = F := bne_eq_false_iff_eq.mpr c8
  clear c8
  (try simp only [c8b0, c8b1])
  replace H := Option.bind_eq_some_iff.mp H
  obtain ⟨⟨t378, t379⟩, A90, H⟩ := H
  replace H : (if t379 = 0 then ((Qa9.f t378 (wrap64 (1000 - a0_4)) 1000 3).bind fun bt380 => (some (bt380.1, bt380.2))) else (some (0, t379))) = some (r1, r2) := H
  have A9 := Aside0.mk A90
  clear A90
  obtain ⟨hcz10_0, hfz10_0⟩ := Zy (v := (.string a0_0)) BK375.out 0
  obtain ⟨hcz10_1, hfz10_1⟩ := Zy (v := (.int .i64 a0_1)) BK375.out 1
  obtain ⟨hcz10_2, hfz10_2⟩ := Zy (v := (.int .i64 a0_2)) BK375.out 2
  obtain ⟨hcz10_3, hfz10_3⟩ := Zy (v := (.int .i64 a0_3)) BK375.out 3
  obtain ⟨hcz10_4, hfz10_4⟩ := Zy (v := (.int .i64 a0_4)) BK375.out 4
  obtain ⟨hcz10_5, hfz10_5⟩ := Zy (v := (.int .i64 a0_5)) BK375.out 5
  go_upto_if 30 with (first | ((with_reducible refine Qaw (f := 70) rfl ?_); refine goesL_ (some 26) rfl rfl Try.func70 (by kernel_rfl) rfl #[.slice A2 l2.length c2, .int .i64 t376, .int .i64 a0_2, .int .i64 3] rfl (Zl) ?_; (with_reducible refine (Qbu.calls k _ _ l2 t376 a0_2 3 t378 t379 _ ?side1 ?side2 A9.out).mono ?_); (case side1 => exact Zv (Kd.C_below HR2.out HB.out)); (case side2 => exact HC2.out); rintro e w11 ⟨rfl, hb⟩; refine ⟨_, rfl, ?_⟩; replace BK375 := Aside0.mk (Zi BK375.out hb); replace HB := Aside0.mk (Qan (Zc1 GE375.out) hb); (try clear hb); (try clear hb2); (try clear hk); (try clear hi)))
  (try simp only [Act.put, Zj, Zk, Zm])
  by_cases c12 : t379 = 0
  ·rw [if_pos c12] at H
   have c12b0 : (t379 == 0) = T := beq_iff_eq.mpr c12
   have c12b1 : (t379 != 0) = F := bne_eq_false_iff_eq.mpr c12
   clear c12
   (try simp only [c12b0, c12b1])
   replace H := Option.bind_eq_some_iff.mp H
   obtain ⟨⟨t380, t381⟩, A130, H⟩ := H
   replace H : (some (t380, t381)) = some (r1, r2) := H
   have A13 := Aside0.mk A130
   clear A130
   simp only [Option.some.injEq, Prod.mk.injEq] at H
   obtain ⟨rfl, rfl⟩ := H
   obtain ⟨hcz14_0, hfz14_0⟩ := Zy (v := (.string a0_0)) BK375.out 0
   obtain ⟨hcz14_1, hfz14_1⟩ := Zy (v := (.int .i64 a0_1)) BK375.out 1
   obtain ⟨hcz14_2, hfz14_2⟩ := Zy (v := (.int .i64 a0_2)) BK375.out 2
   obtain ⟨hcz14_3, hfz14_3⟩ := Zy (v := (.int .i64 a0_3)) BK375.out 3
   obtain ⟨hcz14_4, hfz14_4⟩ := Zy (v := (.int .i64 a0_4)) BK375.out 4
   obtain ⟨hcz14_5, hfz14_5⟩ := Zy (v := (.int .i64 a0_5)) BK375.out 5
   go_wp2_with (first | ((with_reducible refine Qaw (f := 58) rfl ?_); refine goesL_ (some 36) rfl rfl Try.func58 (by kernel_rfl) rfl #[.int .i64 t378, .int .i64 (wrap64 (1000 - a0_4)), .int .i64 1000, .int .i64 3] rfl (Zl) ?_; (with_reducible refine (Qa9.calls t378 (wrap64 (1000 - a0_4)) 1000 3 t380 t381 _ A13.out).mono ?_); rintro e w15 ⟨rfl, hb⟩; refine ⟨_, rfl, ?_⟩; replace BK375 := Aside0.mk (Zi BK375.out hb); replace HB := Aside0.mk (Qan (Zc1 GE375.out) hb); (try clear hb); (try clear hb2); (try clear hk); (try clear hi)))
   go_ret2
   exact ⟨Zq, Zc1 GE375.out⟩
  rw [if_neg c12] at H
  have c12b0 : (t379 == 0) = F := beq_eq_false_iff_ne.mpr c12
  have c12b1 : (t379 != 0) = T := bne_iff_ne.mpr c12
  (try simp only [c12b0, c12b1])
  simp only [Option.some.injEq, Prod.mk.injEq] at H
  obtain ⟨rfl, rfl⟩ := H
  go_wp2
  go_ret2
  exact ⟨Zq, Zc1 GE375.out⟩
 rw [if_neg c8] at H
 have c8b0 : (t377 == 0) = F := beq_eq_false_iff_ne.mpr c8
 have c8b1 : (t377 != 0) = T := bne_iff_ne.mpr c8
 (try simp only [c8b0, c8b1])
 simp only [Option.some.injEq, Prod.mk.injEq] at H
 obtain ⟨rfl, rfl⟩ := H
 go_wp2
 go_ret2
 exact ⟨Zq, Zc1 GE375.out⟩
mutual
def Qar.l0 : Nat → List (S46) → Int → Option (Int)
 | 0, _, _ => none
 | k + 1, x0, x3 => if x3 < (x0.length : Int) then (if 0 ≤ x3 then ((Qbi.f k ((rd_T46 x0 x3).f0.f0) ((rd_T46 x0 x3).f0.f1)).bind fun t393 => (if t393 = T then ((Qay.f k ((rd_T46 x0 x3).f1)).bind fun t395 => (Qar.j1 k x0 x3 (!t395))) else (Qar.j1 k x0 x3 T))) else (none)) else (some 0)
def Qar.j1 : Nat → List (S46) → Int → Bool → Option (Int)
 | 0, _, _, _ => none
 | k + 1, x0, x3, x28 => if x28 = T then (some 10) else (if x3 > 0 then (if 0 ≤ (wrap64 (x3 - 1)) then (if (wrap64 (x3 - 1)) < (x0.length : Int) then (if 0 ≤ x3 then (if x3 < (x0.length : Int) then ((QbF.f ((rd_T46 x0 (wrap64 (x3 - 1))).f0.f0) ((rd_T46 x0 (wrap64 (x3 - 1))).f0.f1) ((rd_T46 x0 (wrap64 (x3 - 1))).f1) ((rd_T46 x0 (wrap64 (x3 - 1))).f2) ((rd_T46 x0 x3).f0.f0) ((rd_T46 x0 x3).f0.f1) ((rd_T46 x0 x3).f1) ((rd_T46 x0 x3).f2)).bind fun t398 => (Qar.j2 k x0 x3 (!t398))) else (none)) else (none)) else (none)) else (none)) else (Qar.j2 k x0 x3 F))
def Qar.j2 : Nat → List (S46) → Int → Bool → Option (Int)
 | 0, _, _, _ => none
 | k + 1, x0, x3, x43 => if x43 = T then (some 12) else (if 0 ≤ x3 then (if x3 < (x0.length : Int) then ((QbR.f ((rd_T46 x0 x3).f2)).bind fun t400 => (if t400 = T then (Qar.l0 k x0 (wrap64 (x3 + 1))) else (some 18))) else (none)) else (none))
end
def Qar.f (k : Nat) (l0 : List (S46)) : Option (Int) := if (l0.length : Int) > 1024 then (some 8) else (Qar.l0 k l0 0)
theorem Qar.mono_l : ∀ k, (∀ y0 y1, LeO (Qar.l0 k y0 y1) (Qar.l0 (k + 1) y0 y1)) ∧ (∀ y0 y1 y2, LeO (Qar.j1 k y0 y1 y2) (Qar.j1 (k + 1) y0 y1 y2)) ∧ (∀ y0 y1 y2, LeO (Qar.j2 k y0 y1 y2) (Qar.j2 (k + 1) y0 y1 y2))
 | 0 => ⟨fun _ _ r h => by simp [Qar.l0] at h, fun _ _ _ r h => by simp [Qar.j1] at h, fun _ _ _ r h => by simp [Qar.j2] at h⟩
 | k + 1 => by
  obtain ⟨ih0, ih1, ih2⟩ := Qar.mono_l k
  refine ⟨?_, ?_, ?_⟩
  ·intro y0 y1
   unfold Qar.l0
   exact ZM5 ih0 ih1 ih2 Qay.mono Qbi.mono
  ·intro y0 y1 y2
   unfold Qar.j1
   exact ZM5 ih0 ih1 ih2 Qay.mono Qbi.mono
  intro y0 y1 y2
  unfold Qar.j2
  exact ZM5 ih0 ih1 ih2 Qay.mono Qbi.mono
theorem Qar.mono : ∀ a0 k, LeO (Qar.f k a0) (Qar.f (k + 1) a0) := by
 intro a0 k
 obtain ⟨ih0, ih1, ih2⟩ := Qar.mono_l k
 unfold Qar.f
 exact ZM5 ih0 ih1 ih2 Qay.mono Qbi.mono
def Qar.T8 : Bool × List (List Nat × List Nat) := (T, [([], []), ([0], [0]), ([1], [1]), ([2], [2]), ([2], [2]), ([4, 2], [2, 4]), ([3, 5, 2], [2, 3, 5]), ([6, 2], [2, 6]), ([2], [2]), ([2], [2]), ([8, 9, 2], [2, 8, 9]), ([10, 2], [2, 10]), ([7, 11, 2, 2], [2, 7, 11]), ([12, 2], [2, 12]), ([2, 13], [2, 13])])
def Qar.B8 : List Nat := [0, 1, 3, 7, 7, 23, 63, 127, 7, 7, 775, 1799, 4095, 8191, 16383]
theorem Qar.tab8 : rtab .any (opsOf Try.f66 8) = Qar.T8 := by kernel_rfl
theorem Qar.bits8 : Qb0 Qar.T8.2 Qar.B8 = T := by kernel_rfl
theorem Qar.calls (k : Nat) (A0 : Option Addr) (c0 : Nat) (l0 : List (S46)) (r : Int) (w : World) (hr0 : Kd.C k46 w A0 l0.length l0) (hc0 : l0.length ≤ c0) (h : Qar.f k l0 = some r) :
  Calls Try.prog 66 #[.slice A0 l0.length c0] w fun e w' => e = .returned (.int .i64 r) ∧ Below w.heap.size w w' := by
 have hu44 := Try.underlying44
 have hu46 := Try.underlying46
 have HR0 := Aside0.mk hr0
 have HC0 := Aside0.mk hc0
 clear hr0 hc0
 have HB := Aside0.mk (Below.refl w.heap.size w)
 have H : (if (l0.length : Int) > 1024 then (some 8) else (Qar.l0 k l0 0)) = some r := h
 clear h
 by_cases c2 : (l0.length : Int) > 1024
 ·rw [if_pos c2] at H
  have c2b0 : decide (1024 < (l0.length : Int)) = T := decide_eq_true c2
  have c2b1 : decide (1024 < l0.length) = T := decide_eq_true (by omega)
  clear c2
  obtain rfl := Option.some.inj H
  go_enter Try.func66, Try.ntmps66
  go_wp2
  go_ret
  exact ⟨Zq, Zb⟩
 rw [if_neg c2] at H
 have c2b0 : decide (1024 < (l0.length : Int)) = F := decide_eq_false c2
 have c2b1 : decide (1024 < l0.length) = F := decide_eq_false (by omega)
 clear c2
 have H' := Aside0.mk H
 clear H
 go_enter Try.func66, Try.ntmps66
 go_wp2
 go_loopg [3] k (fun kq v3 w' => ∃ (x3_1 : Int), v3 = .int .i64 x3_1 ∧ Aside0 (Qar.l0 kq l0 x3_1 = some r) ∧ Aside0 (kq ≤ k) ∧ Aside0 (Below w.heap.size w w'))
 case atStart => exact ⟨(0), (Zs), H', ⟨Nat.le_refl _⟩, ⟨Zb⟩⟩
 case round =>
  clear H'
  try clear c2
  try clear c2b0
  try clear c2b1
  try clear p2
  obtain ⟨x3_1, rfl, HA, HK1, HB⟩ := hrel
  cases gk with
  | zero => exact absurd HA.out (by simp [Qar.l0])
  | succ k1 =>
   have H := HA.out
   clear HA
   simp only [Qar.l0] at H
   by_cases c3 : x3_1 < (l0.length : Int)
   ·rw [if_pos c3] at H
    have c3b0 : decide (x3_1 < (l0.length : Int)) = T := decide_eq_true c3
    clear c3
    (try simp only [c3b0])
    have HC4 := Aside0.mk H
    clear H
    go_upto_region 6 with (fail)
    go_cut [28] (fun v28 wc => ∃ (kq : Nat) (x28_3 : Bool), v28 = .bool x28_3 ∧ Aside0 (Qar.j1 kq l0 x3_1 x28_3 = some r) ∧ Aside0 (kq ≤ k1) ∧ Aside0 (Below w.heap.size w wc))
    case first =>
     have H := HC4.out
     clear HC4
     by_cases c5 : 0 ≤ x3_1
     ·rw [if_pos c5] at H
      have c5b0 : decide (0 ≤ x3_1) = T := decide_eq_true c5
      clear c5
      replace H := Option.bind_eq_some_iff.mp H
      obtain ⟨t393, A60, H⟩ := H
      replace H : (if t393 = T then ((Qay.f k1 ((rd_T46 l0 x3_1).f1)).bind fun t395 => (Qar.j1 k1 l0 x3_1 (!t395))) else (Qar.j1 k1 l0 x3_1 T)) = some r := H
      have A6 := Aside0.mk A60
      clear A60
      by_cases c7 : t393 = T
      ·subst c7
       have H1 : ((Qay.f k1 ((rd_T46 l0 x3_1).f1)).bind fun t395 => (Qar.j1 k1 l0 x3_1 (!t395))) = some r := by rw [if_pos rfl] at H; exact H
       clear H
       have H := H1
       clear H1
       replace H := Option.bind_eq_some_iff.mp H
       obtain ⟨t395, A80, H⟩ := H
       replace H : (Qar.j1 k1 l0 x3_1 (!t395)) = some r := H
       have A8 := Aside0.mk A80
       clear A80
       have H' := Aside0.mk H
       clear H
       have p392 : 0 ≤ (x3_1 : Int) := Ze
       have q392 : x3_1 < (l0.length : Int) := Ze
       obtain ⟨ad392, e392, hx392_0, hx392_1, hx392_2, hx392_3⟩ := at_T46 HR0.out x3_1 p392 q392
       cases e392
       replace hx392_0 := Zx HB.out hx392_0
       replace hx392_1 := Zx HB.out hx392_1
       replace hx392_2 := Zx HB.out hx392_2
       replace hx392_3 := Zx HB.out hx392_3
       replace p392 := eq_true p392
       replace q392 := eq_true q392
       go_wp2_with (first | ((with_reducible refine Qaw (f := 98) rfl ?_); refine goesL_ (some 18) rfl rfl Try.func98 (by kernel_rfl) rfl #[.agg #[.string ((rd_T46 l0 x3_1).f0.f0), .string ((rd_T46 l0 x3_1).f0.f1)]] rfl (Zl) ?_; (with_reducible refine (Qbi.calls k1 ((rd_T46 l0 x3_1).f0.f0) ((rd_T46 l0 x3_1).f0.f1) T _ A6.out).mono ?_); rintro e w9 ⟨rfl, hb⟩; refine ⟨_, rfl, ?_⟩; replace HB := Aside0.mk (Qan (Zb) hb); (try clear hb); (try clear hb2); (try clear hk); (try clear hi); have p394 : 0 ≤ (x3_1 : Int) := Ze; have q394 : x3_1 < (l0.length : Int) := Ze; obtain ⟨ad394, e394, hx394_0, hx394_1, hx394_2, hx394_3⟩ := at_T46 HR0.out x3_1 p394 q394; obtain rfl : ad392 = ad394 := (by injection e394); replace hx394_0 := Zx HB.out hx394_0; replace hx394_1 := Zx HB.out hx394_1; replace hx394_2 := Zx HB.out hx394_2; replace hx394_3 := Zx HB.out hx394_3; replace p394 := eq_true p394; replace q394 := eq_true q394) | (go_at_call 99; (with_reducible refine (Qay.calls k1 ((rd_T46 l0 x3_1).f1) t395 _ A8.out).mono ?_); rintro e w' ⟨rfl, ⟨nd, rfl⟩⟩))
       go_meet
       case rel => exact ⟨_, (!t395), (Zs), H', ⟨by have := HK1.out; first | omega | exact Nat.le_refl _⟩, ⟨Zb⟩⟩
      replace c7 := Bool.eq_false_iff.mpr c7
      subst c7
      have H1 : (Qar.j1 k1 l0 x3_1 T) = some r := by rw [if_neg (show ¬ (F = T) by decide)] at H; exact H
      clear H
      have H := H1
      clear H1
      have H' := Aside0.mk H
      clear H
      have p392 : 0 ≤ (x3_1 : Int) := Ze
      have q392 : x3_1 < (l0.length : Int) := Ze
      obtain ⟨ad392, e392, hx392_0, hx392_1, hx392_2, hx392_3⟩ := at_T46 HR0.out x3_1 p392 q392
      cases e392
      replace hx392_0 := Zx HB.out hx392_0
      replace hx392_1 := Zx HB.out hx392_1
      replace hx392_2 := Zx HB.out hx392_2
      replace hx392_3 := Zx HB.out hx392_3
      replace p392 := eq_true p392
      replace q392 := eq_true q392
      go_wp2_with (first | ((with_reducible refine Qaw (f := 98) rfl ?_); refine goesL_ (some 18) rfl rfl Try.func98 (by kernel_rfl) rfl #[.agg #[.string ((rd_T46 l0 x3_1).f0.f0), .string ((rd_T46 l0 x3_1).f0.f1)]] rfl (Zl) ?_; (with_reducible refine (Qbi.calls k1 ((rd_T46 l0 x3_1).f0.f0) ((rd_T46 l0 x3_1).f0.f1) F _ A6.out).mono ?_); rintro e w10 ⟨rfl, hb⟩; refine ⟨_, rfl, ?_⟩; replace HB := Aside0.mk (Qan (Zb) hb); (try clear hb); (try clear hb2); (try clear hk); (try clear hi)))
      go_meet
      case rel => exact ⟨_, (T), (Zs), H', ⟨by have := HK1.out; first | omega | exact Nat.le_refl _⟩, ⟨Zb⟩⟩
     rw [if_neg c5] at H
     exact absurd H (by simp)
    case rest =>
     clear HC4
     try clear c2
     try clear c2b0
     try clear c2b1
     try clear p2
     try clear c3
     try clear c3b0
     try clear p3
     try clear q3
     try clear hx3
     try clear c5
     try clear c5b0
     try clear c6
     try clear c7
     try clear c9
     try clear hx392_0
     try clear hx392_1
     try clear hx392_2
     try clear hx392_3
     try clear hx394_0
     try clear hx394_1
     try clear hx394_2
     try clear hx394_3
     try clear p2
     try clear p392
     try clear p394
     try clear q392
     try clear q394
     obtain ⟨kq, x28_3, rfl, HA, HJ3, HB⟩ := hcut
     cases kq with
     | zero => exact absurd HA.out (by simp [Qar.j1])
     | succ kj3 =>
      have H := HA.out
      clear HA
      simp only [Qar.j1] at H
      by_cases c11 : x28_3 = T
      ·subst c11
       have H1 : (some 10) = some r := by rw [if_pos rfl] at H; exact H
       clear H
       have H := H1
       clear H1
       obtain rfl := Option.some.inj H
       go_wp2
       go_ret
       exact ⟨Zq, Zb⟩
      replace c11 := Bool.eq_false_iff.mpr c11
      subst c11
      have H1 : (if x3_1 > 0 then (if 0 ≤ (wrap64 (x3_1 - 1)) then (if (wrap64 (x3_1 - 1)) < (l0.length : Int) then (if 0 ≤ x3_1 then (if x3_1 < (l0.length : Int) then ((QbF.f ((rd_T46 l0 (wrap64 (x3_1 - 1))).f0.f0) ((rd_T46 l0 (wrap64 (x3_1 - 1))).f0.f1) ((rd_T46 l0 (wrap64 (x3_1 - 1))).f1) ((rd_T46 l0 (wrap64 (x3_1 - 1))).f2) ((rd_T46 l0 x3_1).f0.f0) ((rd_T46 l0 x3_1).f0.f1) ((rd_T46 l0 x3_1).f1) ((rd_T46 l0 x3_1).f2)).bind fun t398 => (Qar.j2 kj3 l0 x3_1 (!t398))) else (none)) else (none)) else (none)) else (none)) else (Qar.j2 kj3 l0 x3_1 F)) = some r := by rw [if_neg (show ¬ (F = T) by decide)] at H; exact H
      clear H
      have H := H1
      clear H1
      have HC12 := Aside0.mk H
      clear H
      go_upto_region 8 with (fail)
      go_cut [43] (fun v43 wc => ∃ (kq : Nat) (x43_11 : Bool), v43 = .bool x43_11 ∧ Aside0 (Qar.j2 kq l0 x3_1 x43_11 = some r) ∧ Aside0 (kq ≤ kj3) ∧ Aside0 (Below w.heap.size w wc))
      case first =>
       have H := HC12.out
       clear HC12
       by_cases c13 : x3_1 > 0
       ·rw [if_pos c13] at H
        have c13b0 : decide (0 < x3_1) = T := decide_eq_true c13
        clear c13
        (first | rw [c13b0] | (simp only [i64_w, i32_w]; rw [c13b0]) | skip)
        obtain ⟨ji14, hji14⟩ : ∃ j_ : Int, (wrap64 (x3_1 - 1)) = j_ := ⟨_, rfl⟩
        replace H : (if 0 ≤ (ji14) then (if (ji14) < (l0.length : Int) then (if 0 ≤ x3_1 then (if x3_1 < (l0.length : Int) then ((QbF.f ((rd_T46 l0 (ji14)).f0.f0) ((rd_T46 l0 (ji14)).f0.f1) ((rd_T46 l0 (ji14)).f1) ((rd_T46 l0 (ji14)).f2) ((rd_T46 l0 x3_1).f0.f0) ((rd_T46 l0 x3_1).f0.f1) ((rd_T46 l0 x3_1).f1) ((rd_T46 l0 x3_1).f2)).bind fun t398 => (Qar.j2 kj3 l0 x3_1 (!t398))) else (none)) else (none)) else (none)) else (none)) = some r := by first | (rw [hji14] at H; exact H) | (simp only [hji14] at H ⊢; exact H)
        have hji14w : (IntKind.i64.wrap (x3_1 - 1)) = ji14 := (i64_w _).trans hji14
        by_cases c15 : 0 ≤ (ji14)
        ·rw [if_pos c15] at H
         have c15b0 : decide (0 ≤ (ji14)) = T := decide_eq_true c15
         clear c15
         by_cases c16 : (ji14) < (l0.length : Int)
         ·rw [if_pos c16] at H
          have c16b0 : decide ((ji14) < (l0.length : Int)) = T := decide_eq_true c16
          clear c16
          by_cases c17 : 0 ≤ x3_1
          ·rw [if_pos c17] at H
           have c17b0 : decide (0 ≤ x3_1) = T := decide_eq_true c17
           clear c17
           by_cases c18 : x3_1 < (l0.length : Int)
           ·rw [if_pos c18] at H
            have c18b0 : decide (x3_1 < (l0.length : Int)) = T := decide_eq_true c18
            clear c18
            replace H := Option.bind_eq_some_iff.mp H
            obtain ⟨t398, A190, H⟩ := H
            replace H : (Qar.j2 kj3 l0 x3_1 (!t398)) = some r := H
            have A19 := Aside0.mk A190
            clear A190
            have H' := Aside0.mk H
            clear H
            try go_wp2
            replace HB := Aside0.mk (Qag HB.out)
            have p396 : 0 ≤ ((ji14) : Int) := Ze
            have q396 : (ji14) < (l0.length : Int) := Ze
            obtain ⟨ad396, e396, hx396_0, hx396_1, hx396_2, hx396_3⟩ := at_T46 HR0.out (ji14) p396 q396
            have hw396_3 := hx396_3
            have hw396_2 := hx396_2
            have hw396_1 := hx396_1
            have hw396_0 := hx396_0
            cases e396
            replace hx396_0 := Zx HB.out hx396_0
            replace hx396_1 := Zx HB.out hx396_1
            replace hx396_2 := Zx HB.out hx396_2
            replace hx396_3 := Zx HB.out hx396_3
            replace p396 := eq_true p396
            replace q396 := eq_true q396
            have p397 : 0 ≤ (x3_1 : Int) := Ze
            have q397 : x3_1 < (l0.length : Int) := Ze
            obtain ⟨ad397, e397, hx397_0, hx397_1, hx397_2, hx397_3⟩ := at_T46 HR0.out x3_1 p397 q397
            have hw397_3 := hx397_3
            have hw397_2 := hx397_2
            have hw397_1 := hx397_1
            have hw397_0 := hx397_0
            obtain rfl : ad396 = ad397 := (by injection e397)
            replace hx397_0 := Zx HB.out hx397_0
            replace hx397_1 := Zx HB.out hx397_1
            replace hx397_2 := Zx HB.out hx397_2
            replace hx397_3 := Zx HB.out hx397_3
            replace p397 := eq_true p397
            replace q397 := eq_true q397
            refine start_ (n := 15) (S := fun w' => w'.cell? (ad396.add (((ji14)).toNat * 4)) = some (.string ((rd_T46 l0 (ji14)).f0.f0)) ∧ w'.cell? ⟨(ad396.add (((ji14)).toNat * 4)).block, (ad396.add (((ji14)).toNat * 4)).off + 1, none⟩ = some (.string ((rd_T46 l0 (ji14)).f0.f1)) ∧ w'.cell? ⟨(ad396.add (((ji14)).toNat * 4)).block, (ad396.add (((ji14)).toNat * 4)).off + 2, none⟩ = some (.string ((rd_T46 l0 (ji14)).f1)) ∧ w'.cell? ⟨(ad396.add (((ji14)).toNat * 4)).block, (ad396.add (((ji14)).toNat * 4)).off + 3, none⟩ = some (.int .i64 ((rd_T46 l0 (ji14)).f2)) ∧ w'.cell? (ad396.add ((x3_1).toNat * 4)) = some (.string ((rd_T46 l0 x3_1).f0.f0)) ∧ w'.cell? ⟨(ad396.add ((x3_1).toNat * 4)).block, (ad396.add ((x3_1).toNat * 4)).off + 1, none⟩ = some (.string ((rd_T46 l0 x3_1).f0.f1)) ∧ w'.cell? ⟨(ad396.add ((x3_1).toNat * 4)).block, (ad396.add ((x3_1).toNat * 4)).off + 2, none⟩ = some (.string ((rd_T46 l0 x3_1).f1)) ∧ w'.cell? ⟨(ad396.add ((x3_1).toNat * 4)).block, (ad396.add ((x3_1).toNat * 4)).off + 3, none⟩ = some (.int .i64 ((rd_T46 l0 x3_1).f2))) (ds := []) #[F, F, F, F, F, F, F, F, F, F, F, F, F, F, F] (by kernel_rfl) rfl rfl ⟨((HB.out.cell (World.block_lt_of_cell? w _ hw396_0)).trans hw396_0), ((HB.out.cell (World.block_lt_of_cell? w _ hw396_1)).trans hw396_1), ((HB.out.cell (World.block_lt_of_cell? w _ hw396_2)).trans hw396_2), ((HB.out.cell (World.block_lt_of_cell? w _ hw396_3)).trans hw396_3), ((HB.out.cell (World.block_lt_of_cell? w _ hw397_0)).trans hw397_0), ((HB.out.cell (World.block_lt_of_cell? w _ hw397_1)).trans hw397_1), ((HB.out.cell (World.block_lt_of_cell? w _ hw397_2)).trans hw397_2), ((HB.out.cell (World.block_lt_of_cell? w _ hw397_3)).trans hw397_3)⟩ (fun hHeld => ?_); refine QbW Qar.tab8 Qar.bits8 (fun HT_ HW_ => ?_)
            generalize wc.drew = w20 at HB hx396_0 hx396_1 hx396_2 hx396_3 hx397_0 hx397_1 hx397_2 hx397_3 hHeld ⊢
            refine pure_ (i := 0) (N := some 29) (v := ?_) (a' := ?_) #[T, F, F, F, F, F, F, F, F, F, F, F, F, F, F] rfl rfl (any_of HT_.out (by kernel_rfl)) (fun _ _ _ h => h) (Or.inl ⟨by rfl, ?_⟩) ?_ ?_
            rotate_left
            ·intro w'
             go_simp
             with_reducible rfl
            rotate_left
            ·simp only [Act.put, Zj, Zk, Zm, i64_w, i32_w]
             rfl
            refine pure_ (i := 1) (N := some 30) (v := ?_) (a' := ?_) #[T, T, F, F, F, F, F, F, F, F, F, F, F, F, F] rfl rfl (any_of HT_.out (by kernel_rfl)) (fun _ _ _ h => h) (Or.inl ⟨by rfl, ?_⟩) ?_ ?_
            rotate_left
            ·intro w'
             go_simp
             with_reducible rfl
            rotate_left
            ·simp only [Act.put, Zj, Zk, Zm, i64_w, i32_w]
             rfl
            refine pure_ (i := 2) (N := some 31) (v := ?_) (a' := ?_) #[T, T, T, F, F, F, F, F, F, F, F, F, F, F, F] rfl rfl (any_of HT_.out (by kernel_rfl)) (fun _ _ _ h => h) (Or.inl ⟨by rfl, ?_⟩) ?_ ?_
            rotate_left
            ·intro w'
             go_simp
             with_reducible rfl
            rotate_left
            ·simp only [Act.put, Zj, Zk, Zm, i64_w, i32_w]
             rfl
            refine pure_ (i := 3) (N := some 32) (v := ?_) (a' := ?_) #[T, T, T, T, F, F, F, F, F, F, F, F, F, F, F] rfl rfl (any_of HT_.out (by kernel_rfl)) (fun _ _ _ h => h) (Or.inl ⟨by rfl, ?_⟩) ?_ ?_
            rotate_left
            ·intro w'
             go_simp
             with_reducible rfl
            rotate_left
            ·simp only [Act.put, Zj, Zk, Zm, i64_w, i32_w]
             rfl
            refine pure_ (i := 4) (N := some 33) (v := ?_) (a' := ?_) #[T, T, T, T, T, F, F, F, F, F, F, F, F, F, F] rfl rfl (any_of HT_.out (by kernel_rfl)) (fun _ _ _ h => h) (Or.inl ⟨by rfl, ?_⟩) ?_ ?_
            rotate_left
            ·intro w'
             go_simp
             with_reducible rfl
            rotate_left
            ·simp only [Act.put, Zj, Zk, Zm, i64_w, i32_w]
             rfl
            refine pure_ (i := 5) (N := some 34) (v := ?_) (a' := ?_) #[T, T, T, T, T, T, F, F, F, F, F, F, F, F, F] rfl rfl (any_of HT_.out (by kernel_rfl)) (fun _ _ _ h => h) (Or.inl ⟨by rfl, ?_⟩) ?_ ?_
            rotate_left
            ·intro w'
             go_simp
             with_reducible rfl
            rotate_left
            ·simp only [Act.put, Zj, Zk, Zm, i64_w, i32_w]
             rfl
            refine pure_ (i := 6) (N := some 35) (v := ?_) (a' := ?_) #[T, T, T, T, T, T, T, F, F, F, F, F, F, F, F] rfl rfl (any_of HT_.out (by kernel_rfl)) (fun _ _ _ h => h) (Or.inl ⟨by rfl, ?_⟩) ?_ ?_
            rotate_left
            ·intro w'
             go_simp
             with_reducible rfl
            rotate_left
            ·simp only [Act.put, Zj, Zk, Zm, i64_w, i32_w]
             rfl
            refine pure_ (i := 8) (N := some 37) (v := ?_) (a' := ?_) #[T, T, T, T, T, T, T, F, T, F, F, F, F, F, F] rfl rfl (any_of HT_.out (by kernel_rfl)) (fun _ _ _ h => h) (Or.inl ⟨by rfl, ?_⟩) ?_ ?_
            rotate_left
            ·intro w'
             go_simp
             with_reducible rfl
            rotate_left
            ·simp only [Act.put, Zj, Zk, Zm, i64_w, i32_w]
             rfl
            refine pure_ (i := 9) (N := some 38) (v := ?_) (a' := ?_) #[T, T, T, T, T, T, T, F, T, T, F, F, F, F, F] rfl rfl (any_of HT_.out (by kernel_rfl)) (fun _ _ _ h => h) (Or.inl ⟨by rfl, ?_⟩) ?_ ?_
            rotate_left
            ·intro w'
             go_simp
             with_reducible rfl
            rotate_left
            ·simp only [Act.put, Zj, Zk, Zm, i64_w, i32_w]
             rfl
            refine pure_ (i := 10) (N := some 39) (v := ?_) (a' := ?_) #[T, T, T, T, T, T, T, F, T, T, T, F, F, F, F] rfl rfl (any_of HT_.out (by kernel_rfl)) (fun _ _ _ h => h) (Or.inl ⟨by rfl, ?_⟩) ?_ ?_
            rotate_left
            ·intro w'
             go_simp
             with_reducible rfl
            rotate_left
            ·simp only [Act.put, Zj, Zk, Zm, i64_w, i32_w]
             rfl
            refine take_ (i := 7) (N := some 36) (v := ?_) (a' := ?_) #[T, T, T, T, T, T, T, T, T, T, T, F, F, F, F] rfl rfl (QbJ HT_.out HW_.out (by kernel_rfl)) (fun _ _ _ h => h) (Or.inl ⟨by rfl, ?_⟩) hHeld ?_ ?_
            rotate_left
            ·rintro w' ⟨s0, s1, s2, s3, s4, s5, s6, s7⟩
             go_simp
             with_reducible rfl
            rotate_left
            ·simp only [Act.put, Zj, Zk, Zm, i64_w, i32_w]
             rfl
            refine take_ (i := 11) (N := some 40) (v := ?_) (a' := ?_) #[T, T, T, T, T, T, T, T, T, T, T, T, F, F, F] rfl rfl (QbJ HT_.out HW_.out (by kernel_rfl)) (fun _ _ _ h => h) (Or.inl ⟨by rfl, ?_⟩) hHeld ?_ ?_
            rotate_left
            ·rintro w' ⟨s0, s1, s2, s3, s4, s5, s6, s7⟩
             go_simp
             with_reducible rfl
            rotate_left
            ·simp only [Act.put, Zj, Zk, Zm, i64_w, i32_w]
             rfl
            refine one_ (i := 12) (N := some 41) #[T, T, T, T, T, T, T, T, T, T, T, T, T, F, F] rfl rfl (one_of HT_.out (by kernel_rfl)) (by decide) (fun K hK => ?_)
            refine goes_ Try.func100 (by kernel_rfl) rfl #[.agg #[.string ((rd_T46 l0 (ji14)).f0.f0), .string ((rd_T46 l0 (ji14)).f0.f1), .string ((rd_T46 l0 (ji14)).f1), .int .i64 ((rd_T46 l0 (ji14)).f2)], .agg #[.string ((rd_T46 l0 x3_1).f0.f0), .string ((rd_T46 l0 x3_1).f0.f1), .string ((rd_T46 l0 x3_1).f1), .int .i64 ((rd_T46 l0 x3_1).f2)]] (by rfl) rfl rfl (by (try simp only [List.map_toArray, List.map_cons, List.map_nil]); first | done | (simp only [hji14]; rfl) | rfl | (simp only [List.length_drop, List.length_take]; rfl)) ?_
            with_reducible refine (QbF.calls ((rd_T46 l0 (ji14)).f0.f0) ((rd_T46 l0 (ji14)).f0.f1) ((rd_T46 l0 (ji14)).f1) ((rd_T46 l0 (ji14)).f2) ((rd_T46 l0 x3_1).f0.f0) ((rd_T46 l0 x3_1).f0.f1) ((rd_T46 l0 x3_1).f1) ((rd_T46 l0 x3_1).f2) t398 _ A19.out).mono ?_
            rintro e w21 ⟨rfl, hb⟩
            refine ⟨_, rfl, ?_⟩
            replace HB := Aside0.mk (Qan (Zb) hb)
            (try clear hb)
            (try clear hb2)
            (try clear hk)
            (try clear hi)
            refine hK.out _ _ ⟨((HB.out.cell (World.block_lt_of_cell? w _ hw396_0)).trans hw396_0), ((HB.out.cell (World.block_lt_of_cell? w _ hw396_1)).trans hw396_1), ((HB.out.cell (World.block_lt_of_cell? w _ hw396_2)).trans hw396_2), ((HB.out.cell (World.block_lt_of_cell? w _ hw396_3)).trans hw396_3), ((HB.out.cell (World.block_lt_of_cell? w _ hw397_0)).trans hw397_0), ((HB.out.cell (World.block_lt_of_cell? w _ hw397_1)).trans hw397_1), ((HB.out.cell (World.block_lt_of_cell? w _ hw397_2)).trans hw397_2), ((HB.out.cell (World.block_lt_of_cell? w _ hw397_3)).trans hw397_3)⟩ (fun hHeld => ?_)
            clear hK K
            refine norm_ (a' := ?_) ?_ ?_
            rotate_left
            ·show Act.put _ (some 41) _ = _
             simp only [Act.put, Zj, Zk, Zm, i64_w, i32_w]
             rfl
            refine pure_ (i := 13) (N := some 42) (v := ?_) (a' := ?_) #[T, T, T, T, T, T, T, T, T, T, T, T, T, T, F] rfl rfl (any_of HT_.out (by kernel_rfl)) (fun _ _ _ h => h) (Or.inl ⟨by rfl, ?_⟩) ?_ ?_
            rotate_left
            ·intro w'
             go_simp
             with_reducible rfl
            rotate_left
            ·simp only [Act.put, Zj, Zk, Zm, i64_w, i32_w]
             rfl
            refine pure_ (i := 14) (N := some 43) (v := ?_) (a' := ?_) #[T, T, T, T, T, T, T, T, T, T, T, T, T, T, T] rfl rfl (any_of HT_.out (by kernel_rfl)) (fun _ _ _ h => h) (Or.inl ⟨by rfl, ?_⟩) ?_ ?_
            rotate_left
            ·intro w'
             go_simp
             with_reducible rfl
            rotate_left
            ·simp only [Act.put, Zj, Zk, Zm, i64_w, i32_w]
             rfl
            refine done_ (Qb4 HT_.out (by kernel_rfl)) ?_
            try go_wp2
            go_meet
            case rel => exact ⟨_, (!t398), (Zs), H', ⟨by have := HK1.out; have := HJ3.out; first | omega | exact Nat.le_refl _⟩, ⟨Zb⟩⟩
           rw [if_neg c18] at H
           exact absurd H (by simp)
          rw [if_neg c17] at H
          exact absurd H (by simp)
         rw [if_neg c16] at H
         exact absurd H (by simp)
        rw [if_neg c15] at H
        exact absurd H (by simp)
       rw [if_neg c13] at H
       have c13b0 : decide (0 < x3_1) = F := decide_eq_false c13
       clear c13
       (first | rw [c13b0] | (simp only [i64_w, i32_w]; rw [c13b0]) | skip)
       have H' := Aside0.mk H
       clear H
       try go_wp2
       replace HB := Aside0.mk (Qag HB.out)
       refine start_ (n := 15) (S := fun w' => True) (ds := []) #[F, F, F, F, F, F, F, F, F, F, F, F, F, F, F] (by kernel_rfl) rfl rfl trivial (fun hHeld => ?_); refine QbW Qar.tab8 Qar.bits8 (fun HT_ HW_ => ?_)
       generalize wc.drew = w22 at HB hHeld ⊢
       refine pure_ (i := 0) (N := some 29) (v := ?_) (a' := ?_) #[T, F, F, F, F, F, F, F, F, F, F, F, F, F, F] rfl rfl (any_of HT_.out (by kernel_rfl)) (fun _ _ _ h => h) (Or.inl ⟨by rfl, ?_⟩) ?_ ?_
       rotate_left
       ·intro w'
        go_simp
        with_reducible rfl
       rotate_left
       ·simp only [Act.put, Zj, Zk, Zm, i64_w, i32_w]
        rfl
       refine pure_ (i := 1) (N := some 30) (v := ?_) (a' := ?_) #[T, T, F, F, F, F, F, F, F, F, F, F, F, F, F] rfl rfl (any_of HT_.out (by kernel_rfl)) (fun _ _ _ h => h) (Or.inl ⟨by rfl, ?_⟩) ?_ ?_
       rotate_left
       ·intro w'
        go_simp
        with_reducible rfl
       rotate_left
       ·simp only [Act.put, Zj, Zk, Zm, i64_w, i32_w]
        rfl
       refine pure_ (i := 2) (N := some 31) (v := ?_) (a' := ?_) #[T, T, T, F, F, F, F, F, F, F, F, F, F, F, F] rfl rfl (any_of HT_.out (by kernel_rfl)) (fun _ _ _ h => h) (Or.inl ⟨by rfl, ?_⟩) ?_ ?_
       rotate_left
       ·intro w'
        go_simp
        with_reducible rfl
       rotate_left
       ·simp only [Act.put, Zj, Zk, Zm, i64_w, i32_w]
        rfl
       refine pure_ (i := 3) (N := some 32) (v := undef) (a' := ?_) #[T, T, T, T, F, F, F, F, F, F, F, F, F, F, F] rfl rfl (any_of HT_.out (by kernel_rfl)) (fun _ _ _ h => h) (Or.inr ⟨by rfl, rfl⟩) ?_ ?_
       rotate_left
       ·simp only [Act.put, Zj, Zk, Zm, i64_w, i32_w]
        rfl
       refine pure_ (i := 4) (N := some 33) (v := undef) (a' := ?_) #[T, T, T, T, T, F, F, F, F, F, F, F, F, F, F] rfl rfl (any_of HT_.out (by kernel_rfl)) (fun _ _ _ h => h) (Or.inr ⟨by rfl, rfl⟩) ?_ ?_
       rotate_left
       ·simp only [Act.put, Zj, Zk, Zm, i64_w, i32_w]
        rfl
       refine pure_ (i := 5) (N := some 34) (v := undef) (a' := ?_) #[T, T, T, T, T, T, F, F, F, F, F, F, F, F, F] rfl rfl (any_of HT_.out (by kernel_rfl)) (fun _ _ _ h => h) (Or.inr ⟨by rfl, rfl⟩) ?_ ?_
       rotate_left
       ·simp only [Act.put, Zj, Zk, Zm, i64_w, i32_w]
        rfl
       refine pure_ (i := 6) (N := some 35) (v := undef) (a' := ?_) #[T, T, T, T, T, T, T, F, F, F, F, F, F, F, F] rfl rfl (any_of HT_.out (by kernel_rfl)) (fun _ _ _ h => h) (Or.inr ⟨by rfl, rfl⟩) ?_ ?_
       rotate_left
       ·simp only [Act.put, Zj, Zk, Zm, i64_w, i32_w]
        rfl
       refine pure_ (i := 7) (N := some 36) (v := undef) (a' := ?_) #[T, T, T, T, T, T, T, T, F, F, F, F, F, F, F] rfl rfl (any_of HT_.out (by kernel_rfl)) (fun _ _ _ h => h) (Or.inr ⟨by rfl, rfl⟩) ?_ ?_
       rotate_left
       ·simp only [Act.put, Zj, Zk, Zm, i64_w, i32_w]
        rfl
       refine pure_ (i := 8) (N := some 37) (v := undef) (a' := ?_) #[T, T, T, T, T, T, T, T, T, F, F, F, F, F, F] rfl rfl (any_of HT_.out (by kernel_rfl)) (fun _ _ _ h => h) (Or.inr ⟨by rfl, rfl⟩) ?_ ?_
       rotate_left
       ·simp only [Act.put, Zj, Zk, Zm, i64_w, i32_w]
        rfl
       refine pure_ (i := 9) (N := some 38) (v := undef) (a' := ?_) #[T, T, T, T, T, T, T, T, T, T, F, F, F, F, F] rfl rfl (any_of HT_.out (by kernel_rfl)) (fun _ _ _ h => h) (Or.inr ⟨by rfl, rfl⟩) ?_ ?_
       rotate_left
       ·simp only [Act.put, Zj, Zk, Zm, i64_w, i32_w]
        rfl
       refine pure_ (i := 10) (N := some 39) (v := undef) (a' := ?_) #[T, T, T, T, T, T, T, T, T, T, T, F, F, F, F] rfl rfl (any_of HT_.out (by kernel_rfl)) (fun _ _ _ h => h) (Or.inr ⟨by rfl, rfl⟩) ?_ ?_
       rotate_left
       ·simp only [Act.put, Zj, Zk, Zm, i64_w, i32_w]
        rfl
       refine pure_ (i := 11) (N := some 40) (v := undef) (a' := ?_) #[T, T, T, T, T, T, T, T, T, T, T, T, F, F, F] rfl rfl (any_of HT_.out (by kernel_rfl)) (fun _ _ _ h => h) (Or.inr ⟨by rfl, rfl⟩) ?_ ?_
       rotate_left
       ·simp only [Act.put, Zj, Zk, Zm, i64_w, i32_w]
        rfl
       refine pure_ (i := 12) (N := some 41) (v := undef) (a' := ?_) #[T, T, T, T, T, T, T, T, T, T, T, T, T, F, F] rfl rfl (any_of HT_.out (by kernel_rfl)) (fun _ _ _ h => h) (Or.inr ⟨by rfl, rfl⟩) ?_ ?_
       rotate_left
       ·simp only [Act.put, Zj, Zk, Zm, i64_w, i32_w]
        rfl
       refine pure_ (i := 13) (N := some 42) (v := undef) (a' := ?_) #[T, T, T, T, T, T, T, T, T, T, T, T, T, T, F] rfl rfl (any_of HT_.out (by kernel_rfl)) (fun _ _ _ h => h) (Or.inr ⟨by rfl, rfl⟩) ?_ ?_
       rotate_left
       ·simp only [Act.put, Zj, Zk, Zm, i64_w, i32_w]
        rfl
       refine pure_ (i := 14) (N := some 43) (v := ?_) (a' := ?_) #[T, T, T, T, T, T, T, T, T, T, T, T, T, T, T] rfl rfl (any_of HT_.out (by kernel_rfl)) (fun _ _ _ h => h) (Or.inl ⟨by rfl, ?_⟩) ?_ ?_
       rotate_left
       ·intro w'
        go_simp
        with_reducible rfl
       rotate_left
       ·simp only [Act.put, Zj, Zk, Zm, i64_w, i32_w]
        rfl
       refine done_ (Qb4 HT_.out (by kernel_rfl)) ?_
       try go_wp2
       go_meet
       case rel => exact ⟨_, (F), (Zs), H', ⟨by have := HK1.out; have := HJ3.out; first | omega | exact Nat.le_refl _⟩, ⟨Zb⟩⟩
      case rest =>
       clear HC12
       try clear c1
       try clear c2
       try clear c2b0
       try clear c2b1
       try clear p2
       try clear c3
       try clear c3b0
       try clear p3
       try clear q3
       try clear hx3
       try clear c5
       try clear c5b0
       try clear c6
       try clear p6
       try clear c7
       try clear c9
       try clear c10
       try clear c11
       try clear c13
       try clear c13b0
       try clear c15
       try clear c15b0
       try clear c16
       try clear c16b0
       try clear c17
       try clear c17b0
       try clear c18
       try clear c18b0
       try clear hx392_0
       try clear hx392_1
       try clear hx392_2
       try clear hx392_3
       try clear hx394_0
       try clear hx394_1
       try clear hx394_2
       try clear hx394_3
       try clear hx396_0
       try clear hx396_1
       try clear hx396_2
       try clear hx396_3
       try clear hx397_0
       try clear hx397_1
       try clear hx397_2
       try clear hx397_3
       try clear p2
       try clear p3
       try clear p392
       try clear p394
       try clear p396
       try clear p397
       try clear q3
       try clear q392
       try clear q394
       try clear q396
       try clear q397
       obtain ⟨kq, x43_11, rfl, HA, HJ11, HB⟩ := hcut
       cases kq with
       | zero => exact absurd HA.out (by simp [Qar.j2])
       | succ kj11 =>
        have H := HA.out
        clear HA
        simp only [Qar.j2] at H
        by_cases c23 : x43_11 = T
        ·subst c23
         have H1 : (some 12) = some r := by rw [if_pos rfl] at H; exact H
         clear H
         have H := H1
         clear H1
         obtain rfl := Option.some.inj H
         go_wp2
         go_ret
         exact ⟨Zq, Zb⟩
        replace c23 := Bool.eq_false_iff.mpr c23
        subst c23
        have H1 : (if 0 ≤ x3_1 then (if x3_1 < (l0.length : Int) then ((QbR.f ((rd_T46 l0 x3_1).f2)).bind fun t400 => (if t400 = T then (Qar.l0 kj11 l0 (wrap64 (x3_1 + 1))) else (some 18))) else (none)) else (none)) = some r := by rw [if_neg (show ¬ (F = T) by decide)] at H; exact H
        clear H
        have H := H1
        clear H1
        by_cases c24 : 0 ≤ x3_1
        ·rw [if_pos c24] at H
         have c24b0 : decide (0 ≤ x3_1) = T := decide_eq_true c24
         clear c24
         (try simp only [c24b0])
         by_cases c25 : x3_1 < (l0.length : Int)
         ·rw [if_pos c25] at H
          have c25b0 : decide (x3_1 < (l0.length : Int)) = T := decide_eq_true c25
          clear c25
          replace H := Option.bind_eq_some_iff.mp H
          obtain ⟨t400, A260, H⟩ := H
          replace H : (if t400 = T then (Qar.l0 kj11 l0 (wrap64 (x3_1 + 1))) else (some 18)) = some r := H
          have A26 := Aside0.mk A260
          clear A260
          have p399 : 0 ≤ (x3_1 : Int) := Ze
          have q399 : x3_1 < (l0.length : Int) := Ze
          obtain ⟨ad399, e399, hx399_0, hx399_1, hx399_2, hx399_3⟩ := at_T46 HR0.out x3_1 p399 q399
          cases e399
          replace hx399_0 := Zx HB.out hx399_0
          replace hx399_1 := Zx HB.out hx399_1
          replace hx399_2 := Zx HB.out hx399_2
          replace hx399_3 := Zx HB.out hx399_3
          replace p399 := eq_true p399
          replace q399 := eq_true q399
          go_upto_if 50 with (first | ((with_reducible refine Qaw (f := 101) rfl ?_); refine goesL_ (some 49) rfl rfl Try.func101 (by kernel_rfl) rfl #[.int .i64 ((rd_T46 l0 x3_1).f2)] rfl (Zl) ?_; (with_reducible refine (QbR.calls ((rd_T46 l0 x3_1).f2) t400 _ A26.out).mono ?_); rintro e w' ⟨rfl, ⟨nd, rfl⟩⟩; refine ⟨_, rfl, ?_⟩))
          (try simp only [Act.put, Zj, Zk, Zm])
          by_cases c27 : t400 = T
          ·subst c27
           have H1 : (Qar.l0 kj11 l0 (wrap64 (x3_1 + 1))) = some r := by rw [if_pos rfl] at H; exact H
           clear H
           have H := H1
           clear H1
           have H' := Aside0.mk H
           clear H
           go_wp2
           go_roundg kj11
           case measure => have := HK1.out; have := HJ3.out; have := HJ11.out; omega
           case rel => exact ⟨(wrap64 (x3_1 + 1)), (Zs), H', ⟨by have := HK1.out; have := HJ3.out; have := HJ11.out; omega⟩, ⟨Zb⟩⟩
          replace c27 := Bool.eq_false_iff.mpr c27
          subst c27
          have H1 : (some 18) = some r := by rw [if_neg (show ¬ (F = T) by decide)] at H; exact H
          clear H
          have H := H1
          clear H1
          obtain rfl := Option.some.inj H
          go_wp2
          go_ret
          exact ⟨Zq, Zb⟩
         rw [if_neg c25] at H
         exact absurd H (by simp)
        rw [if_neg c24] at H
        exact absurd H (by simp)
   rw [if_neg c3] at H
   have c3b0 : decide (x3_1 < (l0.length : Int)) = F := decide_eq_false c3
   clear c3
   (try simp only [c3b0])
   obtain rfl := Option.some.inj H
   go_wp2
   go_ret
   exact ⟨Zq, Zb⟩
def QaH.l0 : Nat → List (S84) → Int → Option (Int)
 | 0, _, _ => none
 | k + 1, x0, x3 => if x3 < (x0.length : Int) then (if 0 ≤ x3 then ((Qbd.f k ((rd_T84 x0 x3).f0) ((rd_T84 x0 x3).f1) ((rd_T84 x0 x3).f2) ((rd_T84 x0 x3).f3) ((rd_T84 x0 x3).f4) ((rd_T84 x0 x3).f5)).bind fun t402 => (if t402 = 0 then (if x3 > 0 then (if 0 ≤ (wrap64 (x3 - 1)) then (if (wrap64 (x3 - 1)) < (x0.length : Int) then (if (Op.bytesLess (((rd_T84 x0 x3).f0).toList) (((rd_T84 x0 (wrap64 (x3 - 1))).f0).toList)) = T then (some 12) else (if (((rd_T84 x0 x3).f0).toList) = (((rd_T84 x0 (wrap64 (x3 - 1))).f0).toList) then (some 12) else (QaH.l0 k x0 (wrap64 (x3 + 1))))) else (none)) else (none)) else (QaH.l0 k x0 (wrap64 (x3 + 1)))) else (some t402))) else (none)) else (some 0)
def QaH.f (k : Nat) (l0 : List (S84)) : Option (Int) := if (l0.length : Int) > 1024 then (some 8) else (QaH.l0 k l0 0)
theorem QaH.mono_l : ∀ k, (∀ y0 y1, LeO (QaH.l0 k y0 y1) (QaH.l0 (k + 1) y0 y1))
 | 0 => fun _ _ r h => by simp [QaH.l0] at h
 | k + 1 => by
  have ih0 := QaH.mono_l k
  intro y0 y1
  unfold QaH.l0
  exact ZM2 ih0 Qbd.mono
theorem QaH.mono : ∀ a0 k, LeO (QaH.f k a0) (QaH.f (k + 1) a0) := by
 intro a0 k
 have ih0 := QaH.mono_l k
 unfold QaH.f
 exact ZM2 ih0 Qbd.mono
theorem QaH.calls (k : Nat) (A0 : Option Addr) (c0 : Nat) (l0 : List (S84)) (r : Int) (w : World) (hr0 : Kd.C k84 w A0 l0.length l0) (hc0 : l0.length ≤ c0) (h : QaH.f k l0 = some r) :
  Calls Try.prog 67 #[.slice A0 l0.length c0] w fun e w' => e = .returned (.int .i64 r) ∧ Below w.heap.size w w' := by
 have hu84 := Try.underlying84
 have HR0 := Aside0.mk hr0
 have HC0 := Aside0.mk hc0
 clear hr0 hc0
 have HB := Aside0.mk (Below.refl w.heap.size w)
 have H : (if (l0.length : Int) > 1024 then (some 8) else (QaH.l0 k l0 0)) = some r := h
 clear h
 by_cases c2 : (l0.length : Int) > 1024
 ·rw [if_pos c2] at H
  have c2b0 : decide (1024 < (l0.length : Int)) = T := decide_eq_true c2
  have c2b1 : decide (1024 < l0.length) = T := decide_eq_true (by omega)
  clear c2
  obtain rfl := Option.some.inj H
  go_enter Try.func67, Try.ntmps67
  go_wp2
  repeat (go_quiet (fail); try go_wp2)
  go_ret
  exact ⟨Zq, Zb⟩
 rw [if_neg c2] at H
 have c2b0 : decide (1024 < (l0.length : Int)) = F := decide_eq_false c2
 have c2b1 : decide (1024 < l0.length) = F := decide_eq_false (by omega)
 clear c2
 have H' := Aside0.mk H
 clear H
 go_enter Try.func67, Try.ntmps67
 go_wp2
 repeat (go_quiet (fail); try go_wp2)
 go_loopg [3] k (fun kq v3 w' => ∃ (x3_1 : Int), v3 = .int .i64 x3_1 ∧ Aside0 (QaH.l0 kq l0 x3_1 = some r) ∧ Aside0 (kq ≤ k) ∧ Aside0 (Below w.heap.size w w'))
 case atStart => exact ⟨(0), (Zs), H', ⟨Nat.le_refl _⟩, ⟨Zb⟩⟩
 case round =>
  clear H'
  try clear c2
  try clear c2b0
  try clear c2b1
  try clear p2
  obtain ⟨x3_1, rfl, HA, HK1, HB⟩ := hrel
  cases gk with
  | zero => exact absurd HA.out (by simp [QaH.l0])
  | succ k1 =>
   have H := HA.out
   clear HA
   simp only [QaH.l0] at H
   by_cases c3 : x3_1 < (l0.length : Int)
   ·rw [if_pos c3] at H
    have c3b0 : decide (x3_1 < (l0.length : Int)) = T := decide_eq_true c3
    clear c3
    (try simp only [c3b0])
    by_cases c4 : 0 ≤ x3_1
    ·rw [if_pos c4] at H
     have c4b0 : decide (0 ≤ x3_1) = T := decide_eq_true c4
     clear c4
     replace H := Option.bind_eq_some_iff.mp H
     obtain ⟨t402, A50, H⟩ := H
     replace H : (if t402 = 0 then (if x3_1 > 0 then (if 0 ≤ (wrap64 (x3_1 - 1)) then (if (wrap64 (x3_1 - 1)) < (l0.length : Int) then (if (Op.bytesLess (((rd_T84 l0 x3_1).f0).toList) (((rd_T84 l0 (wrap64 (x3_1 - 1))).f0).toList)) = T then (some 12) else (if (((rd_T84 l0 x3_1).f0).toList) = (((rd_T84 l0 (wrap64 (x3_1 - 1))).f0).toList) then (some 12) else (QaH.l0 k1 l0 (wrap64 (x3_1 + 1))))) else (none)) else (none)) else (QaH.l0 k1 l0 (wrap64 (x3_1 + 1)))) else (some t402)) = some r := H
     have A5 := Aside0.mk A50
     clear A50
     have p401 : 0 ≤ (x3_1 : Int) := Ze
     have q401 : x3_1 < (l0.length : Int) := Ze
     obtain ⟨ad401, e401, hx401_0, hx401_1, hx401_2, hx401_3, hx401_4, hx401_5⟩ := at_T84 HR0.out x3_1 p401 q401
     cases e401
     replace hx401_0 := Zx HB.out hx401_0
     replace hx401_1 := Zx HB.out hx401_1
     replace hx401_2 := Zx HB.out hx401_2
     replace hx401_3 := Zx HB.out hx401_3
     replace hx401_4 := Zx HB.out hx401_4
     replace hx401_5 := Zx HB.out hx401_5
     replace p401 := eq_true p401
     replace q401 := eq_true q401
     go_upto_if 20 with (first | (go_at_call 102; (with_reducible refine (Qbd.calls k1 ((rd_T84 l0 x3_1).f0) ((rd_T84 l0 x3_1).f1) ((rd_T84 l0 x3_1).f2) ((rd_T84 l0 x3_1).f3) ((rd_T84 l0 x3_1).f4) ((rd_T84 l0 x3_1).f5) t402 _ A5.out).mono ?_); rintro e w6 ⟨rfl, hb⟩; replace HB := Aside0.mk (Qan (Zb) hb); (try clear hb); (try clear hb2); (try clear hk); (try clear hi)))
     repeat (go_quiet (first | (go_at_call 102; (with_reducible refine (Qbd.calls k1 ((rd_T84 l0 x3_1).f0) ((rd_T84 l0 x3_1).f1) ((rd_T84 l0 x3_1).f2) ((rd_T84 l0 x3_1).f3) ((rd_T84 l0 x3_1).f4) ((rd_T84 l0 x3_1).f5) t402 _ A5.out).mono ?_); rintro e w6 ⟨rfl, hb⟩; replace HB := Aside0.mk (Qan (Zb) hb); (try clear hb); (try clear hb2); (try clear hk); (try clear hi))); go_upto_if 20 with (first | (go_at_call 102; (with_reducible refine (Qbd.calls k1 ((rd_T84 l0 x3_1).f0) ((rd_T84 l0 x3_1).f1) ((rd_T84 l0 x3_1).f2) ((rd_T84 l0 x3_1).f3) ((rd_T84 l0 x3_1).f4) ((rd_T84 l0 x3_1).f5) t402 _ A5.out).mono ?_); rintro e w6 ⟨rfl, hb⟩; replace HB := Aside0.mk (Qan (Zb) hb); (try clear hb); (try clear hb2); (try clear hk); (try clear hi))))
     (try simp only [Act.put, Zj, Zk, Zm])
     by_cases c7 : t402 = 0
     ·rw [if_pos c7] at H
      have c7b0 : (t402 == 0) = T := beq_iff_eq.mpr c7
      have c7b1 : (t402 != 0) = F := bne_eq_false_iff_eq.mpr c7
      clear c7
      (try simp only [c7b0, c7b1])
      by_cases c8 : x3_1 > 0
      ·rw [if_pos c8] at H
       have c8b0 : decide (0 < x3_1) = T := decide_eq_true c8
       clear c8
       obtain ⟨ji9, hji9⟩ : ∃ j_ : Int, (wrap64 (x3_1 - 1)) = j_ := ⟨_, rfl⟩
       replace H : (if 0 ≤ (ji9) then (if (ji9) < (l0.length : Int) then (if (Op.bytesLess (((rd_T84 l0 x3_1).f0).toList) (((rd_T84 l0 (ji9)).f0).toList)) = T then (some 12) else (if (((rd_T84 l0 x3_1).f0).toList) = (((rd_T84 l0 (ji9)).f0).toList) then (some 12) else (QaH.l0 k1 l0 (wrap64 (x3_1 + 1))))) else (none)) else (none)) = some r := by first | (rw [hji9] at H; exact H) | (simp only [hji9] at H ⊢; exact H)
       have hji9w : (IntKind.i64.wrap (x3_1 - 1)) = ji9 := (i64_w _).trans hji9
       by_cases c10 : 0 ≤ (ji9)
       ·rw [if_pos c10] at H
        have c10b0 : decide (0 ≤ (ji9)) = T := decide_eq_true c10
        clear c10
        by_cases c11 : (ji9) < (l0.length : Int)
        ·rw [if_pos c11] at H
         have c11b0 : decide ((ji9) < (l0.length : Int)) = T := decide_eq_true c11
         clear c11
         by_cases c12 : (Op.bytesLess (((rd_T84 l0 x3_1).f0).toList) (((rd_T84 l0 (ji9)).f0).toList)) = T
         ·rw [if_pos c12] at H
          have c12b0 : (Op.bytesLess (((rd_T84 l0 x3_1).f0).toList) (((rd_T84 l0 (ji9)).f0).toList)) = T := c12
          clear c12
          obtain rfl := Option.some.inj H
          have p403 : 0 ≤ (x3_1 : Int) := Ze
          have q403 : x3_1 < (l0.length : Int) := Ze
          obtain ⟨ad403, e403, hx403_0, hx403_1, hx403_2, hx403_3, hx403_4, hx403_5⟩ := at_T84 HR0.out x3_1 p403 q403
          obtain rfl : ad401 = ad403 := (by injection e403)
          replace hx403_0 := Zx HB.out hx403_0
          replace hx403_1 := Zx HB.out hx403_1
          replace hx403_2 := Zx HB.out hx403_2
          replace hx403_3 := Zx HB.out hx403_3
          replace hx403_4 := Zx HB.out hx403_4
          replace hx403_5 := Zx HB.out hx403_5
          replace p403 := eq_true p403
          replace q403 := eq_true q403
          have p404 : 0 ≤ ((ji9) : Int) := Ze
          have q404 : (ji9) < (l0.length : Int) := Ze
          obtain ⟨ad404, e404, hx404_0, hx404_1, hx404_2, hx404_3, hx404_4, hx404_5⟩ := at_T84 HR0.out (ji9) p404 q404
          obtain rfl : ad401 = ad404 := (by injection e404)
          replace hx404_0 := Zx HB.out hx404_0
          replace hx404_1 := Zx HB.out hx404_1
          replace hx404_2 := Zx HB.out hx404_2
          replace hx404_3 := Zx HB.out hx404_3
          replace hx404_4 := Zx HB.out hx404_4
          replace hx404_5 := Zx HB.out hx404_5
          replace p404 := eq_true p404
          replace q404 := eq_true q404
          go_wp2
          repeat (go_quiet (fail); try go_wp2)
          go_ret
          exact ⟨by first | rfl | (simp [Qaj, Qak] <;> rfl) | (simp only [← hji9]; first | rfl | (simp [Qaj, Qak] <;> rfl)) | (simp [*, Qaj, Qak] <;> rfl), Zb⟩
         rw [if_neg c12] at H
         have c12b0 : (Op.bytesLess (((rd_T84 l0 x3_1).f0).toList) (((rd_T84 l0 (ji9)).f0).toList)) = F := by simpa using c12
         clear c12
         by_cases c13 : (((rd_T84 l0 x3_1).f0).toList) = (((rd_T84 l0 (ji9)).f0).toList)
         ·rw [if_pos c13] at H
          have c13b0 : ((((rd_T84 l0 x3_1).f0).toList) == (((rd_T84 l0 (ji9)).f0).toList)) = T := beq_iff_eq.mpr c13
          have c13b1 : ((((rd_T84 l0 x3_1).f0).toList) != (((rd_T84 l0 (ji9)).f0).toList)) = F := bne_eq_false_iff_eq.mpr c13
          clear c13
          obtain rfl := Option.some.inj H
          have p403 : 0 ≤ (x3_1 : Int) := Ze
          have q403 : x3_1 < (l0.length : Int) := Ze
          obtain ⟨ad403, e403, hx403_0, hx403_1, hx403_2, hx403_3, hx403_4, hx403_5⟩ := at_T84 HR0.out x3_1 p403 q403
          obtain rfl : ad401 = ad403 := (by injection e403)
          replace hx403_0 := Zx HB.out hx403_0
          replace hx403_1 := Zx HB.out hx403_1
          replace hx403_2 := Zx HB.out hx403_2
          replace hx403_3 := Zx HB.out hx403_3
          replace hx403_4 := Zx HB.out hx403_4
          replace hx403_5 := Zx HB.out hx403_5
          replace p403 := eq_true p403
          replace q403 := eq_true q403
          have p404 : 0 ≤ ((ji9) : Int) := Ze
          have q404 : (ji9) < (l0.length : Int) := Ze
          obtain ⟨ad404, e404, hx404_0, hx404_1, hx404_2, hx404_3, hx404_4, hx404_5⟩ := at_T84 HR0.out (ji9) p404 q404
          obtain rfl : ad401 = ad404 := (by injection e404)
          replace hx404_0 := Zx HB.out hx404_0
          replace hx404_1 := Zx HB.out hx404_1
          replace hx404_2 := Zx HB.out hx404_2
          replace hx404_3 := Zx HB.out hx404_3
          replace hx404_4 := Zx HB.out hx404_4
          replace hx404_5 := Zx HB.out hx404_5
          replace p404 := eq_true p404
          replace q404 := eq_true q404
          go_wp2
          repeat (go_quiet (fail); try go_wp2)
          go_ret
          exact ⟨by first | rfl | (simp [Qaj, Qak] <;> rfl) | (simp only [← hji9]; first | rfl | (simp [Qaj, Qak] <;> rfl)) | (simp [*, Qaj, Qak] <;> rfl), Zb⟩
         rw [if_neg c13] at H
         have c13b0 : ((((rd_T84 l0 x3_1).f0).toList) == (((rd_T84 l0 (ji9)).f0).toList)) = F := beq_eq_false_iff_ne.mpr c13
         have c13b1 : ((((rd_T84 l0 x3_1).f0).toList) != (((rd_T84 l0 (ji9)).f0).toList)) = T := bne_iff_ne.mpr c13
         have H' := Aside0.mk H
         clear H
         have p403 : 0 ≤ (x3_1 : Int) := Ze
         have q403 : x3_1 < (l0.length : Int) := Ze
         obtain ⟨ad403, e403, hx403_0, hx403_1, hx403_2, hx403_3, hx403_4, hx403_5⟩ := at_T84 HR0.out x3_1 p403 q403
         obtain rfl : ad401 = ad403 := (by injection e403)
         replace hx403_0 := Zx HB.out hx403_0
         replace hx403_1 := Zx HB.out hx403_1
         replace hx403_2 := Zx HB.out hx403_2
         replace hx403_3 := Zx HB.out hx403_3
         replace hx403_4 := Zx HB.out hx403_4
         replace hx403_5 := Zx HB.out hx403_5
         replace p403 := eq_true p403
         replace q403 := eq_true q403
         have p404 : 0 ≤ ((ji9) : Int) := Ze
         have q404 : (ji9) < (l0.length : Int) := Ze
         obtain ⟨ad404, e404, hx404_0, hx404_1, hx404_2, hx404_3, hx404_4, hx404_5⟩ := at_T84 HR0.out (ji9) p404 q404
         obtain rfl : ad401 = ad404 := (by injection e404)
         replace hx404_0 := Zx HB.out hx404_0
         replace hx404_1 := Zx HB.out hx404_1
         replace hx404_2 := Zx HB.out hx404_2
         replace hx404_3 := Zx HB.out hx404_3
         replace hx404_4 := Zx HB.out hx404_4
         replace hx404_5 := Zx HB.out hx404_5
         replace p404 := eq_true p404
         replace q404 := eq_true q404
         go_wp2
         repeat (go_quiet (fail); try go_wp2)
         go_roundg k1
         case measure => have := HK1.out; omega
         case rel => exact ⟨(wrap64 (x3_1 + 1)), (Zs), H', ⟨by have := HK1.out; omega⟩, ⟨Zb⟩⟩
        rw [if_neg c11] at H
        exact absurd H (by simp)
       rw [if_neg c10] at H
       exact absurd H (by simp)
      rw [if_neg c8] at H
      have c8b0 : decide (0 < x3_1) = F := decide_eq_false c8
      clear c8
      have H' := Aside0.mk H
      clear H
      go_wp2
      repeat (go_quiet (fail); try go_wp2)
      go_roundg k1
      case measure => have := HK1.out; omega
      case rel => exact ⟨(wrap64 (x3_1 + 1)), (Zs), H', ⟨by have := HK1.out; omega⟩, ⟨Zb⟩⟩
     rw [if_neg c7] at H
     have c7b0 : (t402 == 0) = F := beq_eq_false_iff_ne.mpr c7
     have c7b1 : (t402 != 0) = T := bne_iff_ne.mpr c7
     (try simp only [c7b0, c7b1])
     obtain rfl := Option.some.inj H
     go_wp2
     repeat (go_quiet (fail); try go_wp2)
     go_ret
     exact ⟨Zq, Zb⟩
    rw [if_neg c4] at H
    exact absurd H (by simp)
   rw [if_neg c3] at H
   have c3b0 : decide (x3_1 < (l0.length : Int)) = F := decide_eq_false c3
   clear c3
   (try simp only [c3b0])
   obtain rfl := Option.some.inj H
   go_wp2
   repeat (go_quiet (fail); try go_wp2)
   go_ret
   exact ⟨Zq, Zb⟩
def QaB.l0 : Nat → List (S84) → List (S98) → List Int → List (S46) → Int → Option (Int × Int)
 | 0, _, _, _, _, _ => none
 | k + 1, x2, x3, x11, x12, x13 => if x13 < (x12.length : Int) then (if 0 ≤ x13 then ((QaM.f k x2 ((rd_T46 x12 x13).f1)).bind fun bt417 => (if bt417.2.2.2.2.2.2 = T then ((Qa7.f k bt417.1 bt417.2.1 bt417.2.2.1 bt417.2.2.2.1 bt417.2.2.2.2.1 bt417.2.2.2.2.2.1 ((rd_T46 x12 x13).f2) x3).bind fun bt426 => (if bt426.2 = 0 then (if x11.length < 17592186044416 then (QaB.l0 k x2 x3 (x11 ++ [bt426.1]) x12 (wrap64 (x13 + 1))) else (none)) else (some (0, bt426.2)))) else (some (0, 11)))) else (none)) else ((QaP.f k x11).bind fun bt414 => (some (bt414.1, bt414.2)))
def QaB.f (k : Nat) (l0 : List (S46)) (a1_0 : ByteArray) (a1_1 : ByteArray) (l2 : List (S84)) (l3 : List (S98)) : Option (Int × Int) := (Qar.f k l0).bind fun t406 => (if t406 = 0 then ((QaH.f k l2).bind fun t407 => (if t407 = 0 then ((QaI.f k l0 a1_0 a1_1).bind fun t411 => (QaB.l0 k l2 l3 (([] : List Int)) t411 0)) else (some (0, t407)))) else (some (0, t406)))
theorem QaB.mono_l : ∀ k, (∀ y0 y1 y2 y3 y4, LeO (QaB.l0 k y0 y1 y2 y3 y4) (QaB.l0 (k + 1) y0 y1 y2 y3 y4))
 | 0 => fun _ _ _ _ _ r h => by simp [QaB.l0] at h
 | k + 1 => by
  have ih0 := QaB.mono_l k
  intro y0 y1 y2 y3 y4
  unfold QaB.l0
  exact ZM7 ih0 QaP.mono QaH.mono QaM.mono Qa7.mono Qar.mono QaI.mono
theorem QaB.mono : ∀ a0 a1 a2 a3 a4 k, LeO (QaB.f k a0 a1 a2 a3 a4) (QaB.f (k + 1) a0 a1 a2 a3 a4) := by
 intro a0 a1 a2 a3 a4 k
 have ih0 := QaB.mono_l k
 unfold QaB.f
 exact ZM7 ih0 QaP.mono QaH.mono QaM.mono Qa7.mono Qar.mono QaI.mono
def QaB.T15 : Bool × List (List Nat × List Nat) := (T, [([], []), ([], []), ([], []), ([1, 2], [1, 2]), ([3], [3]), ([4], [4]), ([], []), ([0, 5, 6], [0, 5, 6]), ([7], [7]), ([8], [8]), ([8], [8]), ([9, 7, 0, 1, 2, 3, 4, 5, 6, 7, 8, 9], [9]), ([10, 11, 0, 1, 2, 3, 4, 5, 6, 7, 8, 9, 10, 11], [10])])
def QaB.B15 : List Nat := [0, 0, 0, 6, 14, 30, 0, 127, 255, 511, 511, 1023, 4095]
theorem QaB.tab15 : rtab .any (opsOf Try.f37 15) = QaB.T15 := by kernel_rfl
theorem QaB.bits15 : Qb0 QaB.T15.2 QaB.B15 = T := by kernel_rfl
theorem QaB.calls (k : Nat) (A0 : Option Addr) (c0 : Nat) (l0 : List (S46)) (a1_0 : ByteArray) (a1_1 : ByteArray) (A2 : Option Addr) (c2 : Nat) (l2 : List (S84)) (A3 : Option Addr) (c3 : Nat) (l3 : List (S98)) (r1 : Int) (r2 : Int) (w : World) (hr0 : Kd.C k46 w A0 l0.length l0) (hc0 : l0.length ≤ c0) (hr2 : Kd.C k84 w A2 l2.length l2) (hc2 : l2.length ≤ c2) (hr3 : Kd.C k98 w A3 l3.length l3) (hc3 : l3.length ≤ c3) (h : QaB.f k l0 a1_0 a1_1 l2 l3 = some (r1, r2)) :
  Calls Try.prog 37 #[.slice A0 l0.length c0, .agg #[.string a1_0, .string a1_1], .slice A2 l2.length c2, .slice A3 l3.length c3] w fun e w' => e = .returned (.tuple #[.int .i64 r1, .int .i64 r2]) ∧ Below w.heap.size w w' := by
 have hu44 := Try.underlying44
 have hu84 := Try.underlying84
 have HR0 := Aside0.mk hr0
 have HC0 := Aside0.mk hc0
 clear hr0 hc0
 have HR2 := Aside0.mk hr2
 have HC2 := Aside0.mk hc2
 clear hr2 hc2
 have HR3 := Aside0.mk hr3
 have HC3 := Aside0.mk hc3
 clear hr3 hc3
 have HB := Aside0.mk (Below.refl w.heap.size w)
 have H : ((Qar.f k l0).bind fun t406 => (if t406 = 0 then ((QaH.f k l2).bind fun t407 => (if t407 = 0 then ((QaI.f k l0 a1_0 a1_1).bind fun t411 => (QaB.l0 k l2 l3 (([] : List Int)) t411 0)) else (some (0, t407)))) else (some (0, t406)))) = some (r1, r2) := h
 clear h
 replace H := Option.bind_eq_some_iff.mp H
 obtain ⟨t406, A50, H⟩ := H
 replace H : (if t406 = 0 then ((QaH.f k l2).bind fun t407 => (if t407 = 0 then ((QaI.f k l0 a1_0 a1_1).bind fun t411 => (QaB.l0 k l2 l3 (([] : List Int)) t411 0)) else (some (0, t407)))) else (some (0, t406))) = some (r1, r2) := H
 have A5 := Aside0.mk A50
 clear A50
 go_enter Try.func37, Try.ntmps37
 go_upto_if 21 with (first | ((with_reducible refine QaL (N := 5) rfl ?_); refine Zbx (N := 5) (cs := #[.string a1_0, .string a1_1]) (t := 44) ?_; intro gb405 hg w6 hbox hb; have BK405 := Aside0.mk (hbox); have GW405 := Aside0.mk (Zt w hg (Zb)); have GE405 := GW405; replace HB := Aside0.mk (Qan (Zb) hb); clear hb hbox hg) | ((with_reducible refine Qaw (f := 66) rfl ?_); refine goesL_ (some 19) rfl rfl Try.func66 (by kernel_rfl) rfl #[.slice A0 l0.length c0] rfl (Zl) ?_; (with_reducible refine (Qar.calls k _ _ l0 t406 _ ?side1 ?side2 A5.out).mono ?_); (case side1 => exact Zv (Kd.C_below HR0.out HB.out)); (case side2 => exact HC0.out); rintro e w7 ⟨rfl, hb⟩; refine ⟨_, rfl, ?_⟩; replace BK405 := Aside0.mk (Zi BK405.out hb); replace HB := Aside0.mk (Qan (Zc1 GE405.out) hb); (try clear hb); (try clear hb2); (try clear hk); (try clear hi)))
 (try simp only [Act.put, Zj, Zk, Zm])
 by_cases c8 : t406 = 0
 ·rw [if_pos c8] at H
  have c8b0 : (t406 == 0) = T := beq_iff_eq.mpr c8
  have c8b1 : (t406 != 0) = F := bne_eq_false_iff_eq.mpr c8
  clear c8
  (try simp only [c8b0, c8b1])
  replace H := Option.bind_eq_some_iff.mp H
  obtain ⟨t407, A90, H⟩ := H
  replace H : (if t407 = 0 then ((QaI.f k l0 a1_0 a1_1).bind fun t411 => (QaB.l0 k l2 l3 (([] : List Int)) t411 0)) else (some (0, t407))) = some (r1, r2) := H
  have A9 := Aside0.mk A90
  clear A90
  go_upto_if 26 with (first | ((with_reducible refine Qaw (f := 67) rfl ?_); refine goesL_ (some 24) rfl rfl Try.func67 (by kernel_rfl) rfl #[.slice A2 l2.length c2] rfl (Zl) ?_; (with_reducible refine (QaH.calls k _ _ l2 t407 _ ?side1 ?side2 A9.out).mono ?_); (case side1 => exact Zv (Kd.C_below HR2.out HB.out)); (case side2 => exact HC2.out); rintro e w10 ⟨rfl, hb⟩; refine ⟨_, rfl, ?_⟩; replace BK405 := Aside0.mk (Zi BK405.out hb); replace HB := Aside0.mk (Qan (Zc1 GE405.out) hb); (try clear hb); (try clear hb2); (try clear hk); (try clear hi)))
  (try simp only [Act.put, Zj, Zk, Zm])
  by_cases c11 : t407 = 0
  ·rw [if_pos c11] at H
   have c11b0 : (t407 == 0) = T := beq_iff_eq.mpr c11
   have c11b1 : (t407 != 0) = F := bne_eq_false_iff_eq.mpr c11
   clear c11
   (try simp only [c11b0, c11b1])
   obtain ⟨y408, hy408⟩ : ∃ y_ : List Int, y_ = (([] : List Int)) := ⟨_, rfl⟩
   replace H : ((QaI.f k l0 a1_0 a1_1).bind fun t411 => (QaB.l0 k l2 l3 y408 t411 0)) = some (r1, r2) := by first | (rw [hy408]; with_reducible exact H) | (have H2_ := (Option.bind_some _ _).symm.trans H; rw [hy408]; with_reducible exact H2_) | (have H2_ := (Option.bind_some _ _).symm.trans H; with_reducible exact H2_) | with_reducible exact H | (rw [hy408]; exact H) | exact H
   have Ny408 := Aside0.mk hy408
   clear hy408
   replace H := Option.bind_eq_some_iff.mp H
   obtain ⟨t411, A120, H⟩ := H
   replace H : (QaB.l0 k l2 l3 y408 t411 0) = some (r1, r2) := H
   have A12 := Aside0.mk A120
   clear A120
   have H' := Aside0.mk H
   clear H
   go_wp2_with (first | ((with_reducible refine QaL (N := 28) rfl ?_); refine Kd.R_lit (Kd.int .i64) _ 3 ?hg (N := 28) ?hd (xs := ([] : List Int)) (inner := []) (ok := fun _ => True) (okp := fun _ => True) ?hr ?hp (fun _ hk => hk) trivial (Below.refl _ _) (Nat.le_refl _) (by simp) ?_; (case hd => rfl); (case hg => rfl); (case hr => first | (go_simp; done) | (go_simp; rfl)); (case hp => exact (Reps.none _ _)); intro v409 w13 ho14 hb hg_ hnew_; clear hg_ hnew_; (first | rw [← Ny408.out] at ho14 | (simp only [Int.reduceToNat] at ho14; rw [← Ny408.out] at ho14)); have HO410 := Aside0.mk (Kd.R_lower ho14 (Qam (Zc1 GE405.out))); replace BK405 := Aside0.mk (Zi BK405.out hb); replace HB := Aside0.mk (Qan (Zc1 GE405.out) hb); clear hb ho14; obtain ⟨hcz15_0, hfz15_0⟩ := Zy (v := (.string a1_0)) BK405.out 0; obtain ⟨hcz15_1, hfz15_1⟩ := Zy (v := (.string a1_1)) BK405.out 1) | ((with_reducible refine Qaw (f := 40) rfl ?_); refine goesL_ (some 31) rfl rfl Try.func40 (by kernel_rfl) rfl #[.slice A0 l0.length c0, .agg #[.string a1_0, .string a1_1]] rfl (Zl) ?_; (with_reducible refine (QaI.calls k _ _ l0 a1_0 a1_1 t411 _ ?side1 ?side2 A12.out).mono ?_); (case side1 => exact Zv (Kd.C_below HR0.out HB.out)); (case side2 => exact HC0.out); rintro e w16 ⟨v412, rfl, ho0, hb⟩; refine ⟨_, rfl, ?_⟩; have HO413 := Aside0.mk (Kd.R_lower ho0 (Qam (Zc1 GE405.out))); replace HO410 := Aside0.mk (Kd.R_below (Zr HO410.out) hb); replace BK405 := Aside0.mk (Zi BK405.out hb); replace HB := Aside0.mk (Qan (Zc1 GE405.out) hb); (try clear hb); (try clear hb2); (try clear hk); (try clear hi); (try clear ho0)))
   go_loopg [11, 13] k (fun kq v11 v13 w' => ∃ (x11_1 : List Int) (x13_1 : Int), v13 = .int .i64 x13_1 ∧ Aside0 (QaB.l0 kq l2 l3 x11_1 t411 x13_1 = some (r1, r2)) ∧ Aside0 (kq ≤ k) ∧ Aside0 (Kd.R (Kd.int .i64) 3 w' w.heap.size (fun _ => True) v11 x11_1) ∧ Aside0 (Kd.R k46 46 w' w.heap.size (fun _ => True) v412 t411) ∧ Aside0 (w'.heap[gb405]? = some (.cells #[.string a1_0, .string a1_1] 44 (0, 0))) ∧ Aside0 (Below w.heap.size w w'))
   case atStart => exact ⟨(y408), (0), (Zs), H', ⟨Nat.le_refl _⟩, ⟨Zr HO410.out⟩, ⟨Zr HO413.out⟩, ⟨Zu BK405.out⟩, ⟨Zc1 GE405.out⟩⟩
   case round =>
    clear H'
    try clear c1
    try clear c2
    try clear p2
    try clear c3
    try clear c4
    try clear c6
    try clear c8
    try clear c8b0
    try clear c8b1
    try clear c11
    try clear c11b0
    try clear c11b1
    try clear hcz15_0
    try clear hcz15_1
    try clear hfz15_0
    try clear hfz15_1
    obtain ⟨x11_1, x13_1, rfl, HA, HK1, HO_11, HO_12, BK405, HB⟩ := hrel
    cases gk with
    | zero => exact absurd HA.out (by simp [QaB.l0])
    | succ k1 =>
     have H := HA.out
     clear HA
     simp only [QaB.l0] at H
     obtain ⟨Ao17, co17, eo17⟩ := Kd.R_slice HO_12.out
     subst eo17
     go_upto_if 35 with (fail)
     by_cases c18 : x13_1 < (t411.length : Int)
     ·rw [if_pos c18] at H
      have c18b0 : decide (x13_1 < (t411.length : Int)) = T := decide_eq_true c18
      clear c18
      (try simp only [c18b0])
      by_cases c19 : 0 ≤ x13_1
      ·rw [if_pos c19] at H
       have c19b0 : decide (0 ≤ x13_1) = T := decide_eq_true c19
       clear c19
       replace H := Option.bind_eq_some_iff.mp H
       obtain ⟨⟨t417, t418, t419, t420, t421, t422, t423⟩, A200, H⟩ := H
       replace H : (if t423 = T then ((Qa7.f k1 t417 t418 t419 t420 t421 t422 ((rd_T46 t411 x13_1).f2) l3).bind fun bt426 => (if bt426.2 = 0 then (if x11_1.length < 17592186044416 then (QaB.l0 k1 l2 l3 (x11_1 ++ [bt426.1]) t411 (wrap64 (x13_1 + 1))) else (none)) else (some (0, bt426.2)))) else (some (0, 11))) = some (r1, r2) := H
       have A20 := Aside0.mk A200
       clear A200
       have p416 : 0 ≤ (x13_1 : Int) := Ze
       have q416 : x13_1 < (t411.length : Int) := Ze
       obtain ⟨ad416, e416, hx416_0, hx416_1, hx416_2, hx416_3⟩ := at_T46 (Kd.R_reads' HO_12.out).2.2 x13_1 p416 q416
       cases e416
       replace p416 := eq_true p416
       replace q416 := eq_true q416
       go_upto_if 49 with (first | ((with_reducible refine Qaw (f := 41) rfl ?_); refine goesL_ (some 45) rfl rfl Try.func41 (by kernel_rfl) rfl #[.slice A2 l2.length c2, .string ((rd_T46 t411 x13_1).f1)] rfl (Zl) ?_; (with_reducible refine (QaM.calls k1 _ _ l2 ((rd_T46 t411 x13_1).f1) t417 t418 t419 t420 t421 t422 t423 _ ?side1 ?side2 A20.out).mono ?_); (case side1 => exact Zv (Kd.C_below HR2.out HB.out)); (case side2 => exact HC2.out); rintro e w21 ⟨rfl, hb⟩; refine ⟨_, rfl, ?_⟩; replace HO_11 := Aside0.mk (Kd.R_below (Zr HO_11.out) hb); replace HO_12 := Aside0.mk (Kd.R_below (Zr HO_12.out) hb); replace BK405 := Aside0.mk (Zi BK405.out hb); replace HB := Aside0.mk (Qan (Zc1 GE405.out) hb); (try clear hb); (try clear hb2); (try clear hk); (try clear hi)) | ((with_reducible refine QaL (N := 14) rfl ?_); refine Zbx (N := 14) (cs := #[.string (⟨#[]⟩ : ByteArray), .int .i64 0, .int .i64 0, .int .i64 0, .int .i64 0, .int .i64 0]) (t := 84) ?_; intro gb424 hg w22 hbox hb; have BK424 := Aside0.mk (hbox); have GW424 := Aside0.mk (Zt w hg (Zc1 GE405.out)); have GE424 := GW424; have NB405_424 := Aside0.mk (Zn hg BK405.out); have NB424_405 := Aside0.mk NB405_424.out.symm; replace HO_11 := Aside0.mk (Kd.R_below (Zr HO_11.out) hb); replace HO_12 := Aside0.mk (Kd.R_below (Zr HO_12.out) hb); replace BK405 := Aside0.mk (Zi BK405.out hb); replace HB := Aside0.mk (Qan (Zc1 GE405.out) hb); clear hb hbox hg; have hnb23 := NB424_405.out; have hnc23 := NB405_424.out; obtain ⟨hcz24_0, hfz24_0⟩ := Zy (v := (.string (⟨#[]⟩ : ByteArray))) BK424.out 0; obtain ⟨hcz24_1, hfz24_1⟩ := Zy (v := (.int .i64 0)) BK424.out 1; obtain ⟨hcz24_2, hfz24_2⟩ := Zy (v := (.int .i64 0)) BK424.out 2; obtain ⟨hcz24_3, hfz24_3⟩ := Zy (v := (.int .i64 0)) BK424.out 3; obtain ⟨hcz24_4, hfz24_4⟩ := Zy (v := (.int .i64 0)) BK424.out 4; obtain ⟨hcz24_5, hfz24_5⟩ := Zy (v := (.int .i64 0)) BK424.out 5))
       (try simp only [Act.put, Zj, Zk, Zm])
       by_cases c25 : t423 = T
       ·subst c25
        have H1 : ((Qa7.f k1 t417 t418 t419 t420 t421 t422 ((rd_T46 t411 x13_1).f2) l3).bind fun bt426 => (if bt426.2 = 0 then (if x11_1.length < 17592186044416 then (QaB.l0 k1 l2 l3 (x11_1 ++ [bt426.1]) t411 (wrap64 (x13_1 + 1))) else (none)) else (some (0, bt426.2)))) = some (r1, r2) := by rw [if_pos rfl] at H; exact H
        clear H
        have H := H1
        clear H1
        replace H := Option.bind_eq_some_iff.mp H
        obtain ⟨⟨t426, t427⟩, A260, H⟩ := H
        replace H : (if t427 = 0 then (if x11_1.length < 17592186044416 then (QaB.l0 k1 l2 l3 (x11_1 ++ [t426]) t411 (wrap64 (x13_1 + 1))) else (none)) else (some (0, t427))) = some (r1, r2) := H
        have A26 := Aside0.mk A260
        clear A260
        try go_wp2
        have n0_ : Aside0 (Kd.R (Kd.int .i64) 3 ((((((w22.setCell ⟨gb424, 0, none⟩ (.string t417)).setCell ⟨gb424, 1, none⟩ (.int .i64 t418)).setCell ⟨gb424, 2, none⟩ (.int .i64 t419)).setCell ⟨gb424, 3, none⟩ (.int .i64 t420)).setCell ⟨gb424, 4, none⟩ (.int .i64 t421)).setCell ⟨gb424, 5, none⟩ (.int .i64 t422)) w.heap.size (fun _ => True) u11 x11_1) := ⟨by (with_reducible repeat (first | apply Kd.R_alloc | apply Kd.R_drewN | apply Kd.R_drew)); exact Kd.R_mono (Zf gb424 5 (Zf gb424 4 (Zf gb424 3 (Zf gb424 2 (Zf gb424 1 (Zf gb424 0 (Kd.R_types HO_11.out BK424.out (by decide)) (.string t417)) (.int .i64 t418)) (.int .i64 t419)) (.int .i64 t420)) (.int .i64 t421)) (.int .i64 t422)) (fun _ hk => trivial)⟩
        have n1_ : Aside0 (Kd.R k46 46 ((((((w22.setCell ⟨gb424, 0, none⟩ (.string t417)).setCell ⟨gb424, 1, none⟩ (.int .i64 t418)).setCell ⟨gb424, 2, none⟩ (.int .i64 t419)).setCell ⟨gb424, 3, none⟩ (.int .i64 t420)).setCell ⟨gb424, 4, none⟩ (.int .i64 t421)).setCell ⟨gb424, 5, none⟩ (.int .i64 t422)) w.heap.size (fun _ => True) (.slice (some ad416) t411.length co17) t411) := ⟨by (with_reducible repeat (first | apply Kd.R_alloc | apply Kd.R_drewN | apply Kd.R_drew)); exact Kd.R_mono (Zf gb424 5 (Zf gb424 4 (Zf gb424 3 (Zf gb424 2 (Zf gb424 1 (Zf gb424 0 (Kd.R_types HO_12.out BK424.out (by decide)) (.string t417)) (.int .i64 t418)) (.int .i64 t419)) (.int .i64 t420)) (.int .i64 t421)) (.int .i64 t422)) (fun _ hk => trivial)⟩
        have n2_ : Aside0 (((((((w22.setCell ⟨gb424, 0, none⟩ (.string t417)).setCell ⟨gb424, 1, none⟩ (.int .i64 t418)).setCell ⟨gb424, 2, none⟩ (.int .i64 t419)).setCell ⟨gb424, 3, none⟩ (.int .i64 t420)).setCell ⟨gb424, 4, none⟩ (.int .i64 t421)).setCell ⟨gb424, 5, none⟩ (.int .i64 t422)).heap[gb405]? = some (.cells #[.string a1_0, .string a1_1] 44 (0, 0))) := ⟨Zg6 BK405.out NB405_424.out NB405_424.out NB405_424.out NB405_424.out NB405_424.out NB405_424.out⟩
        have n3_ : Aside0 (((((((w22.setCell ⟨gb424, 0, none⟩ (.string t417)).setCell ⟨gb424, 1, none⟩ (.int .i64 t418)).setCell ⟨gb424, 2, none⟩ (.int .i64 t419)).setCell ⟨gb424, 3, none⟩ (.int .i64 t420)).setCell ⟨gb424, 4, none⟩ (.int .i64 t421)).setCell ⟨gb424, 5, none⟩ (.int .i64 t422)).heap[gb424]? = some (.cells #[.string t417, .int .i64 t418, .int .i64 t419, .int .i64 t420, .int .i64 t421, .int .i64 t422] 84 (0, 0))) := ⟨Zp2 BK424.out⟩
        have n4_ : Aside0 (Below w.heap.size w ((((((w22.setCell ⟨gb424, 0, none⟩ (.string t417)).setCell ⟨gb424, 1, none⟩ (.int .i64 t418)).setCell ⟨gb424, 2, none⟩ (.int .i64 t419)).setCell ⟨gb424, 3, none⟩ (.int .i64 t420)).setCell ⟨gb424, 4, none⟩ (.int .i64 t421)).setCell ⟨gb424, 5, none⟩ (.int .i64 t422))) := ⟨Zc2 GE405.out GE424.out⟩
        (try clear HO_11)
        (try clear HO_12)
        (try clear BK405)
        (try clear BK424)
        (try clear HB)
        generalize ((((((w22.setCell ⟨gb424, 0, none⟩ (.string t417)).setCell ⟨gb424, 1, none⟩ (.int .i64 t418)).setCell ⟨gb424, 2, none⟩ (.int .i64 t419)).setCell ⟨gb424, 3, none⟩ (.int .i64 t420)).setCell ⟨gb424, 4, none⟩ (.int .i64 t421)).setCell ⟨gb424, 5, none⟩ (.int .i64 t422)) = w27 at n0_ n1_ n2_ n3_ n4_ ⊢
        have HO_11 := n0_
        have HO_12 := n1_
        have BK405 := n2_
        have BK424 := n3_
        have HB := n4_
        clear n0_ n1_ n2_ n3_ n4_
        replace HO_11 := Aside0.mk (Kd.R_drew HO_11.out)
        replace HO_12 := Aside0.mk (Kd.R_drew HO_12.out)
        replace BK405 := Aside0.mk (Qad BK405.out)
        replace BK424 := Aside0.mk (Qad BK424.out)
        replace HB := Aside0.mk (Qag HB.out)
        have p425 : 0 ≤ (x13_1 : Int) := Ze
        have q425 : x13_1 < (t411.length : Int) := Ze
        obtain ⟨ad425, e425, hx425_0, hx425_1, hx425_2, hx425_3⟩ := at_T46 (Kd.R_reads' HO_12.out).2.2 x13_1 p425 q425
        obtain rfl : ad416 = ad425 := (by injection e425)
        replace p425 := eq_true p425
        replace q425 := eq_true q425
        refine start_ (n := 13) (S := fun w' => w'.cell? ⟨gb424, 0, none⟩ = some (.string t417) ∧ w'.cell? ⟨gb424, 1, none⟩ = some (.int .i64 t418) ∧ w'.cell? ⟨gb424, 2, none⟩ = some (.int .i64 t419) ∧ w'.cell? ⟨gb424, 3, none⟩ = some (.int .i64 t420) ∧ w'.cell? ⟨gb424, 4, none⟩ = some (.int .i64 t421) ∧ w'.cell? ⟨gb424, 5, none⟩ = some (.int .i64 t422) ∧ w'.cell? (ad416.add ((x13_1).toNat * 4)) = some (.string ((rd_T46 t411 x13_1).f0.f0)) ∧ w'.cell? ⟨(ad416.add ((x13_1).toNat * 4)).block, (ad416.add ((x13_1).toNat * 4)).off + 1, none⟩ = some (.string ((rd_T46 t411 x13_1).f0.f1)) ∧ w'.cell? ⟨(ad416.add ((x13_1).toNat * 4)).block, (ad416.add ((x13_1).toNat * 4)).off + 2, none⟩ = some (.string ((rd_T46 t411 x13_1).f1)) ∧ w'.cell? ⟨(ad416.add ((x13_1).toNat * 4)).block, (ad416.add ((x13_1).toNat * 4)).off + 3, none⟩ = some (.int .i64 ((rd_T46 t411 x13_1).f2))) (ds := []) #[F, F, F, F, F, F, F, F, F, F, F, F, F] (by kernel_rfl) rfl rfl ⟨(Qai BK424.out 0).trans rfl, (Qai BK424.out 1).trans rfl, (Qai BK424.out 2).trans rfl, (Qai BK424.out 3).trans rfl, (Qai BK424.out 4).trans rfl, (Qai BK424.out 5).trans rfl, hx425_0, hx425_1, hx425_2, hx425_3⟩ (fun hHeld => ?_); refine QbW QaB.tab15 QaB.bits15 (fun HT_ HW_ => ?_)
        generalize w27.drew = w28 at HO_11 HO_12 BK405 BK424 HB hx425_0 hx425_1 hx425_2 hx425_3 hHeld ⊢
        refine pure_ (i := 1) (N := some 52) (v := ?_) (a' := ?_) #[F, T, F, F, F, F, F, F, F, F, F, F, F] rfl rfl (any_of HT_.out (by kernel_rfl)) (fun _ _ _ h => h) (Or.inl ⟨by rfl, ?_⟩) ?_ ?_
        rotate_left
        ·intro w'
         go_simp
         with_reducible rfl
        rotate_left
        ·simp only [Act.put, Zj, Zk, Zm, i64_w, i32_w]
         rfl
        refine pure_ (i := 2) (N := some 53) (v := ?_) (a' := ?_) #[F, T, T, F, F, F, F, F, F, F, F, F, F] rfl rfl (any_of HT_.out (by kernel_rfl)) (fun _ _ _ h => h) (Or.inl ⟨by rfl, ?_⟩) ?_ ?_
        rotate_left
        ·intro w'
         go_simp
         with_reducible rfl
        rotate_left
        ·simp only [Act.put, Zj, Zk, Zm, i64_w, i32_w]
         rfl
        refine pure_ (i := 3) (N := some 54) (v := ?_) (a' := ?_) #[F, T, T, T, F, F, F, F, F, F, F, F, F] rfl rfl (any_of HT_.out (by kernel_rfl)) (fun _ _ _ h => h) (Or.inl ⟨by rfl, ?_⟩) ?_ ?_
        rotate_left
        ·intro w'
         go_simp
         with_reducible rfl
        rotate_left
        ·simp only [Act.put, Zj, Zk, Zm, i64_w, i32_w]
         rfl
        refine pure_ (i := 4) (N := some 55) (v := ?_) (a' := ?_) #[F, T, T, T, T, F, F, F, F, F, F, F, F] rfl rfl (any_of HT_.out (by kernel_rfl)) (fun _ _ _ h => h) (Or.inl ⟨by rfl, ?_⟩) ?_ ?_
        rotate_left
        ·intro w'
         go_simp
         with_reducible rfl
        rotate_left
        ·simp only [Act.put, Zj, Zk, Zm, i64_w, i32_w]
         rfl
        refine pure_ (i := 6) (N := some 57) (v := ?_) (a' := ?_) #[F, T, T, T, T, F, T, F, F, F, F, F, F] rfl rfl (any_of HT_.out (by kernel_rfl)) (fun _ _ _ h => h) (Or.inl ⟨by rfl, ?_⟩) ?_ ?_
        rotate_left
        ·intro w'
         go_simp
         with_reducible rfl
        rotate_left
        ·simp only [Act.put, Zj, Zk, Zm, i64_w, i32_w]
         rfl
        refine take_ (i := 0) (N := some 51) (v := ?_) (a' := ?_) #[T, T, T, T, T, F, T, F, F, F, F, F, F] rfl rfl (QbJ HT_.out HW_.out (by kernel_rfl)) (fun _ _ _ h => h) (Or.inl ⟨by rfl, ?_⟩) hHeld ?_ ?_
        rotate_left
        ·rintro w' ⟨s0, s1, s2, s3, s4, s5, s6, s7, s8, s9⟩
         go_simp
         with_reducible rfl
        rotate_left
        ·simp only [Act.put, Zj, Zk, Zm, i64_w, i32_w]
         rfl
        refine take_ (i := 5) (N := some 56) (v := ?_) (a' := ?_) #[T, T, T, T, T, T, T, F, F, F, F, F, F] rfl rfl (QbJ HT_.out HW_.out (by kernel_rfl)) (fun _ _ _ h => h) (Or.inl ⟨by rfl, ?_⟩) hHeld ?_ ?_
        rotate_left
        ·rintro w' ⟨s0, s1, s2, s3, s4, s5, s6, s7, s8, s9⟩
         go_simp
         with_reducible rfl
        rotate_left
        ·simp only [Act.put, Zj, Zk, Zm, i64_w, i32_w]
         rfl
        refine one_ (i := 7) (N := some 58) #[T, T, T, T, T, T, T, T, F, F, F, F, F] rfl rfl (one_of HT_.out (by kernel_rfl)) (by decide) (fun K hK => ?_)
        refine goes_ Try.func42 (by kernel_rfl) rfl #[.agg #[.string t417, .int .i64 t418, .int .i64 t419, .int .i64 t420, .int .i64 t421, .int .i64 t422], .int .i64 ((rd_T46 t411 x13_1).f2), .slice A3 l3.length c3] (by rfl) rfl rfl (Zl) ?_
        with_reducible refine (Qa7.calls k1 t417 t418 t419 t420 t421 t422 ((rd_T46 t411 x13_1).f2) _ _ l3 t426 t427 _ ?side1 ?side2 A26.out).mono ?_
        (case side1 => exact Zv (Kd.C_below HR3.out HB.out))
        (case side2 => exact HC3.out)
        rintro e w29 ⟨rfl, hb⟩
        have HS6_ := (hb.cell (World.block_lt_of_cell? _ _ (hHeld.2.2.2.2.2.2.1))).trans (hHeld.2.2.2.2.2.2.1)
        have HS7_ := (hb.cell (World.block_lt_of_cell? _ _ (hHeld.2.2.2.2.2.2.2.1))).trans (hHeld.2.2.2.2.2.2.2.1)
        have HS8_ := (hb.cell (World.block_lt_of_cell? _ _ (hHeld.2.2.2.2.2.2.2.2.1))).trans (hHeld.2.2.2.2.2.2.2.2.1)
        have HS9_ := (hb.cell (World.block_lt_of_cell? _ _ (hHeld.2.2.2.2.2.2.2.2.2))).trans (hHeld.2.2.2.2.2.2.2.2.2)
        refine ⟨_, rfl, ?_⟩
        replace HO_11 := Aside0.mk (Kd.R_below (Zr HO_11.out) hb)
        replace HO_12 := Aside0.mk (Kd.R_below (Zr HO_12.out) hb)
        replace BK405 := Aside0.mk (Zi BK405.out hb)
        replace BK424 := Aside0.mk (Zi BK424.out hb)
        replace HB := Aside0.mk (Qan (Zc2 GE405.out GE424.out) hb)
        (try clear hb)
        (try clear hb2)
        (try clear hk)
        (try clear hi)
        refine hK.out _ _ ⟨(Qai BK424.out 0).trans rfl, (Qai BK424.out 1).trans rfl, (Qai BK424.out 2).trans rfl, (Qai BK424.out 3).trans rfl, (Qai BK424.out 4).trans rfl, (Qai BK424.out 5).trans rfl, HS6_, HS7_, HS8_, HS9_⟩ (fun hHeld => ?_)
        clear hK K
        refine norm_ (a' := ?_) ?_ ?_
        rotate_left
        ·show Act.put _ (some 58) _ = _
         simp only [Act.put, Zj, Zk, Zm, i64_w, i32_w]
         rfl
        refine pure_ (i := 8) (N := some 50) (v := ?_) (a' := ?_) #[T, T, T, T, T, T, T, T, T, F, F, F, F] rfl rfl (any_of HT_.out (by kernel_rfl)) (fun _ _ _ h => h) (Or.inl ⟨by rfl, ?_⟩) ?_ ?_
        rotate_left
        ·intro w'
         go_simp
         with_reducible rfl
        rotate_left
        ·simp only [Act.put, Zj, Zk, Zm, i64_w, i32_w]
         rfl
        refine pure_ (i := 9) (N := some 59) (v := ?_) (a' := ?_) #[T, T, T, T, T, T, T, T, T, T, F, F, F] rfl rfl (any_of HT_.out (by kernel_rfl)) (fun _ _ _ h => h) (Or.inl ⟨by rfl, ?_⟩) ?_ ?_
        rotate_left
        ·intro w'
         go_simp
         with_reducible rfl
        rotate_left
        ·simp only [Act.put, Zj, Zk, Zm, i64_w, i32_w]
         rfl
        refine pure_ (i := 10) (N := some 60) (v := ?_) (a' := ?_) #[T, T, T, T, T, T, T, T, T, T, T, F, F] rfl rfl (any_of HT_.out (by kernel_rfl)) (fun _ _ _ h => h) (Or.inl ⟨by rfl, ?_⟩) ?_ ?_
        rotate_left
        ·intro w'
         go_simp
         with_reducible rfl
        rotate_left
        ·simp only [Act.put, Zj, Zk, Zm, i64_w, i32_w]
         rfl
        refine pure_ (i := 11) (N := some 16) (v := ?_) (a' := ?_) #[T, T, T, T, T, T, T, T, T, T, T, T, F] rfl rfl (any_of HT_.out (by kernel_rfl)) (fun _ _ _ h => h) (Or.inl ⟨by rfl, ?_⟩) ?_ ?_
        rotate_left
        ·intro w'
         go_simp
         with_reducible rfl
        rotate_left
        ·simp only [Act.put, Zj, Zk, Zm, i64_w, i32_w]
         rfl
        refine pure_ (i := 12) (N := some 17) (v := ?_) (a' := ?_) #[T, T, T, T, T, T, T, T, T, T, T, T, T] rfl rfl (any_of HT_.out (by kernel_rfl)) (fun _ _ _ h => h) (Or.inl ⟨by rfl, ?_⟩) ?_ ?_
        rotate_left
        ·intro w'
         go_simp
         with_reducible rfl
        rotate_left
        ·simp only [Act.put, Zj, Zk, Zm, i64_w, i32_w]
         rfl
        refine done_ (Qb4 HT_.out (by kernel_rfl)) ?_
        go_upto_if 62 with (fail)
        by_cases c30 : t427 = 0
        ·rw [if_pos c30] at H
         have c30b0 : (t427 == 0) = T := beq_iff_eq.mpr c30
         have c30b1 : (t427 != 0) = F := bne_eq_false_iff_eq.mpr c30
         clear c30
         (try simp only [c30b0, c30b1])
         by_cases c31 : x11_1.length < 17592186044416
         ·rw [if_pos c31] at H
          have LMc31 := Aside0.mk c31
          clear c31
          obtain ⟨y428, hy428⟩ : ∃ y_ : List Int, y_ = (x11_1 ++ [t426]) := ⟨_, rfl⟩
          replace H : (QaB.l0 k1 l2 l3 y428 t411 (wrap64 (x13_1 + 1))) = some (r1, r2) := by first | (rw [hy428]; with_reducible exact H) | (have H2_ := (Option.bind_some _ _).symm.trans H; rw [hy428]; with_reducible exact H2_) | (have H2_ := (Option.bind_some _ _).symm.trans H; with_reducible exact H2_) | with_reducible exact H | (rw [hy428]; exact H) | exact H
          have Ny428 := Aside0.mk hy428
          clear hy428
          have H' := Aside0.mk H
          clear H
          go_wp2_with (first | ((with_reducible refine QbO (b := .append) (xs := #[.tmp 64, .tmp 66]) rfl ?_); at_builtin; refine Kd.R_append (Kd.int .i64) (w0 := w) w.heap.size rfl (.tmp 64) (.tmp 66) 63 3 (.int .i64 0) 8 rfl Try.underlying63 info3 rfl (by decide) (by omega) u11 x11_1 t426 [.int .i64 t426] (fun _ => True) (fun _ => False) rfl rfl ?aP (fun _ hk => hk.elim) ?aF ?aO ?aB ?aS ?aL ?_; (case aP => exact rfl); (case aB => exact (Zc2 GE405.out GE424.out)); (case aF => exact (fun _ _ => trivial)); (case aO => exact (Zr HO_11.out)); (case aS => exact (Qam (Zc2 GE405.out GE424.out))); (case aL => have := LMc31.out; omega); intro v429 w32 ho hb hg hat; rw [← Ny428.out] at ho; have HO430 := Aside0.mk (ho); replace HO_12 := Aside0.mk (Kd.R_over' (Zr HO_12.out) (Kd.R_typed (Zr HO_11.out)) (by decide) hg); replace BK405 := Aside0.mk (Qbg (g := gb405) (o := .cells #[.string a1_0, .string a1_1] 44 (0, 0)) (Zu BK405.out) hg (Kd.R_ne HO_11.out BK405.out (by decide))); replace BK424 := Aside0.mk (Qbg (g := gb424) (o := .cells #[.string t417, .int .i64 t418, .int .i64 t419, .int .i64 t420, .int .i64 t421, .int .i64 t422] 84 (0, 0)) (Zu BK424.out) hg (Kd.R_ne HO_11.out BK424.out (by decide))); replace HB := Aside0.mk (hb); clear HO_11; clear ho hb hg hat))
          go_roundg k1
          case measure => have := HK1.out; omega
          case rel => exact ⟨(y428), (wrap64 (x13_1 + 1)), (Zs), H', ⟨by have := HK1.out; omega⟩, ⟨Zr HO430.out⟩, ⟨Zr HO_12.out⟩, ⟨Zu BK405.out⟩, ⟨Zc2 GE405.out GE424.out⟩⟩
         rw [if_neg c31] at H
         exact absurd H (by simp)
        rw [if_neg c30] at H
        have c30b0 : (t427 == 0) = F := beq_eq_false_iff_ne.mpr c30
        have c30b1 : (t427 != 0) = T := bne_iff_ne.mpr c30
        (try simp only [c30b0, c30b1])
        simp only [Option.some.injEq, Prod.mk.injEq] at H
        obtain ⟨rfl, rfl⟩ := H
        go_wp2
        go_ret2
        exact ⟨Zq, Zc2 GE405.out GE424.out⟩
       replace c25 := Bool.eq_false_iff.mpr c25
       subst c25
       have H1 : (some (0, 11)) = some (r1, r2) := by rw [if_neg (show ¬ (F = T) by decide)] at H; exact H
       clear H
       have H := H1
       clear H1
       simp only [Option.some.injEq, Prod.mk.injEq] at H
       obtain ⟨rfl, rfl⟩ := H
       go_wp2
       go_ret2
       exact ⟨Zq, Zc2 GE405.out GE424.out⟩
      rw [if_neg c19] at H
      exact absurd H (by simp)
     rw [if_neg c18] at H
     have c18b0 : decide (x13_1 < (t411.length : Int)) = F := decide_eq_false c18
     clear c18
     (try simp only [c18b0])
     replace H := Option.bind_eq_some_iff.mp H
     obtain ⟨⟨t414, t415⟩, A330, H⟩ := H
     replace H : (some (t414, t415)) = some (r1, r2) := H
     have A33 := Aside0.mk A330
     clear A330
     simp only [Option.some.injEq, Prod.mk.injEq] at H
     obtain ⟨rfl, rfl⟩ := H
     obtain ⟨Ao34, co34, eo34⟩ := Kd.R_slice HO_11.out
     subst eo34
     go_wp2_with (first | ((with_reducible refine Qaw (f := 60) rfl ?_); refine goesL_ (some 69) rfl rfl Try.func60 (by kernel_rfl) rfl #[.slice Ao34 x11_1.length co34] rfl (Zl) ?_; (with_reducible refine (QaP.calls k1 _ _ x11_1 t414 t415 _ ?side1 ?side2 A33.out).mono ?_); (case side1 => exact Zv (Kd.R_reads' HO_11.out).2.2); (case side2 => exact (Kd.R_reads' HO_11.out).2.1); rintro e w' ⟨rfl, ⟨nd, rfl⟩⟩; refine ⟨_, rfl, ?_⟩))
     go_ret2
     exact ⟨Zq, Zc1 GE405.out⟩
  rw [if_neg c11] at H
  have c11b0 : (t407 == 0) = F := beq_eq_false_iff_ne.mpr c11
  have c11b1 : (t407 != 0) = T := bne_iff_ne.mpr c11
  (try simp only [c11b0, c11b1])
  simp only [Option.some.injEq, Prod.mk.injEq] at H
  obtain ⟨rfl, rfl⟩ := H
  go_wp2
  go_ret2
  exact ⟨Zq, Zc1 GE405.out⟩
 rw [if_neg c8] at H
 have c8b0 : (t406 == 0) = F := beq_eq_false_iff_ne.mpr c8
 have c8b1 : (t406 != 0) = T := bne_iff_ne.mpr c8
 (try simp only [c8b0, c8b1])
 simp only [Option.some.injEq, Prod.mk.injEq] at H
 obtain ⟨rfl, rfl⟩ := H
 go_wp2
 go_ret2
 exact ⟨Zq, Zc1 GE405.out⟩
def QaA.l0 : Nat → List Int → List Int → Int → Option (Bool)
 | 0, _, _, _ => none
 | k + 1, x0, x1, x5 => if x5 < (x0.length : Int) then (if 0 ≤ x5 then (if x5 < (x1.length : Int) then (if (rd x0 x5) = (rd x1 x5) then (QaA.l0 k x0 x1 (wrap64 (x5 + 1))) else (some F)) else (none)) else (none)) else (some T)
def QaA.f (k : Nat) (l0 : List Int) (l1 : List Int) : Option (Bool) := if (l0.length : Int) = (l1.length : Int) then (QaA.l0 k l0 l1 0) else (some F)
theorem QaA.mono_l : ∀ k, (∀ y0 y1 y2, LeO (QaA.l0 k y0 y1 y2) (QaA.l0 (k + 1) y0 y1 y2))
 | 0 => fun _ _ _ r h => by simp [QaA.l0] at h
 | k + 1 => by
  have ih0 := QaA.mono_l k
  intro y0 y1 y2
  unfold QaA.l0
  exact ZM1 ih0
theorem QaA.mono : ∀ a0 a1 k, LeO (QaA.f k a0 a1) (QaA.f (k + 1) a0 a1) := by
 intro a0 a1 k
 have ih0 := QaA.mono_l k
 unfold QaA.f
 exact ZM1 ih0
theorem QaA.calls (k : Nat) (A0 : Option Addr) (c0 : Nat) (l0 : List Int) (A1 : Option Addr) (c1 : Nat) (l1 : List Int) (r : Bool) (w : World) (hr0 : Kd.C (Kd.int .i64) w A0 l0.length l0) (hc0 : l0.length ≤ c0) (hr1 : Kd.C (Kd.int .i64) w A1 l1.length l1) (hc1 : l1.length ≤ c1) (h : QaA.f k l0 l1 = some r) :
  Calls Try.prog 32 #[.slice A0 l0.length c0, .slice A1 l1.length c1] w fun e w' => e = .returned (.bool r) ∧ Drawn0 w w' := by
 have HR0 := Aside0.mk hr0
 have HC0 := Aside0.mk hc0
 clear hr0 hc0
 have HR1 := Aside0.mk hr1
 have HC1 := Aside0.mk hc1
 clear hr1 hc1
 have H : (if (l0.length : Int) = (l1.length : Int) then (QaA.l0 k l0 l1 0) else (some F)) = some r := h
 clear h
 by_cases c3 : (l0.length : Int) = (l1.length : Int)
 ·rw [if_pos c3] at H
  have c3b0 : ((l0.length : Int) == (l1.length : Int)) = T := beq_iff_eq.mpr c3
  have c3b1 : ((l0.length : Int) != (l1.length : Int)) = F := bne_eq_false_iff_eq.mpr c3
  have c3b2 : (l0.length == l1.length) = T := by first | simpa using c3 | (simp at c3 ⊢; omega)
  clear c3
  have H' := Aside0.mk H
  clear H
  go_enter Try.func32, Try.ntmps32
  go_wp2
  repeat (go_quiet (fail); try go_wp2)
  go_loopg [5] k (fun kq v5 w' => ∃ (x5_1 : Int), v5 = .int .i64 x5_1 ∧ Aside0 (QaA.l0 kq l0 l1 x5_1 = some r) ∧ Aside0 (kq ≤ k) ∧ Drawn0 w w')
  case atStart => exact ⟨(0), (Zs), H', ⟨Nat.le_refl _⟩, Zd⟩
  case round =>
   clear H'
   try clear c1
   try clear p2
   try clear c3
   try clear c3b0
   try clear c3b1
   try clear c3b2
   obtain ⟨x5_1, rfl, HA, HK1, ⟨m1, rfl⟩⟩ := hrel
   cases gk with
   | zero => exact absurd HA.out (by simp [QaA.l0])
   | succ k1 =>
    have H := HA.out
    clear HA
    simp only [QaA.l0] at H
    by_cases c4 : x5_1 < (l0.length : Int)
    ·rw [if_pos c4] at H
     have c4b0 : decide (x5_1 < (l0.length : Int)) = T := decide_eq_true c4
     clear c4
     (try simp only [c4b0])
     by_cases c5 : 0 ≤ x5_1
     ·rw [if_pos c5] at H
      have c5b0 : decide (0 ≤ x5_1) = T := decide_eq_true c5
      clear c5
      by_cases c6 : x5_1 < (l1.length : Int)
      ·rw [if_pos c6] at H
       have c6b0 : decide (x5_1 < (l1.length : Int)) = T := decide_eq_true c6
       clear c6
       have p606 : 0 ≤ (x5_1 : Int) := Ze
       have q606 : x5_1 < (l0.length : Int) := Ze
       obtain ⟨ad606, e606, hx606_0⟩ := Kd.at_int HR0.out x5_1 p606 q606
       cases e606
       replace p606 := eq_true p606
       replace q606 := eq_true q606
       have p607 : 0 ≤ (x5_1 : Int) := Ze
       have q607 : x5_1 < (l1.length : Int) := Ze
       obtain ⟨ad607, e607, hx607_0⟩ := Kd.at_int HR1.out x5_1 p607 q607
       cases e607
       replace p607 := eq_true p607
       replace q607 := eq_true q607
       go_upto_if 25 with (fail)
       repeat (go_quiet (fail); go_upto_if 25 with (fail))
       by_cases c7 : (rd l0 x5_1) = (rd l1 x5_1)
       ·rw [if_pos c7] at H
        have c7b0 : ((rd l0 x5_1) == (rd l1 x5_1)) = T := beq_iff_eq.mpr c7
        have c7b1 : ((rd l0 x5_1) != (rd l1 x5_1)) = F := bne_eq_false_iff_eq.mpr c7
        clear c7
        (try simp only [c7b0, c7b1])
        have H' := Aside0.mk H
        clear H
        go_wp2
        repeat (go_quiet (fail); try go_wp2)
        go_roundg k1
        case measure => have := HK1.out; omega
        case rel => exact ⟨(wrap64 (x5_1 + 1)), (Zs), H', ⟨by have := HK1.out; omega⟩, Zd⟩
       rw [if_neg c7] at H
       have c7b0 : ((rd l0 x5_1) == (rd l1 x5_1)) = F := beq_eq_false_iff_ne.mpr c7
       have c7b1 : ((rd l0 x5_1) != (rd l1 x5_1)) = T := bne_iff_ne.mpr c7
       (try simp only [c7b0, c7b1])
       obtain rfl := Option.some.inj H
       go_wp2
       repeat (go_quiet (fail); try go_wp2)
       go_ret
       exact ⟨Zs, Zd⟩
      rw [if_neg c6] at H
      exact absurd H (by simp)
     rw [if_neg c5] at H
     exact absurd H (by simp)
    rw [if_neg c4] at H
    have c4b0 : decide (x5_1 < (l0.length : Int)) = F := decide_eq_false c4
    clear c4
    (try simp only [c4b0])
    obtain rfl := Option.some.inj H
    go_wp2
    repeat (go_quiet (fail); try go_wp2)
    go_ret
    exact ⟨Zs, Zd⟩
 rw [if_neg c3] at H
 have c3b0 : ((l0.length : Int) == (l1.length : Int)) = F := beq_eq_false_iff_ne.mpr c3
 have c3b1 : ((l0.length : Int) != (l1.length : Int)) = T := bne_iff_ne.mpr c3
 have c3b2 : (l0.length == l1.length) = F := by first | simpa using c3 | (simp at c3 ⊢; omega)
 obtain rfl := Option.some.inj H
 go_enter Try.func32, Try.ntmps32
 go_wp2
 repeat (go_quiet (fail); try go_wp2)
 go_ret
 exact ⟨Zs, Zd⟩
def Qbx.f (l0 : List (S46)) (a1 : Int) (a2 : Int) (l3 : List (S46)) : Option ((List (S46))) := if 0 ≤ (wrap64 ((wrap64 ((l0.length : Int) + (l3.length : Int))) - a2)) then (if (wrap64 ((wrap64 ((l0.length : Int) + (l3.length : Int))) - a2) : Int).toNat ≤ 5026338869833 then ((some (([] : List (S46)) : List (S46))).bind fun y616 => (if 0 ≤ a1 then (if a1 ≤ (l0.length : Int) then ((some (l0.take (a1 : Int).toNat : List (S46))).bind fun y619 => (if y616.length + y619.length < 2513169434916 then ((some (y616 ++ y619 : List (S46))).bind fun y623 => (if y623.length + l3.length < 2513169434916 then ((some (y623 ++ l3 : List (S46))).bind fun y626 => (if 0 ≤ (wrap64 (a1 + a2)) then (if (wrap64 (a1 + a2)) ≤ (l0.length : Int) then ((some (l0.drop ((wrap64 (a1 + a2)) : Int).toNat : List (S46))).bind fun y629 => (if y626.length + y629.length < 2513169434916 then (some (y626 ++ y629)) else (none))) else (none)) else (none))) else (none))) else (none))) else (none)) else (none))) else (none)) else (none)
theorem Qbx.calls (A0 : Option Addr) (c0 : Nat) (l0 : List (S46)) (a1 : Int) (a2 : Int) (A3 : Option Addr) (c3 : Nat) (l3 : List (S46)) (r : List (S46)) (w : World) (hr0 : Kd.C k46 w A0 l0.length l0) (hc0 : l0.length ≤ c0) (hr3 : Kd.C k46 w A3 l3.length l3) (hc3 : l3.length ≤ c3) (h : Qbx.f l0 a1 a2 l3 = some r) :
  Calls Try.prog 75 #[.slice A0 l0.length c0, .int .i64 a1, .int .i64 a2, .slice A3 l3.length c3] w fun e w' => ∃ v0_ : Value, e = .returned (v0_) ∧ Kd.R k46 46 w' w.heap.size (fun _ => True) v0_ r ∧ Below w.heap.size w w' := by
 have HR0 := Aside0.mk hr0
 have HC0 := Aside0.mk hc0
 clear hr0 hc0
 have HR3 := Aside0.mk hr3
 have HC3 := Aside0.mk hc3
 clear hr3 hc3
 have HB := Aside0.mk (Below.refl w.heap.size w)
 have H : (if 0 ≤ (wrap64 ((wrap64 ((l0.length : Int) + (l3.length : Int))) - a2)) then (if (wrap64 ((wrap64 ((l0.length : Int) + (l3.length : Int))) - a2) : Int).toNat ≤ 5026338869833 then ((some (([] : List (S46)) : List (S46))).bind fun y616 => (if 0 ≤ a1 then (if a1 ≤ (l0.length : Int) then ((some (l0.take (a1 : Int).toNat : List (S46))).bind fun y619 => (if y616.length + y619.length < 2513169434916 then ((some (y616 ++ y619 : List (S46))).bind fun y623 => (if y623.length + l3.length < 2513169434916 then ((some (y623 ++ l3 : List (S46))).bind fun y626 => (if 0 ≤ (wrap64 (a1 + a2)) then (if (wrap64 (a1 + a2)) ≤ (l0.length : Int) then ((some (l0.drop ((wrap64 (a1 + a2)) : Int).toNat : List (S46))).bind fun y629 => (if y626.length + y629.length < 2513169434916 then (some (y626 ++ y629)) else (none))) else (none)) else (none))) else (none))) else (none))) else (none)) else (none))) else (none)) else (none)) = some r := h
 clear h
 obtain ⟨ji5, hji5⟩ : ∃ j_ : Int, (wrap64 ((wrap64 ((l0.length : Int) + (l3.length : Int))) - a2)) = j_ := ⟨_, rfl⟩
 replace H : (if 0 ≤ (ji5) then (if (ji5 : Int).toNat ≤ 5026338869833 then ((some (([] : List (S46)) : List (S46))).bind fun y616 => (if 0 ≤ a1 then (if a1 ≤ (l0.length : Int) then ((some (l0.take (a1 : Int).toNat : List (S46))).bind fun y619 => (if y616.length + y619.length < 2513169434916 then ((some (y616 ++ y619 : List (S46))).bind fun y623 => (if y623.length + l3.length < 2513169434916 then ((some (y623 ++ l3 : List (S46))).bind fun y626 => (if 0 ≤ (wrap64 (a1 + a2)) then (if (wrap64 (a1 + a2)) ≤ (l0.length : Int) then ((some (l0.drop ((wrap64 (a1 + a2)) : Int).toNat : List (S46))).bind fun y629 => (if y626.length + y629.length < 2513169434916 then (some (y626 ++ y629)) else (none))) else (none)) else (none))) else (none))) else (none))) else (none)) else (none))) else (none)) else (none)) = some r := by first | (rw [hji5] at H; exact H) | (simp only [hji5] at H ⊢; exact H)
 have hji5w : (IntKind.i64.wrap ((wrap64 ((l0.length : Int) + (l3.length : Int))) - a2)) = ji5 := (i64_w _).trans hji5
 by_cases c6 : 0 ≤ (ji5)
 ·rw [if_pos c6] at H
  have c6b0 := eq_true c6
  have c6b1 : decide (0 ≤ (ji5)) = T := decide_eq_true c6
  clear c6
  by_cases c7 : (ji5 : Int).toNat ≤ 5026338869833
  ·rw [if_pos c7] at H
   have c7b0 := eq_true c7
   have c7b1 : decide ((ji5 : Int).toNat ≤ 5026338869833) = T := decide_eq_true c7
   clear c7
   obtain ⟨y616, hy616⟩ : ∃ y_ : List (S46), y_ = (([] : List (S46))) := ⟨_, rfl⟩
   replace H : (if 0 ≤ a1 then (if a1 ≤ (l0.length : Int) then ((some (l0.take (a1 : Int).toNat : List (S46))).bind fun y619 => (if y616.length + y619.length < 2513169434916 then ((some (y616 ++ y619 : List (S46))).bind fun y623 => (if y623.length + l3.length < 2513169434916 then ((some (y623 ++ l3 : List (S46))).bind fun y626 => (if 0 ≤ (wrap64 (a1 + a2)) then (if (wrap64 (a1 + a2)) ≤ (l0.length : Int) then ((some (l0.drop ((wrap64 (a1 + a2)) : Int).toNat : List (S46))).bind fun y629 => (if y626.length + y629.length < 2513169434916 then (some (y626 ++ y629)) else (none))) else (none)) else (none))) else (none))) else (none))) else (none)) else (none)) = some r := by first | (rw [hy616]; with_reducible exact H) | (have H2_ := (Option.bind_some _ _).symm.trans H; rw [hy616]; with_reducible exact H2_) | (have H2_ := (Option.bind_some _ _).symm.trans H; with_reducible exact H2_) | with_reducible exact H | (rw [hy616]; exact H) | exact H
   have Ny616 := Aside0.mk hy616
   clear hy616
   by_cases c8 : 0 ≤ a1
   ·rw [if_pos c8] at H
    have c8b0 := eq_true c8
    have c8b1 : decide (0 ≤ a1) = T := decide_eq_true c8
    clear c8
    by_cases c9 : a1 ≤ (l0.length : Int)
    ·rw [if_pos c9] at H
     have c9b0 := eq_true c9
     have c9b1 : decide (a1 ≤ (l0.length : Int)) = T := decide_eq_true c9
     clear c9
     obtain ⟨y619, hy619⟩ : ∃ y_ : List (S46), y_ = (l0.take (a1 : Int).toNat) := ⟨_, rfl⟩
     replace H : (if y616.length + y619.length < 2513169434916 then ((some (y616 ++ y619 : List (S46))).bind fun y623 => (if y623.length + l3.length < 2513169434916 then ((some (y623 ++ l3 : List (S46))).bind fun y626 => (if 0 ≤ (wrap64 (a1 + a2)) then (if (wrap64 (a1 + a2)) ≤ (l0.length : Int) then ((some (l0.drop ((wrap64 (a1 + a2)) : Int).toNat : List (S46))).bind fun y629 => (if y626.length + y629.length < 2513169434916 then (some (y626 ++ y629)) else (none))) else (none)) else (none))) else (none))) else (none)) = some r := by first | (rw [hy619]; with_reducible exact H) | (have H2_ := (Option.bind_some _ _).symm.trans H; rw [hy619]; with_reducible exact H2_) | (have H2_ := (Option.bind_some _ _).symm.trans H; with_reducible exact H2_) | with_reducible exact H | (rw [hy619]; exact H) | exact H
     have Ny619 := Aside0.mk hy619
     clear hy619
     by_cases c10 : y616.length + y619.length < 2513169434916
     ·rw [if_pos c10] at H
      have LMc10 := Aside0.mk c10
      clear c10
      obtain ⟨y623, hy623⟩ : ∃ y_ : List (S46), y_ = (y616 ++ y619) := ⟨_, rfl⟩
      replace H : (if y623.length + l3.length < 2513169434916 then ((some (y623 ++ l3 : List (S46))).bind fun y626 => (if 0 ≤ (wrap64 (a1 + a2)) then (if (wrap64 (a1 + a2)) ≤ (l0.length : Int) then ((some (l0.drop ((wrap64 (a1 + a2)) : Int).toNat : List (S46))).bind fun y629 => (if y626.length + y629.length < 2513169434916 then (some (y626 ++ y629)) else (none))) else (none)) else (none))) else (none)) = some r := by first | (rw [hy623]; with_reducible exact H) | (have H2_ := (Option.bind_some _ _).symm.trans H; rw [hy623]; with_reducible exact H2_) | (have H2_ := (Option.bind_some _ _).symm.trans H; with_reducible exact H2_) | with_reducible exact H | (rw [hy623]; exact H) | exact H
      have Ny623 := Aside0.mk hy623
      clear hy623
      by_cases c11 : y623.length + l3.length < 2513169434916
      ·rw [if_pos c11] at H
       have LMc11 := Aside0.mk c11
       clear c11
       obtain ⟨y626, hy626⟩ : ∃ y_ : List (S46), y_ = (y623 ++ l3) := ⟨_, rfl⟩
       replace H : (if 0 ≤ (wrap64 (a1 + a2)) then (if (wrap64 (a1 + a2)) ≤ (l0.length : Int) then ((some (l0.drop ((wrap64 (a1 + a2)) : Int).toNat : List (S46))).bind fun y629 => (if y626.length + y629.length < 2513169434916 then (some (y626 ++ y629)) else (none))) else (none)) else (none)) = some r := by first | (rw [hy626]; with_reducible exact H) | (have H2_ := (Option.bind_some _ _).symm.trans H; rw [hy626]; with_reducible exact H2_) | (have H2_ := (Option.bind_some _ _).symm.trans H; with_reducible exact H2_) | with_reducible exact H | (rw [hy626]; exact H) | exact H
       have Ny626 := Aside0.mk hy626
       clear hy626
       obtain ⟨ji12, hji12⟩ : ∃ j_ : Int, (wrap64 (a1 + a2)) = j_ := ⟨_, rfl⟩
       replace H : (if 0 ≤ (ji12) then (if (ji12) ≤ (l0.length : Int) then ((some (l0.drop ((ji12) : Int).toNat : List (S46))).bind fun y629 => (if y626.length + y629.length < 2513169434916 then (some (y626 ++ y629)) else (none))) else (none)) else (none)) = some r := by first | (rw [hji12] at H; exact H) | (simp only [hji12] at H ⊢; exact H)
       have hji12w : (IntKind.i64.wrap (a1 + a2)) = ji12 := (i64_w _).trans hji12
       by_cases c13 : 0 ≤ (ji12)
       ·rw [if_pos c13] at H
        have c13b0 := eq_true c13
        have c13b1 : decide (0 ≤ (ji12)) = T := decide_eq_true c13
        clear c13
        by_cases c14 : (ji12) ≤ (l0.length : Int)
        ·rw [if_pos c14] at H
         have c14b0 := eq_true c14
         have c14b1 : decide ((ji12) ≤ (l0.length : Int)) = T := decide_eq_true c14
         clear c14
         obtain ⟨y629, hy629⟩ : ∃ y_ : List (S46), y_ = (l0.drop ((ji12) : Int).toNat) := ⟨_, rfl⟩
         replace H : (if y626.length + y629.length < 2513169434916 then (some (y626 ++ y629)) else (none)) = some r := by first | (rw [hy629]; with_reducible exact H) | (have H2_ := (Option.bind_some _ _).symm.trans H; rw [hy629]; with_reducible exact H2_) | (have H2_ := (Option.bind_some _ _).symm.trans H; with_reducible exact H2_) | with_reducible exact H | (rw [hy629]; exact H) | exact H
         have Ny629 := Aside0.mk hy629
         clear hy629
         by_cases c15 : y626.length + y629.length < 2513169434916
         ·rw [if_pos c15] at H
          have LMc15 := Aside0.mk c15
          clear c15
          obtain ⟨y633, hy633⟩ : ∃ y_ : List (S46), y_ = (y626 ++ y629) := ⟨_, rfl⟩
          replace H : (some y633) = some r := by first | (rw [hy633]; with_reducible exact H) | (have H2_ := (Option.bind_some _ _).symm.trans H; rw [hy633]; with_reducible exact H2_) | (have H2_ := (Option.bind_some _ _).symm.trans H; with_reducible exact H2_) | with_reducible exact H | (rw [hy633]; exact H) | exact H
          have Ny633 := Aside0.mk hy633
          clear hy633
          obtain rfl := Option.some.inj H
          go_enter Try.func75, Try.ntmps75
          go_wp2_with (first | ((with_reducible refine QaL (N := 17) rfl ?_); refine QfU k46 _ 46 rfl (N := 17) rfl 30 _ _ rfl ji5 rfl rfl Try.underlying30 (.agg #[(.string ⟨#[]⟩), (.string ⟨#[]⟩), (.string ⟨#[]⟩), (.int .i64 0)]) 56 info46 rfl (by omega) (ok := fun _ => True) trivial (Ze) (Nat.le_trans (Nat.mul_le_mul_right _ (Ze : ji5.toNat ≤ 5026338869833)) (by omega)) (Below.refl _ _) (Nat.le_refl _) ?_; intro v617 w16 ho17 hb hg_ hnew_; clear hg_ hnew_; (first | rw [← Ny616.out] at ho17 | (simp only [Int.reduceToNat] at ho17; rw [← Ny616.out] at ho17)); have HO618 := Aside0.mk (Kd.R_lower ho17 (Qam (Zb))); replace HB := Aside0.mk (Qan (Zb) hb); clear hb ho17; have q18 : (a1 : Int) ≤ ((l0.length : Int) : Int) := Ze; obtain ⟨i018, hi018, _, hsz18, _⟩ := info_parts info46; have hroom18 : l0.length ≤ c0 := HC0.out; have hC18 : Kd.C k46 _ A0 l0.length l0 := HR0.out; have hcut18 := cut_to (P := Try.prog) 30 46 .i64 Try.underlying30 hi018 A0 l0.length c0 a1 (Ze) q18 hroom18; have hr18 := Kd.C_take (m := (a1 : Int).toNat) hC18 (by omega); have hy18 : y619.length = (a1 : Int).toNat := (by rw [Ny619.out, List.length_take]; omega); rw [← Ny619.out] at hr18; rw [← hy18] at hcut18; have HR622 := Aside0.mk hr18; have HC622 := Aside0.mk (show y619.length ≤ c0 from by omega); clear hr18 hC18 hroom18 hi018 hsz18; have KY18 := Aside0.mk hy18; clear hy18; replace q18 := eq_true q18) | ((with_reducible refine QbO (b := .append) (xs := #[.tmp 18, .tmp 21]) rfl ?_); at_builtin; refine Kd.R_append_rows k46 (w0 := w) w.heap.size rfl (.tmp 18) (.tmp 21) 30 46 (.agg #[(.string ⟨#[]⟩), (.string ⟨#[]⟩), (.string ⟨#[]⟩), (.int .i64 0)]) 56 rfl Try.underlying30 info46 rfl (by decide) (by omega) v617 y616 y619 _ _ _ (fun _ => True) (fun _ => False) rfl rfl ?aO ?aR (fun _ _ h => h) (fun _ h => h.elim) ?aF ?aB ?aS ?aL ?_; (case aR => exact Zv (Kd.C_below HR622.out HB.out)); (case aB => exact (Zb)); (case aF => exact (fun _ _ => trivial)); (case aO => exact (Zr HO618.out)); (case aS => exact (Qam (Zb))); (case aL => have := LMc10.out; omega); intro v624 w19 ho hb hg hat; rw [← Ny623.out] at ho; have HO625 := Aside0.mk (ho); replace HB := Aside0.mk (hb); clear HO618; clear ho hb hg hat) | ((with_reducible refine QbO (b := .append) (xs := #[.tmp 23, .tmp 24]) rfl ?_); at_builtin; refine Kd.R_append_rows k46 (w0 := w) w.heap.size rfl (.tmp 23) (.tmp 24) 30 46 (.agg #[(.string ⟨#[]⟩), (.string ⟨#[]⟩), (.string ⟨#[]⟩), (.int .i64 0)]) 56 rfl Try.underlying30 info46 rfl (by decide) (by omega) v624 y623 l3 _ _ _ (fun _ => True) (fun _ => False) rfl rfl ?aO ?aR (fun _ _ h => h) (fun _ h => h.elim) ?aF ?aB ?aS ?aL ?_; (case aR => exact Zv (Kd.C_below HR3.out HB.out)); (case aB => exact (Zb)); (case aF => exact (fun _ _ => trivial)); (case aO => exact (Zr HO625.out)); (case aS => exact (Qam (Zb))); (case aL => have := LMc11.out; omega); intro v627 w20 ho hb hg hat; rw [← Ny626.out] at ho; have HO628 := Aside0.mk (ho); replace HB := Aside0.mk (hb); clear HO625; clear ho hb hg hat; have q21 : ((ji12) : Int) ≤ ((l0.length : Int) : Int) := Ze; obtain ⟨i021, hi021, _, hsz21, _⟩ := info_parts info46; have hroom21 : l0.length ≤ c0 := HC0.out; have hC21 : Kd.C k46 _ A0 l0.length l0 := HR0.out; have q021 : (0 : Int) ≤ ((ji12) : Int) := Ze; have hcut21 := Qfp (P := Try.prog) 30 46 .i64 Try.underlying30 hi021 4 hsz21 A0 l0.length c0 (ji12) q021 q21; have hr21 := Kd.C_drop (m := ((ji12) : Int).toNat) (c := c0) hC21 (by omega) hroom21; obtain ⟨A21, hA21⟩ : ∃ A1, A1 = (if c0 = ((ji12) : Int).toNat then A0 else (A0 : Option Addr).map (·.add (((ji12) : Int).toNat * 4))) := ⟨_, rfl⟩; obtain ⟨c21, hc21⟩ : ∃ c1, c1 = c0 - ((ji12) : Int).toNat := ⟨_, rfl⟩; have hy21 : y629.length = l0.length - ((ji12) : Int).toNat := (by rw [Ny629.out, List.length_drop] <;> omega); rw [show (l0).drop ((ji12) : Int).toNat = y629 from Ny629.out.symm] at hr21; replace hr21 : Kd.C k46 _ A21 y629.length y629 := (by rw [hA21]; exact hr21); rw [← hy21, ← hA21, ← hc21] at hcut21; have HR632 := Aside0.mk hr21; have HC632 := Aside0.mk (show y629.length ≤ c21 from by rw [hy21, hc21]; exact Nat.sub_le_sub_right hroom21 _); clear hr21 hC21 hroom21 hi021 hsz21 hc21; have KY21 := Aside0.mk hy21; have KA21 := Aside0.mk hA21; clear hy21 hA21; replace q21 := eq_true q21) | ((with_reducible refine QbO (b := .append) (xs := #[.tmp 26, .tmp 31]) rfl ?_); at_builtin; refine Kd.R_append_rows k46 (w0 := w) w.heap.size rfl (.tmp 26) (.tmp 31) 30 46 (.agg #[(.string ⟨#[]⟩), (.string ⟨#[]⟩), (.string ⟨#[]⟩), (.int .i64 0)]) 56 rfl Try.underlying30 info46 rfl (by decide) (by omega) v627 y626 y629 _ _ _ (fun _ => True) (fun _ => False) rfl rfl ?aO ?aR (fun _ _ h => h) (fun _ h => h.elim) ?aF ?aB ?aS ?aL ?_; (case aR => exact Zv (Kd.C_below HR632.out HB.out)); (case aB => exact (Zb)); (case aF => exact (fun _ _ => trivial)); (case aO => exact (Zr HO628.out)); (case aS => exact (Qam (Zb))); (case aL => have := LMc15.out; omega); intro v634 w22 ho hb hg hat; rw [← Ny633.out] at ho; have HO635 := Aside0.mk (ho); replace HB := Aside0.mk (hb); clear HO628; clear ho hb hg hat))
          go_ret
          exact ⟨_, by first | rfl | (simp [Qaj, Qak] <;> rfl) | (simp only [← hji5, ← hji12]; first | rfl | (simp [Qaj, Qak] <;> rfl)) | (simp [*, Qaj, Qak] <;> rfl), Zr HO635.out, Zb⟩
         rw [if_neg c15] at H
         exact absurd H (by simp)
        rw [if_neg c14] at H
        exact absurd H (by simp)
       rw [if_neg c13] at H
       exact absurd H (by simp)
      rw [if_neg c11] at H
      exact absurd H (by simp)
     rw [if_neg c10] at H
     exact absurd H (by simp)
    rw [if_neg c9] at H
    exact absurd H (by simp)
   rw [if_neg c8] at H
   exact absurd H (by simp)
  rw [if_neg c7] at H
  exact absurd H (by simp)
 rw [if_neg c6] at H
 exact absurd H (by simp)
end Go.Proofs.Ytfcaaefdmabkhaa.Pr
