/- Functions' values and contracts, as the print wrote them. -/
import Derived.Test.YtggbflplbblgbaaQ6B9P0
import Derived.Test.YtggbflplbblgbaaQ6B9P1
namespace Go.Proofs.Ytggbflplbblgbaa.Pr
open Bool renaming true → T
open Bool renaming false → F
open Go.RowKit Go.Proofs.YtggbflplbblgbaaW.PrintWords Go.Proofs.YtggbflplbblgbaaW.PrintLast Go.Proofs.YtggbflplbblgbaaW.PrintMore
attribute [local go_sem] QaF QaH QaK QaL QaA QaB QaG QaI   -- for this text's walks alone
set_option linter.unusedVariables false
set_option linter.unusedSimpArgs false
set_option maxRecDepth 100000
set_option maxHeartbeats 8000000
mutual
def Qaa.l0 : Nat → List Int → List Int → Int → Option (Bool)
 | 0, _, _, _ => none
 | k + 1, x0, x1, x5 => if x5 < (x0.length : Int) then (Qaa.j1 k x0 x1 x5 (decide (x5 < (x1.length : Int)))) else (Qaa.j1 k x0 x1 x5 F)
def Qaa.j1 : Nat → List Int → List Int → Int → Bool → Option (Bool)
 | 0, _, _, _, _ => none
 | k + 1, x0, x1, x5, x15 => if x15 = T then (if 0 ≤ x5 then (if x5 < (x0.length : Int) then (if x5 < (x1.length : Int) then (if (rd x0 x5) = (rd x1 x5) then (Qaa.l0 k x0 x1 (wrap64 (x5 + 1))) else (some F)) else (none)) else (none)) else (none)) else (some ((x0.length : Int) == (x1.length : Int)))
end
def Qaa.f (k : Nat) (l0 : List Int) (l1 : List Int) : Option (Bool) := Qaa.l0 k l0 l1 0
theorem Qaa.mono_l : ∀ k, (∀ y0 y1 y2, LeO (Qaa.l0 k y0 y1 y2) (Qaa.l0 (k + 1) y0 y1 y2)) ∧ (∀ y0 y1 y2 y3, LeO (Qaa.j1 k y0 y1 y2 y3) (Qaa.j1 (k + 1) y0 y1 y2 y3))
 | 0 => ⟨fun _ _ _ r h => by simp [Qaa.l0] at h, fun _ _ _ _ r h => by simp [Qaa.j1] at h⟩
 | k + 1 => by
  obtain ⟨ih0, ih1⟩ := Qaa.mono_l k
  refine ⟨?_, ?_⟩
  ·intro y0 y1 y2
   unfold Qaa.l0
   exact ZM2 ih0 ih1
  intro y0 y1 y2 y3
  unfold Qaa.j1
  exact ZM2 ih0 ih1
theorem Qaa.mono : ∀ a0 a1 k, LeO (Qaa.f k a0 a1) (Qaa.f (k + 1) a0 a1) := by
 intro a0 a1 k
 obtain ⟨ih0, ih1⟩ := Qaa.mono_l k
 unfold Qaa.f
 exact ZM2 ih0 ih1
theorem Qaa.calls (k : Nat) (A0 : Option Addr) (c0 : Nat) (l0 : List Int) (A1 : Option Addr) (c1 : Nat) (l1 : List Int) (r : Bool) (w : World) (hr0 : Kd.C (Kd.int .i64) w A0 l0.length l0) (hc0 : l0.length ≤ c0) (hr1 : Kd.C (Kd.int .i64) w A1 l1.length l1) (hc1 : l1.length ≤ c1) (h : Qaa.f k l0 l1 = some r) :
  Calls Try.prog 46 #[.slice A0 l0.length c0, .slice A1 l1.length c1] w fun e w' => e = .returned (.bool r) ∧ Drawn0 w w' := by
 have HR0 := Aside0.mk hr0
 have HC0 := Aside0.mk hc0
 clear hr0 hc0
 have HR1 := Aside0.mk hr1
 have HC1 := Aside0.mk hc1
 clear hr1 hc1
 have H : (Qaa.l0 k l0 l1 0) = some r := h
 clear h
 have H' := Aside0.mk H
 clear H
 go_enter Try.func46, Try.ntmps46
 go_wp2
 repeat (go_quiet (fail); try go_wp2)
 go_loopg [5] k (fun kq v5 w' => ∃ (x5_1 : Int), v5 = .int .i64 x5_1 ∧ Aside0 (Qaa.l0 kq l0 l1 x5_1 = some r) ∧ Aside0 (kq ≤ k) ∧ Drawn0 w w')
 case atStart => exact ⟨(0), (Zs), H', ⟨Nat.le_refl _⟩, Zd⟩
 case round =>
  clear H'
  try clear c1
  try clear p2
  obtain ⟨x5_1, rfl, HA, HK1, ⟨m1, rfl⟩⟩ := hrel
  cases gk with
  | zero => exact absurd HA.out (by simp [Qaa.l0])
  | succ k1 =>
   have H := HA.out
   clear HA
   simp only [Qaa.l0] at H
   have HC3 := Aside0.mk H
   clear H
   go_upto_region 2 with (fail)
   repeat (go_quiet (fail); go_upto_region 2 with (fail))
   go_cut [15] (fun v15 wc => ∃ (kq : Nat) (x15_2 : Bool), v15 = .bool x15_2 ∧ Aside0 (Qaa.j1 kq l0 l1 x5_1 x15_2 = some r) ∧ Aside0 (kq ≤ k1) ∧ Drawn0 w wc)
   case first =>
    have H := HC3.out
    clear HC3
    by_cases c4 : x5_1 < (l0.length : Int)
    ·rw [if_pos c4] at H
     have c4b0 : decide (x5_1 < (l0.length : Int)) = T := decide_eq_true c4
     clear c4
     have H' := Aside0.mk H
     clear H
     go_wp2
     repeat (go_quiet (fail); try go_wp2)
     go_meet
     case rel => exact ⟨_, (decide (x5_1 < (l1.length : Int))), (Zs), H', ⟨by have := HK1.out; first | omega | exact Nat.le_refl _⟩, Zd⟩
    rw [if_neg c4] at H
    have c4b0 : decide (x5_1 < (l0.length : Int)) = F := decide_eq_false c4
    clear c4
    have H' := Aside0.mk H
    clear H
    go_wp2
    repeat (go_quiet (fail); try go_wp2)
    go_meet
    case rel => exact ⟨_, (F), (Zs), H', ⟨by have := HK1.out; first | omega | exact Nat.le_refl _⟩, Zd⟩
   case rest =>
    clear HC3
    try clear c1
    try clear p2
    try clear c4
    try clear c4b0
    try clear p2
    obtain ⟨kq, x15_2, rfl, HA, HJ2, ⟨mc2, rfl⟩⟩ := hcut
    cases kq with
    | zero => exact absurd HA.out (by simp [Qaa.j1])
    | succ kj2 =>
     have H := HA.out
     clear HA
     simp only [Qaa.j1] at H
     by_cases c5 : x15_2 = T
     ·subst c5
      have H1 : (if 0 ≤ x5_1 then (if x5_1 < (l0.length : Int) then (if x5_1 < (l1.length : Int) then (if (rd l0 x5_1) = (rd l1 x5_1) then (Qaa.l0 kj2 l0 l1 (wrap64 (x5_1 + 1))) else (some F)) else (none)) else (none)) else (none)) = some r := by rw [if_pos rfl] at H; exact H
      clear H
      have H := H1
      clear H1
      by_cases c6 : 0 ≤ x5_1
      ·rw [if_pos c6] at H
       have c6b0 : decide (0 ≤ x5_1) = T := decide_eq_true c6
       clear c6
       (try simp only [c6b0])
       by_cases c7 : x5_1 < (l0.length : Int)
       ·rw [if_pos c7] at H
        have c7b0 : decide (x5_1 < (l0.length : Int)) = T := decide_eq_true c7
        clear c7
        by_cases c8 : x5_1 < (l1.length : Int)
        ·rw [if_pos c8] at H
         have c8b0 : decide (x5_1 < (l1.length : Int)) = T := decide_eq_true c8
         clear c8
         have p857 : 0 ≤ (x5_1 : Int) := Ze
         have q857 : x5_1 < (l0.length : Int) := Ze
         obtain ⟨ad857, e857, hx857_0⟩ := Kd.at_int HR0.out x5_1 p857 q857
         cases e857
         replace p857 := eq_true p857
         replace q857 := eq_true q857
         have p858 : 0 ≤ (x5_1 : Int) := Ze
         have q858 : x5_1 < (l1.length : Int) := Ze
         obtain ⟨ad858, e858, hx858_0⟩ := Kd.at_int HR1.out x5_1 p858 q858
         cases e858
         replace p858 := eq_true p858
         replace q858 := eq_true q858
         go_upto_if 26 with (fail)
         repeat (go_quiet (fail); go_upto_if 26 with (fail))
         by_cases c9 : (rd l0 x5_1) = (rd l1 x5_1)
         ·rw [if_pos c9] at H
          have c9b0 : ((rd l0 x5_1) == (rd l1 x5_1)) = T := beq_iff_eq.mpr c9
          have c9b1 : ((rd l0 x5_1) != (rd l1 x5_1)) = F := bne_eq_false_iff_eq.mpr c9
          clear c9
          (try simp only [c9b0, c9b1])
          have H' := Aside0.mk H
          clear H
          go_wp2
          repeat (go_quiet (fail); try go_wp2)
          go_roundg kj2
          case measure => have := HK1.out; have := HJ2.out; omega
          case rel => exact ⟨(wrap64 (x5_1 + 1)), (Zs), H', ⟨by have := HK1.out; have := HJ2.out; omega⟩, Zd⟩
         rw [if_neg c9] at H
         have c9b0 : ((rd l0 x5_1) == (rd l1 x5_1)) = F := beq_eq_false_iff_ne.mpr c9
         have c9b1 : ((rd l0 x5_1) != (rd l1 x5_1)) = T := bne_iff_ne.mpr c9
         (try simp only [c9b0, c9b1])
         obtain rfl := Option.some.inj H
         go_wp2
         repeat (go_quiet (fail); try go_wp2)
         go_ret
         exact ⟨Zs, Zd⟩
        rw [if_neg c8] at H
        exact absurd H (by simp)
       rw [if_neg c7] at H
       exact absurd H (by simp)
      rw [if_neg c6] at H
      exact absurd H (by simp)
     replace c5 := Bool.eq_false_iff.mpr c5
     subst c5
     have H1 : (some ((l0.length : Int) == (l1.length : Int))) = some r := by rw [if_neg (show ¬ (F = T) by decide)] at H; exact H
     clear H
     have H := H1
     clear H1
     obtain rfl := Option.some.inj H
     go_wp2
     repeat (go_quiet (fail); try go_wp2)
     go_ret
     exact ⟨Zs, Zd⟩
def Qaw.f (k : Nat)  : Option (Bool) := (some (([(⟨(⟨#[97]⟩ : ByteArray), (⟨#[98]⟩ : ByteArray), 1, 2, 500⟩ : S75)] : List (S75)) : List (S75))).bind fun y859 => ((Qab.f k (([(⟨#[97]⟩ : ByteArray), (⟨#[98]⟩ : ByteArray)] : List ByteArray)) (([3000, (-5000)] : List Int)) (([900, 1000] : List Int)) y859).bind fun bt871 => ((Qab.f k (([(⟨#[97]⟩ : ByteArray), (⟨#[98]⟩ : ByteArray)] : List ByteArray)) (([3000, 5000] : List Int)) (([900, 1000] : List Int)) y859).bind fun bt887 => ((Qaa.f k bt871.1 (([300, 400] : List Int))).bind fun t897 => (if t897 = T then ((Qaa.f k bt871.2.1 (([1000, (-1000)] : List Int))).bind fun t901 => (if t901 = T then (if bt871.2.2 = 0 then ((Qaa.f k bt887.1 (([0, 0] : List Int))).bind fun t905 => (if t905 = T then (some (bt887.2.2 == 0)) else (some F))) else (some F)) else (some F))) else (some F)))))
theorem Qaw.mono : ∀ k, LeO (Qaw.f k ) (Qaw.f (k + 1) ) := by
 intro  k
 unfold Qaw.f
 exact ZM2 Qaa.mono Qab.mono
theorem Qaw.calls (k : Nat)  (r : Bool) (w : World) (h : Qaw.f k  = some r) :
  Calls Try.prog 47 #[] w fun e w' => e = .returned (.bool r) ∧ Below w.heap.size w w' := by
 have hu75 := Try.underlying75
 have HB := Aside0.mk (Below.refl w.heap.size w)
 have H : ((some (([(⟨(⟨#[97]⟩ : ByteArray), (⟨#[98]⟩ : ByteArray), 1, 2, 500⟩ : S75)] : List (S75)) : List (S75))).bind fun y859 => ((Qab.f k (([(⟨#[97]⟩ : ByteArray), (⟨#[98]⟩ : ByteArray)] : List ByteArray)) (([3000, (-5000)] : List Int)) (([900, 1000] : List Int)) y859).bind fun bt871 => ((Qab.f k (([(⟨#[97]⟩ : ByteArray), (⟨#[98]⟩ : ByteArray)] : List ByteArray)) (([3000, 5000] : List Int)) (([900, 1000] : List Int)) y859).bind fun bt887 => ((Qaa.f k bt871.1 (([300, 400] : List Int))).bind fun t897 => (if t897 = T then ((Qaa.f k bt871.2.1 (([1000, (-1000)] : List Int))).bind fun t901 => (if t901 = T then (if bt871.2.2 = 0 then ((Qaa.f k bt887.1 (([0, 0] : List Int))).bind fun t905 => (if t905 = T then (some (bt887.2.2 == 0)) else (some F))) else (some F)) else (some F))) else (some F)))))) = some r := h
 clear h
 obtain ⟨y859, hy859⟩ : ∃ y_ : List (S75), y_ = (([(⟨(⟨#[97]⟩ : ByteArray), (⟨#[98]⟩ : ByteArray), 1, 2, 500⟩ : S75)] : List (S75))) := ⟨_, rfl⟩
 replace H : ((Qab.f k (([(⟨#[97]⟩ : ByteArray), (⟨#[98]⟩ : ByteArray)] : List ByteArray)) (([3000, (-5000)] : List Int)) (([900, 1000] : List Int)) y859).bind fun bt871 => ((Qab.f k (([(⟨#[97]⟩ : ByteArray), (⟨#[98]⟩ : ByteArray)] : List ByteArray)) (([3000, 5000] : List Int)) (([900, 1000] : List Int)) y859).bind fun bt887 => ((Qaa.f k bt871.1 (([300, 400] : List Int))).bind fun t897 => (if t897 = T then ((Qaa.f k bt871.2.1 (([1000, (-1000)] : List Int))).bind fun t901 => (if t901 = T then (if bt871.2.2 = 0 then ((Qaa.f k bt887.1 (([0, 0] : List Int))).bind fun t905 => (if t905 = T then (some (bt887.2.2 == 0)) else (some F))) else (some F)) else (some F))) else (some F))))) = some r := by first | (rw [hy859]; with_reducible exact H) | (have H2_ := (Option.bind_some _ _).symm.trans H; rw [hy859]; with_reducible exact H2_) | (have H2_ := (Option.bind_some _ _).symm.trans H; with_reducible exact H2_) | with_reducible exact H | (rw [hy859]; exact H) | exact H
 have Ny859 := Aside0.mk hy859
 clear hy859
 obtain ⟨y862, hy862⟩ : ∃ y_ : List ByteArray, y_ = (([(⟨#[97]⟩ : ByteArray), (⟨#[98]⟩ : ByteArray)] : List ByteArray)) := ⟨_, rfl⟩
 replace H : ((Qab.f k y862 (([3000, (-5000)] : List Int)) (([900, 1000] : List Int)) y859).bind fun bt871 => ((Qab.f k (([(⟨#[97]⟩ : ByteArray), (⟨#[98]⟩ : ByteArray)] : List ByteArray)) (([3000, 5000] : List Int)) (([900, 1000] : List Int)) y859).bind fun bt887 => ((Qaa.f k bt871.1 (([300, 400] : List Int))).bind fun t897 => (if t897 = T then ((Qaa.f k bt871.2.1 (([1000, (-1000)] : List Int))).bind fun t901 => (if t901 = T then (if bt871.2.2 = 0 then ((Qaa.f k bt887.1 (([0, 0] : List Int))).bind fun t905 => (if t905 = T then (some (bt887.2.2 == 0)) else (some F))) else (some F)) else (some F))) else (some F))))) = some r := by first | (rw [hy862]; with_reducible exact H) | (have H2_ := (Option.bind_some _ _).symm.trans H; rw [hy862]; with_reducible exact H2_) | (have H2_ := (Option.bind_some _ _).symm.trans H; with_reducible exact H2_) | with_reducible exact H | (rw [hy862]; exact H) | exact H
 have Ny862 := Aside0.mk hy862
 clear hy862
 obtain ⟨y865, hy865⟩ : ∃ y_ : List Int, y_ = (([3000, (-5000)] : List Int)) := ⟨_, rfl⟩
 replace H : ((Qab.f k y862 y865 (([900, 1000] : List Int)) y859).bind fun bt871 => ((Qab.f k (([(⟨#[97]⟩ : ByteArray), (⟨#[98]⟩ : ByteArray)] : List ByteArray)) (([3000, 5000] : List Int)) (([900, 1000] : List Int)) y859).bind fun bt887 => ((Qaa.f k bt871.1 (([300, 400] : List Int))).bind fun t897 => (if t897 = T then ((Qaa.f k bt871.2.1 (([1000, (-1000)] : List Int))).bind fun t901 => (if t901 = T then (if bt871.2.2 = 0 then ((Qaa.f k bt887.1 (([0, 0] : List Int))).bind fun t905 => (if t905 = T then (some (bt887.2.2 == 0)) else (some F))) else (some F)) else (some F))) else (some F))))) = some r := by first | (rw [hy865]; with_reducible exact H) | (have H2_ := (Option.bind_some _ _).symm.trans H; rw [hy865]; with_reducible exact H2_) | (have H2_ := (Option.bind_some _ _).symm.trans H; with_reducible exact H2_) | with_reducible exact H | (rw [hy865]; exact H) | exact H
 have Ny865 := Aside0.mk hy865
 clear hy865
 obtain ⟨y868, hy868⟩ : ∃ y_ : List Int, y_ = (([900, 1000] : List Int)) := ⟨_, rfl⟩
 replace H : ((Qab.f k y862 y865 y868 y859).bind fun bt871 => ((Qab.f k (([(⟨#[97]⟩ : ByteArray), (⟨#[98]⟩ : ByteArray)] : List ByteArray)) (([3000, 5000] : List Int)) (([900, 1000] : List Int)) y859).bind fun bt887 => ((Qaa.f k bt871.1 (([300, 400] : List Int))).bind fun t897 => (if t897 = T then ((Qaa.f k bt871.2.1 (([1000, (-1000)] : List Int))).bind fun t901 => (if t901 = T then (if bt871.2.2 = 0 then ((Qaa.f k bt887.1 (([0, 0] : List Int))).bind fun t905 => (if t905 = T then (some (bt887.2.2 == 0)) else (some F))) else (some F)) else (some F))) else (some F))))) = some r := by first | (rw [hy868]; with_reducible exact H) | (have H2_ := (Option.bind_some _ _).symm.trans H; rw [hy868]; with_reducible exact H2_) | (have H2_ := (Option.bind_some _ _).symm.trans H; with_reducible exact H2_) | with_reducible exact H | (rw [hy868]; exact H) | exact H
 have Ny868 := Aside0.mk hy868
 clear hy868
 replace H := Option.bind_eq_some_iff.mp H
 obtain ⟨⟨t871, t872, t873⟩, A10, H⟩ := H
 replace H : ((Qab.f k (([(⟨#[97]⟩ : ByteArray), (⟨#[98]⟩ : ByteArray)] : List ByteArray)) (([3000, 5000] : List Int)) (([900, 1000] : List Int)) y859).bind fun bt887 => ((Qaa.f k t871 (([300, 400] : List Int))).bind fun t897 => (if t897 = T then ((Qaa.f k t872 (([1000, (-1000)] : List Int))).bind fun t901 => (if t901 = T then (if t873 = 0 then ((Qaa.f k bt887.1 (([0, 0] : List Int))).bind fun t905 => (if t905 = T then (some (bt887.2.2 == 0)) else (some F))) else (some F)) else (some F))) else (some F)))) = some r := H
 have A1 := Aside0.mk A10
 clear A10
 obtain ⟨y878, hy878⟩ : ∃ y_ : List ByteArray, y_ = (([(⟨#[97]⟩ : ByteArray), (⟨#[98]⟩ : ByteArray)] : List ByteArray)) := ⟨_, rfl⟩
 replace H : ((Qab.f k y878 (([3000, 5000] : List Int)) (([900, 1000] : List Int)) y859).bind fun bt887 => ((Qaa.f k t871 (([300, 400] : List Int))).bind fun t897 => (if t897 = T then ((Qaa.f k t872 (([1000, (-1000)] : List Int))).bind fun t901 => (if t901 = T then (if t873 = 0 then ((Qaa.f k bt887.1 (([0, 0] : List Int))).bind fun t905 => (if t905 = T then (some (bt887.2.2 == 0)) else (some F))) else (some F)) else (some F))) else (some F)))) = some r := by first | (rw [hy878]; with_reducible exact H) | (have H2_ := (Option.bind_some _ _).symm.trans H; rw [hy878]; with_reducible exact H2_) | (have H2_ := (Option.bind_some _ _).symm.trans H; with_reducible exact H2_) | with_reducible exact H | (rw [hy878]; exact H) | exact H
 have Ny878 := Aside0.mk hy878
 clear hy878
 obtain ⟨y881, hy881⟩ : ∃ y_ : List Int, y_ = (([3000, 5000] : List Int)) := ⟨_, rfl⟩
 replace H : ((Qab.f k y878 y881 (([900, 1000] : List Int)) y859).bind fun bt887 => ((Qaa.f k t871 (([300, 400] : List Int))).bind fun t897 => (if t897 = T then ((Qaa.f k t872 (([1000, (-1000)] : List Int))).bind fun t901 => (if t901 = T then (if t873 = 0 then ((Qaa.f k bt887.1 (([0, 0] : List Int))).bind fun t905 => (if t905 = T then (some (bt887.2.2 == 0)) else (some F))) else (some F)) else (some F))) else (some F)))) = some r := by first | (rw [hy881]; with_reducible exact H) | (have H2_ := (Option.bind_some _ _).symm.trans H; rw [hy881]; with_reducible exact H2_) | (have H2_ := (Option.bind_some _ _).symm.trans H; with_reducible exact H2_) | with_reducible exact H | (rw [hy881]; exact H) | exact H
 have Ny881 := Aside0.mk hy881
 clear hy881
 obtain ⟨y884, hy884⟩ : ∃ y_ : List Int, y_ = (([900, 1000] : List Int)) := ⟨_, rfl⟩
 replace H : ((Qab.f k y878 y881 y884 y859).bind fun bt887 => ((Qaa.f k t871 (([300, 400] : List Int))).bind fun t897 => (if t897 = T then ((Qaa.f k t872 (([1000, (-1000)] : List Int))).bind fun t901 => (if t901 = T then (if t873 = 0 then ((Qaa.f k bt887.1 (([0, 0] : List Int))).bind fun t905 => (if t905 = T then (some (bt887.2.2 == 0)) else (some F))) else (some F)) else (some F))) else (some F)))) = some r := by first | (rw [hy884]; with_reducible exact H) | (have H2_ := (Option.bind_some _ _).symm.trans H; rw [hy884]; with_reducible exact H2_) | (have H2_ := (Option.bind_some _ _).symm.trans H; with_reducible exact H2_) | with_reducible exact H | (rw [hy884]; exact H) | exact H
 have Ny884 := Aside0.mk hy884
 clear hy884
 replace H := Option.bind_eq_some_iff.mp H
 obtain ⟨⟨t887, t888, t889⟩, A20, H⟩ := H
 replace H : ((Qaa.f k t871 (([300, 400] : List Int))).bind fun t897 => (if t897 = T then ((Qaa.f k t872 (([1000, (-1000)] : List Int))).bind fun t901 => (if t901 = T then (if t873 = 0 then ((Qaa.f k t887 (([0, 0] : List Int))).bind fun t905 => (if t905 = T then (some (t889 == 0)) else (some F))) else (some F)) else (some F))) else (some F))) = some r := H
 have A2 := Aside0.mk A20
 clear A20
 go_enter Try.func47, Try.ntmps47
 go_upto_region 4 with (first | ((with_reducible refine QaE (N := 9) rfl ?_); (try (refine QaM (by rfl) ?_; dsimp only)); refine Kd.R_lit k75 _ 75 ?hg (N := 9) ?hd (xs := ([(⟨(⟨#[97]⟩ : ByteArray), (⟨#[98]⟩ : ByteArray), 1, 2, 500⟩ : S75)] : List (S75))) (inner := [.string (⟨#[97]⟩ : ByteArray), .string (⟨#[98]⟩ : ByteArray), .int .i64 1, .int .i64 2, .int .i64 500]) (ok := fun _ => True) (okp := fun _ => True) ?hr ?hp (fun _ hk => hk) trivial (Below.refl _ _) (Nat.le_refl _) (by simp) ?_; (case hd => rfl); (case hg => rfl); (case hr => first | (go_simp; done) | (go_simp; rfl)); (case hp => exact (Reps.c5 (show Kd.M k75 _ _ _ (⟨(⟨#[97]⟩ : ByteArray), (⟨#[98]⟩ : ByteArray), 1, 2, 500⟩ : S75) [.string (⟨#[97]⟩ : ByteArray), .string (⟨#[98]⟩ : ByteArray), .int .i64 1, .int .i64 2, .int .i64 500] from (QdX _ _ _ (⟨(⟨#[97]⟩ : ByteArray), (⟨#[98]⟩ : ByteArray), 1, 2, 500⟩ : S75) )) (Reps.none _ _))); intro v860 w3 ho4 hb hg_ hnew_; clear hg_ hnew_; (first | rw [← Ny859.out] at ho4 | (simp only [Int.reduceToNat] at ho4; rw [← Ny859.out] at ho4)); have HO861 := Aside0.mk (Kd.R_lower ho4 (Qap (Zb))); replace HB := Aside0.mk (Qak (Zb) hb); clear hb ho4) | ((with_reducible refine QaE (N := 11) rfl ?_); (try (refine QaM (by rfl) ?_; dsimp only)); refine Kd.R_lit Kd.string _ 9 ?hg (N := 11) ?hd (xs := ([(⟨#[97]⟩ : ByteArray), (⟨#[98]⟩ : ByteArray)] : List ByteArray)) (inner := [.string (⟨#[97]⟩ : ByteArray), .string (⟨#[98]⟩ : ByteArray)]) (ok := fun _ => True) (okp := fun _ => True) ?hr ?hp (fun _ hk => hk) trivial (Below.refl _ _) (Nat.le_refl _) (by simp) ?_; (case hd => rfl); (case hg => rfl); (case hr => first | (go_simp; done) | (go_simp; rfl)); (case hp => exact (Reps.one (show Kd.M Kd.string _ _ _ (⟨#[97]⟩ : ByteArray) [.string (⟨#[97]⟩ : ByteArray)] from rfl) (Reps.one (show Kd.M Kd.string _ _ _ (⟨#[98]⟩ : ByteArray) [.string (⟨#[98]⟩ : ByteArray)] from rfl) (Reps.none _ _)))); intro v863 w5 ho6 hb hg_ hnew_; clear hg_ hnew_; (first | rw [← Ny862.out] at ho6 | (simp only [Int.reduceToNat] at ho6; rw [← Ny862.out] at ho6)); have HO864 := Aside0.mk (Kd.R_lower ho6 (Qap (Zb))); replace HO861 := Aside0.mk (Kd.R_below (Zr HO861.out) hb); replace HB := Aside0.mk (Qak (Zb) hb); clear hb ho6) | ((with_reducible refine QaE (N := 12) rfl ?_); (try (refine QaM (by rfl) ?_; dsimp only)); refine Kd.R_lit (Kd.int .i64) _ 3 ?hg (N := 12) ?hd (xs := ([3000, (-5000)] : List Int)) (inner := [.int .i64 3000, .int .i64 (-5000)]) (ok := fun _ => True) (okp := fun _ => True) ?hr ?hp (fun _ hk => hk) trivial (Below.refl _ _) (Nat.le_refl _) (by simp) ?_; (case hd => rfl); (case hg => rfl); (case hr => first | (go_simp; done) | (go_simp; rfl)); (case hp => exact (Reps.one (show Kd.M (Kd.int .i64) _ _ _ 3000 [.int .i64 3000] from rfl) (Reps.one (show Kd.M (Kd.int .i64) _ _ _ (-5000) [.int .i64 (-5000)] from rfl) (Reps.none _ _)))); intro v866 w7 ho8 hb hg_ hnew_; clear hg_ hnew_; (first | rw [← Ny865.out] at ho8 | (simp only [Int.reduceToNat] at ho8; rw [← Ny865.out] at ho8)); have HO867 := Aside0.mk (Kd.R_lower ho8 (Qap (Zb))); replace HO861 := Aside0.mk (Kd.R_below (Zr HO861.out) hb); replace HO864 := Aside0.mk (Kd.R_below (Zr HO864.out) hb); replace HB := Aside0.mk (Qak (Zb) hb); clear hb ho8) | ((with_reducible refine QaE (N := 13) rfl ?_); (try (refine QaM (by rfl) ?_; dsimp only)); refine Kd.R_lit (Kd.int .i64) _ 3 ?hg (N := 13) ?hd (xs := ([900, 1000] : List Int)) (inner := [.int .i64 900, .int .i64 1000]) (ok := fun _ => True) (okp := fun _ => True) ?hr ?hp (fun _ hk => hk) trivial (Below.refl _ _) (Nat.le_refl _) (by simp) ?_; (case hd => rfl); (case hg => rfl); (case hr => first | (go_simp; done) | (go_simp; rfl)); (case hp => exact (Reps.one (show Kd.M (Kd.int .i64) _ _ _ 900 [.int .i64 900] from rfl) (Reps.one (show Kd.M (Kd.int .i64) _ _ _ 1000 [.int .i64 1000] from rfl) (Reps.none _ _)))); intro v869 w9 ho10 hb hg_ hnew_; clear hg_ hnew_; (first | rw [← Ny868.out] at ho10 | (simp only [Int.reduceToNat] at ho10; rw [← Ny868.out] at ho10)); have HO870 := Aside0.mk (Kd.R_lower (Kd.R_new' ho10 (Kd.R_lt (Zr HO867.out))) (Qap (Zb))); replace HO861 := Aside0.mk (Kd.R_below (Zr HO861.out) hb); replace HO864 := Aside0.mk (Kd.R_below (Zr HO864.out) hb); replace HO867 := Aside0.mk (Kd.R_elder' (Zr HO867.out) (Kd.R_base ho10) hb); replace HB := Aside0.mk (Qak (Zb) hb); clear hb ho10; obtain ⟨Ao11, co11, eo11⟩ := Kd.R_slice HO864.out; subst eo11; obtain ⟨Ao12, co12, eo12⟩ := Kd.R_slice HO867.out; subst eo12; obtain ⟨Ao13, co13, eo13⟩ := Kd.R_slice HO870.out; subst eo13; obtain ⟨Ao14, co14, eo14⟩ := Kd.R_slice HO861.out; subst eo14) | ((with_reducible refine Qau (f := 42) rfl ?_); refine goesL_ (some 15) rfl rfl Try.func42 (by kernel_rfl) rfl #[.slice Ao11 y862.length co11, .slice Ao12 y865.length co12, .slice Ao13 y868.length co13, .slice Ao14 y859.length co14] rfl (Zl) ?_; (with_reducible refine (Qab.calls k _ _ y862 _ _ y865 _ _ y868 _ _ y859 t871 t872 t873 _ ?side1 ?side2 ?side3 ?side4 ?side5 ?side6 ?side7 ?side8 A1.out).mono ?_); (case side1 => exact Zv (Kd.R_reads' HO864.out).2.2); (case side2 => exact (Kd.R_reads' HO864.out).2.1); (case side3 => exact Zv (Kd.R_reads' HO867.out).2.2); (case side4 => exact (Kd.R_reads' HO867.out).2.1); (case side5 => exact Zv (Kd.R_reads' HO870.out).2.2); (case side6 => exact (Kd.R_reads' HO870.out).2.1); (case side7 => exact Zv (Kd.R_reads' HO861.out).2.2); (case side8 => exact (Kd.R_reads' HO861.out).2.1); rintro e w15 ⟨v874, v876, rfl, ho0, ho1, hb⟩; refine ⟨_, rfl, ?_⟩; have HO875 := Aside0.mk (Kd.R_lower (Kd.R_new' (Kd.R_new' ho0 (Kd.R_lt (Zr HO867.out))) (Kd.R_lt (Zr HO870.out))) (Qap (Zb))); have HO877 := Aside0.mk (Kd.R_lower (Kd.R_new' (Kd.R_new' ho1 (Kd.R_lt (Zr HO867.out))) (Kd.R_lt (Zr HO870.out))) (Qap (Zb))); replace HO861 := Aside0.mk (Kd.R_below (Zr HO861.out) hb); replace HO864 := Aside0.mk (Kd.R_below (Zr HO864.out) hb); replace HO867 := Aside0.mk (Kd.R_mono (Kd.R_told (Kd.R_told (Kd.R_old (Zr HO867.out) hb) (Kd.R_base ho0)) (Kd.R_base ho1)) (fun _ h_ => h_.1)); replace HO870 := Aside0.mk (Kd.R_mono (Kd.R_told (Kd.R_told (Kd.R_old (Zr HO870.out) hb) (Kd.R_base ho0)) (Kd.R_base ho1)) (fun _ h_ => h_.1)); replace HB := Aside0.mk (Qak (Zb) hb); (try clear hb); (try clear hb2); (try clear hk); (try clear hi); (try clear ho0); (try clear ho1)) | ((with_reducible refine QaE (N := 20) rfl ?_); (try (refine QaM (by rfl) ?_; dsimp only)); refine Kd.R_lit Kd.string _ 9 ?hg (N := 20) ?hd (xs := ([(⟨#[97]⟩ : ByteArray), (⟨#[98]⟩ : ByteArray)] : List ByteArray)) (inner := [.string (⟨#[97]⟩ : ByteArray), .string (⟨#[98]⟩ : ByteArray)]) (ok := fun _ => True) (okp := fun _ => True) ?hr ?hp (fun _ hk => hk) trivial (Below.refl _ _) (Nat.le_refl _) (by simp) ?_; (case hd => rfl); (case hg => rfl); (case hr => first | (go_simp; done) | (go_simp; rfl)); (case hp => exact (Reps.one (show Kd.M Kd.string _ _ _ (⟨#[97]⟩ : ByteArray) [.string (⟨#[97]⟩ : ByteArray)] from rfl) (Reps.one (show Kd.M Kd.string _ _ _ (⟨#[98]⟩ : ByteArray) [.string (⟨#[98]⟩ : ByteArray)] from rfl) (Reps.none _ _)))); intro v879 w16 ho17 hb hg_ hnew_; clear hg_ hnew_; (first | rw [← Ny878.out] at ho17 | (simp only [Int.reduceToNat] at ho17; rw [← Ny878.out] at ho17)); have HO880 := Aside0.mk (Kd.R_lower (Kd.R_new' ho17 (Kd.R_lt (Zr HO864.out))) (Qap (Zb))); replace HO861 := Aside0.mk (Kd.R_below (Zr HO861.out) hb); replace HO864 := Aside0.mk (Kd.R_elder' (Zr HO864.out) (Kd.R_base ho17) hb); replace HO867 := Aside0.mk (Kd.R_below (Zr HO867.out) hb); replace HO870 := Aside0.mk (Kd.R_below (Zr HO870.out) hb); replace HO875 := Aside0.mk (Kd.R_below (Zr HO875.out) hb); replace HO877 := Aside0.mk (Kd.R_below (Zr HO877.out) hb); replace HB := Aside0.mk (Qak (Zb) hb); clear hb ho17) | ((with_reducible refine QaE (N := 21) rfl ?_); (try (refine QaM (by rfl) ?_; dsimp only)); refine Kd.R_lit (Kd.int .i64) _ 3 ?hg (N := 21) ?hd (xs := ([3000, 5000] : List Int)) (inner := [.int .i64 3000, .int .i64 5000]) (ok := fun _ => True) (okp := fun _ => True) ?hr ?hp (fun _ hk => hk) trivial (Below.refl _ _) (Nat.le_refl _) (by simp) ?_; (case hd => rfl); (case hg => rfl); (case hr => first | (go_simp; done) | (go_simp; rfl)); (case hp => exact (Reps.one (show Kd.M (Kd.int .i64) _ _ _ 3000 [.int .i64 3000] from rfl) (Reps.one (show Kd.M (Kd.int .i64) _ _ _ 5000 [.int .i64 5000] from rfl) (Reps.none _ _)))); intro v882 w18 ho19 hb hg_ hnew_; clear hg_ hnew_; (first | rw [← Ny881.out] at ho19 | (simp only [Int.reduceToNat] at ho19; rw [← Ny881.out] at ho19)); have HO883 := Aside0.mk (Kd.R_lower (Kd.R_new' (Kd.R_new' (Kd.R_new' (Kd.R_new' ho19 (Kd.R_lt (Zr HO867.out))) (Kd.R_lt (Zr HO870.out))) (Kd.R_lt (Zr HO875.out))) (Kd.R_lt (Zr HO877.out))) (Qap (Zb))); replace HO861 := Aside0.mk (Kd.R_below (Zr HO861.out) hb); replace HO864 := Aside0.mk (Kd.R_below (Zr HO864.out) hb); replace HO867 := Aside0.mk (Kd.R_elder' (Zr HO867.out) (Kd.R_base ho19) hb); replace HO870 := Aside0.mk (Kd.R_elder' (Zr HO870.out) (Kd.R_base ho19) hb); replace HO875 := Aside0.mk (Kd.R_elder' (Zr HO875.out) (Kd.R_base ho19) hb); replace HO877 := Aside0.mk (Kd.R_elder' (Zr HO877.out) (Kd.R_base ho19) hb); replace HO880 := Aside0.mk (Kd.R_below (Zr HO880.out) hb); replace HB := Aside0.mk (Qak (Zb) hb); clear hb ho19) | ((with_reducible refine QaE (N := 22) rfl ?_); (try (refine QaM (by rfl) ?_; dsimp only)); refine Kd.R_lit (Kd.int .i64) _ 3 ?hg (N := 22) ?hd (xs := ([900, 1000] : List Int)) (inner := [.int .i64 900, .int .i64 1000]) (ok := fun _ => True) (okp := fun _ => True) ?hr ?hp (fun _ hk => hk) trivial (Below.refl _ _) (Nat.le_refl _) (by simp) ?_; (case hd => rfl); (case hg => rfl); (case hr => first | (go_simp; done) | (go_simp; rfl)); (case hp => exact (Reps.one (show Kd.M (Kd.int .i64) _ _ _ 900 [.int .i64 900] from rfl) (Reps.one (show Kd.M (Kd.int .i64) _ _ _ 1000 [.int .i64 1000] from rfl) (Reps.none _ _)))); intro v885 w20 ho21 hb hg_ hnew_; clear hg_ hnew_; (first | rw [← Ny884.out] at ho21 | (simp only [Int.reduceToNat] at ho21; rw [← Ny884.out] at ho21)); have HO886 := Aside0.mk (Kd.R_lower (Kd.R_new' (Kd.R_new' (Kd.R_new' (Kd.R_new' (Kd.R_new' ho21 (Kd.R_lt (Zr HO867.out))) (Kd.R_lt (Zr HO870.out))) (Kd.R_lt (Zr HO875.out))) (Kd.R_lt (Zr HO877.out))) (Kd.R_lt (Zr HO883.out))) (Qap (Zb))); replace HO861 := Aside0.mk (Kd.R_below (Zr HO861.out) hb); replace HO864 := Aside0.mk (Kd.R_below (Zr HO864.out) hb); replace HO867 := Aside0.mk (Kd.R_elder' (Zr HO867.out) (Kd.R_base ho21) hb); replace HO870 := Aside0.mk (Kd.R_elder' (Zr HO870.out) (Kd.R_base ho21) hb); replace HO875 := Aside0.mk (Kd.R_elder' (Zr HO875.out) (Kd.R_base ho21) hb); replace HO877 := Aside0.mk (Kd.R_elder' (Zr HO877.out) (Kd.R_base ho21) hb); replace HO880 := Aside0.mk (Kd.R_below (Zr HO880.out) hb); replace HO883 := Aside0.mk (Kd.R_elder' (Zr HO883.out) (Kd.R_base ho21) hb); replace HB := Aside0.mk (Qak (Zb) hb); clear hb ho21; obtain ⟨Ao22, co22, eo22⟩ := Kd.R_slice HO880.out; subst eo22; obtain ⟨Ao23, co23, eo23⟩ := Kd.R_slice HO883.out; subst eo23; obtain ⟨Ao24, co24, eo24⟩ := Kd.R_slice HO886.out; subst eo24) | ((with_reducible refine Qau (f := 42) rfl ?_); refine goesL_ (some 24) rfl rfl Try.func42 (by kernel_rfl) rfl #[.slice Ao22 y878.length co22, .slice Ao23 y881.length co23, .slice Ao24 y884.length co24, .slice Ao14 y859.length co14] rfl (Zl) ?_; (with_reducible refine (Qab.calls k _ _ y878 _ _ y881 _ _ y884 _ _ y859 t887 t888 t889 _ ?side1 ?side2 ?side3 ?side4 ?side5 ?side6 ?side7 ?side8 A2.out).mono ?_); (case side1 => exact Zv (Kd.R_reads' HO880.out).2.2); (case side2 => exact (Kd.R_reads' HO880.out).2.1); (case side3 => exact Zv (Kd.R_reads' HO883.out).2.2); (case side4 => exact (Kd.R_reads' HO883.out).2.1); (case side5 => exact Zv (Kd.R_reads' HO886.out).2.2); (case side6 => exact (Kd.R_reads' HO886.out).2.1); (case side7 => exact Zv (Kd.R_reads' HO861.out).2.2); (case side8 => exact (Kd.R_reads' HO861.out).2.1); rintro e w25 ⟨v890, v892, rfl, ho0, ho1, hb⟩; refine ⟨_, rfl, ?_⟩; have HO891 := Aside0.mk (Kd.R_lower (Kd.R_new' (Kd.R_new' (Kd.R_new' (Kd.R_new' (Kd.R_new' (Kd.R_new' ho0 (Kd.R_lt (Zr HO867.out))) (Kd.R_lt (Zr HO870.out))) (Kd.R_lt (Zr HO875.out))) (Kd.R_lt (Zr HO877.out))) (Kd.R_lt (Zr HO883.out))) (Kd.R_lt (Zr HO886.out))) (Qap (Zb))); have HO893 := Aside0.mk (Kd.R_lower (Kd.R_new' (Kd.R_new' (Kd.R_new' (Kd.R_new' (Kd.R_new' (Kd.R_new' ho1 (Kd.R_lt (Zr HO867.out))) (Kd.R_lt (Zr HO870.out))) (Kd.R_lt (Zr HO875.out))) (Kd.R_lt (Zr HO877.out))) (Kd.R_lt (Zr HO883.out))) (Kd.R_lt (Zr HO886.out))) (Qap (Zb))); replace HO861 := Aside0.mk (Kd.R_below (Zr HO861.out) hb); replace HO864 := Aside0.mk (Kd.R_below (Zr HO864.out) hb); replace HO867 := Aside0.mk (Kd.R_mono (Kd.R_told (Kd.R_told (Kd.R_old (Zr HO867.out) hb) (Kd.R_base ho0)) (Kd.R_base ho1)) (fun _ h_ => h_.1)); replace HO870 := Aside0.mk (Kd.R_mono (Kd.R_told (Kd.R_told (Kd.R_old (Zr HO870.out) hb) (Kd.R_base ho0)) (Kd.R_base ho1)) (fun _ h_ => h_.1)); replace HO875 := Aside0.mk (Kd.R_mono (Kd.R_told (Kd.R_told (Kd.R_old (Zr HO875.out) hb) (Kd.R_base ho0)) (Kd.R_base ho1)) (fun _ h_ => h_.1)); replace HO877 := Aside0.mk (Kd.R_mono (Kd.R_told (Kd.R_told (Kd.R_old (Zr HO877.out) hb) (Kd.R_base ho0)) (Kd.R_base ho1)) (fun _ h_ => h_.1)); replace HO880 := Aside0.mk (Kd.R_below (Zr HO880.out) hb); replace HO883 := Aside0.mk (Kd.R_mono (Kd.R_told (Kd.R_told (Kd.R_old (Zr HO883.out) hb) (Kd.R_base ho0)) (Kd.R_base ho1)) (fun _ h_ => h_.1)); replace HO886 := Aside0.mk (Kd.R_mono (Kd.R_told (Kd.R_told (Kd.R_old (Zr HO886.out) hb) (Kd.R_base ho0)) (Kd.R_base ho1)) (fun _ h_ => h_.1)); replace HB := Aside0.mk (Qak (Zb) hb); (try clear hb); (try clear hb2); (try clear hk); (try clear hi); (try clear ho0); (try clear ho1)))
 (try simp only [Act.put, Zj, Zk, Zm])
 obtain ⟨y894, hy894⟩ : ∃ y_ : List Int, y_ = (([300, 400] : List Int)) := ⟨_, rfl⟩
 replace H : ((Qaa.f k t871 y894).bind fun t897 => (if t897 = T then ((Qaa.f k t872 (([1000, (-1000)] : List Int))).bind fun t901 => (if t901 = T then (if t873 = 0 then ((Qaa.f k t887 (([0, 0] : List Int))).bind fun t905 => (if t905 = T then (some (t889 == 0)) else (some F))) else (some F)) else (some F))) else (some F))) = some r := by first | (rw [hy894]; with_reducible exact H) | (have H2_ := (Option.bind_some _ _).symm.trans H; rw [hy894]; with_reducible exact H2_) | (have H2_ := (Option.bind_some _ _).symm.trans H; with_reducible exact H2_) | with_reducible exact H | (rw [hy894]; exact H) | exact H
 have Ny894 := Aside0.mk hy894
 clear hy894
 replace H := Option.bind_eq_some_iff.mp H
 obtain ⟨t897, A260, H⟩ := H
 replace H : (if t897 = T then ((Qaa.f k t872 (([1000, (-1000)] : List Int))).bind fun t901 => (if t901 = T then (if t873 = 0 then ((Qaa.f k t887 (([0, 0] : List Int))).bind fun t905 => (if t905 = T then (some (t889 == 0)) else (some F))) else (some F)) else (some F))) else (some F)) = some r := H
 have A26 := Aside0.mk A260
 clear A260
 by_cases c27 : t897 = T
 ·subst c27
  have H1 : ((Qaa.f k t872 (([1000, (-1000)] : List Int))).bind fun t901 => (if t901 = T then (if t873 = 0 then ((Qaa.f k t887 (([0, 0] : List Int))).bind fun t905 => (if t905 = T then (some (t889 == 0)) else (some F))) else (some F)) else (some F))) = some r := by rw [if_pos rfl] at H; exact H
  clear H
  have H := H1
  clear H1
  obtain ⟨y898, hy898⟩ : ∃ y_ : List Int, y_ = (([1000, (-1000)] : List Int)) := ⟨_, rfl⟩
  replace H : ((Qaa.f k t872 y898).bind fun t901 => (if t901 = T then (if t873 = 0 then ((Qaa.f k t887 (([0, 0] : List Int))).bind fun t905 => (if t905 = T then (some (t889 == 0)) else (some F))) else (some F)) else (some F))) = some r := by first | (rw [hy898]; with_reducible exact H) | (have H2_ := (Option.bind_some _ _).symm.trans H; rw [hy898]; with_reducible exact H2_) | (have H2_ := (Option.bind_some _ _).symm.trans H; with_reducible exact H2_) | with_reducible exact H | (rw [hy898]; exact H) | exact H
  have Ny898 := Aside0.mk hy898
  clear hy898
  replace H := Option.bind_eq_some_iff.mp H
  obtain ⟨t901, A280, H⟩ := H
  replace H : (if t901 = T then (if t873 = 0 then ((Qaa.f k t887 (([0, 0] : List Int))).bind fun t905 => (if t905 = T then (some (t889 == 0)) else (some F))) else (some F)) else (some F)) = some r := H
  have A28 := Aside0.mk A280
  clear A280
  by_cases c29 : t901 = T
  ·subst c29
   have H1 : (if t873 = 0 then ((Qaa.f k t887 (([0, 0] : List Int))).bind fun t905 => (if t905 = T then (some (t889 == 0)) else (some F))) else (some F)) = some r := by rw [if_pos rfl] at H; exact H
   clear H
   have H := H1
   clear H1
   by_cases c30 : t873 = 0
   ·rw [if_pos c30] at H
    have c30b0 : (t873 == 0) = T := beq_iff_eq.mpr c30
    have c30b1 : (t873 != 0) = F := bne_eq_false_iff_eq.mpr c30
    clear c30
    (try simp only [c30b0, c30b1])
    obtain ⟨y902, hy902⟩ : ∃ y_ : List Int, y_ = (([0, 0] : List Int)) := ⟨_, rfl⟩
    replace H : ((Qaa.f k t887 y902).bind fun t905 => (if t905 = T then (some (t889 == 0)) else (some F))) = some r := by first | (rw [hy902]; with_reducible exact H) | (have H2_ := (Option.bind_some _ _).symm.trans H; rw [hy902]; with_reducible exact H2_) | (have H2_ := (Option.bind_some _ _).symm.trans H; with_reducible exact H2_) | with_reducible exact H | (rw [hy902]; exact H) | exact H
    have Ny902 := Aside0.mk hy902
    clear hy902
    replace H := Option.bind_eq_some_iff.mp H
    obtain ⟨t905, A310, H⟩ := H
    replace H : (if t905 = T then (some (t889 == 0)) else (some F)) = some r := H
    have A31 := Aside0.mk A310
    clear A310
    by_cases c32 : t905 = T
    ·subst c32
     have H1 : (some (t889 == 0)) = some r := by rw [if_pos rfl] at H; exact H
     clear H
     have H := H1
     clear H1
     obtain rfl := Option.some.inj H
     go_wp2_with (first | ((with_reducible refine QaE (N := 29) rfl ?_); (try (refine QaM (by rfl) ?_; dsimp only)); refine Kd.R_lit (Kd.int .i64) _ 3 ?hg (N := 29) ?hd (xs := ([300, 400] : List Int)) (inner := [.int .i64 300, .int .i64 400]) (ok := fun _ => True) (okp := fun _ => True) ?hr ?hp (fun _ hk => hk) trivial (Below.refl _ _) (Nat.le_refl _) (by simp) ?_; (case hd => rfl); (case hg => rfl); (case hr => first | (go_simp; done) | (go_simp; rfl)); (case hp => exact (Reps.one (show Kd.M (Kd.int .i64) _ _ _ 300 [.int .i64 300] from rfl) (Reps.one (show Kd.M (Kd.int .i64) _ _ _ 400 [.int .i64 400] from rfl) (Reps.none _ _)))); intro v895 w33 ho34 hb hg_ hnew_; clear hg_ hnew_; (first | rw [← Ny894.out] at ho34 | (simp only [Int.reduceToNat] at ho34; rw [← Ny894.out] at ho34)); have HO896 := Aside0.mk (Kd.R_lower (Kd.R_new' (Kd.R_new' (Kd.R_new' (Kd.R_new' (Kd.R_new' (Kd.R_new' (Kd.R_new' (Kd.R_new' ho34 (Kd.R_lt (Zr HO867.out))) (Kd.R_lt (Zr HO870.out))) (Kd.R_lt (Zr HO875.out))) (Kd.R_lt (Zr HO877.out))) (Kd.R_lt (Zr HO883.out))) (Kd.R_lt (Zr HO886.out))) (Kd.R_lt (Zr HO891.out))) (Kd.R_lt (Zr HO893.out))) (Qap (Zb))); replace HO861 := Aside0.mk (Kd.R_below (Zr HO861.out) hb); replace HO864 := Aside0.mk (Kd.R_below (Zr HO864.out) hb); replace HO867 := Aside0.mk (Kd.R_elder' (Zr HO867.out) (Kd.R_base ho34) hb); replace HO870 := Aside0.mk (Kd.R_elder' (Zr HO870.out) (Kd.R_base ho34) hb); replace HO875 := Aside0.mk (Kd.R_elder' (Zr HO875.out) (Kd.R_base ho34) hb); replace HO877 := Aside0.mk (Kd.R_elder' (Zr HO877.out) (Kd.R_base ho34) hb); replace HO880 := Aside0.mk (Kd.R_below (Zr HO880.out) hb); replace HO883 := Aside0.mk (Kd.R_elder' (Zr HO883.out) (Kd.R_base ho34) hb); replace HO886 := Aside0.mk (Kd.R_elder' (Zr HO886.out) (Kd.R_base ho34) hb); replace HO891 := Aside0.mk (Kd.R_elder' (Zr HO891.out) (Kd.R_base ho34) hb); replace HO893 := Aside0.mk (Kd.R_elder' (Zr HO893.out) (Kd.R_base ho34) hb); replace HB := Aside0.mk (Qak (Zb) hb); clear hb ho34; obtain ⟨Ao35, co35, eo35⟩ := Kd.R_slice HO875.out; subst eo35; obtain ⟨Ao36, co36, eo36⟩ := Kd.R_slice HO896.out; subst eo36) | ((with_reducible refine Qau (f := 46) rfl ?_); refine goesL_ (some 30) rfl rfl Try.func46 (by kernel_rfl) rfl #[.slice Ao35 t871.length co35, .slice Ao36 y894.length co36] rfl (Zl) ?_; (with_reducible refine (Qaa.calls k _ _ t871 _ _ y894 T _ ?side1 ?side2 ?side3 ?side4 A26.out).mono ?_); (case side1 => exact Zv (Kd.R_reads' HO875.out).2.2); (case side2 => exact (Kd.R_reads' HO875.out).2.1); (case side3 => exact Zv (Kd.R_reads' HO896.out).2.2); (case side4 => exact (Kd.R_reads' HO896.out).2.1); rintro e w' ⟨rfl, ⟨nd, rfl⟩⟩; refine ⟨_, rfl, ?_⟩) | ((with_reducible refine QaE (N := 33) rfl ?_); (try (refine QaM (by rfl) ?_; dsimp only)); refine Kd.R_lit (Kd.int .i64) _ 3 ?hg (N := 33) ?hd (xs := ([1000, (-1000)] : List Int)) (inner := [.int .i64 1000, .int .i64 (-1000)]) (ok := fun _ => True) (okp := fun _ => True) ?hr ?hp (fun _ hk => hk) trivial (Below.refl _ _) (Nat.le_refl _) (by simp) ?_; (case hd => rfl); (case hg => rfl); (case hr => first | (go_simp; done) | (go_simp; rfl)); (case hp => exact (Reps.one (show Kd.M (Kd.int .i64) _ _ _ 1000 [.int .i64 1000] from rfl) (Reps.one (show Kd.M (Kd.int .i64) _ _ _ (-1000) [.int .i64 (-1000)] from rfl) (Reps.none _ _)))); intro v899 w37 ho38 hb hg_ hnew_; clear hg_ hnew_; (first | rw [← Ny898.out] at ho38 | (simp only [Int.reduceToNat] at ho38; rw [← Ny898.out] at ho38)); have HO900 := Aside0.mk (Kd.R_lower (Kd.R_new' (Kd.R_new' (Kd.R_new' (Kd.R_new' (Kd.R_new' (Kd.R_new' (Kd.R_new' (Kd.R_new' (Kd.R_new' ho38 (Kd.R_lt (Zr HO867.out))) (Kd.R_lt (Zr HO870.out))) (Kd.R_lt (Zr HO875.out))) (Kd.R_lt (Zr HO877.out))) (Kd.R_lt (Zr HO883.out))) (Kd.R_lt (Zr HO886.out))) (Kd.R_lt (Zr HO891.out))) (Kd.R_lt (Zr HO893.out))) (Kd.R_lt (Zr HO896.out))) (Qap (Zb))); replace HO861 := Aside0.mk (Kd.R_below (Zr HO861.out) hb); replace HO864 := Aside0.mk (Kd.R_below (Zr HO864.out) hb); replace HO867 := Aside0.mk (Kd.R_elder' (Zr HO867.out) (Kd.R_base ho38) hb); replace HO870 := Aside0.mk (Kd.R_elder' (Zr HO870.out) (Kd.R_base ho38) hb); replace HO875 := Aside0.mk (Kd.R_elder' (Zr HO875.out) (Kd.R_base ho38) hb); replace HO877 := Aside0.mk (Kd.R_elder' (Zr HO877.out) (Kd.R_base ho38) hb); replace HO880 := Aside0.mk (Kd.R_below (Zr HO880.out) hb); replace HO883 := Aside0.mk (Kd.R_elder' (Zr HO883.out) (Kd.R_base ho38) hb); replace HO886 := Aside0.mk (Kd.R_elder' (Zr HO886.out) (Kd.R_base ho38) hb); replace HO891 := Aside0.mk (Kd.R_elder' (Zr HO891.out) (Kd.R_base ho38) hb); replace HO893 := Aside0.mk (Kd.R_elder' (Zr HO893.out) (Kd.R_base ho38) hb); replace HO896 := Aside0.mk (Kd.R_elder' (Zr HO896.out) (Kd.R_base ho38) hb); replace HB := Aside0.mk (Qak (Zb) hb); clear hb ho38; obtain ⟨Ao39, co39, eo39⟩ := Kd.R_slice HO877.out; subst eo39; obtain ⟨Ao40, co40, eo40⟩ := Kd.R_slice HO900.out; subst eo40) | (go_at_call 46; (with_reducible refine (Qaa.calls k _ _ t872 _ _ y898 T _ ?side1 ?side2 ?side3 ?side4 A28.out).mono ?_); (case side1 => exact Zv (Kd.R_reads' HO877.out).2.2); (case side2 => exact (Kd.R_reads' HO877.out).2.1); (case side3 => exact Zv (Kd.R_reads' HO900.out).2.2); (case side4 => exact (Kd.R_reads' HO900.out).2.1); rintro e w' ⟨rfl, ⟨nd, rfl⟩⟩) | ((with_reducible refine QaE (N := 42) rfl ?_); (try (refine QaM (by rfl) ?_; dsimp only)); refine Kd.R_lit (Kd.int .i64) _ 3 ?hg (N := 42) ?hd (xs := ([0, 0] : List Int)) (inner := [.int .i64 0, .int .i64 0]) (ok := fun _ => True) (okp := fun _ => True) ?hr ?hp (fun _ hk => hk) trivial (Below.refl _ _) (Nat.le_refl _) (by simp) ?_; (case hd => rfl); (case hg => rfl); (case hr => first | (go_simp; done) | (go_simp; rfl)); (case hp => exact (Reps.one (show Kd.M (Kd.int .i64) _ _ _ 0 [.int .i64 0] from rfl) (Reps.one (show Kd.M (Kd.int .i64) _ _ _ 0 [.int .i64 0] from rfl) (Reps.none _ _)))); intro v903 w41 ho42 hb hg_ hnew_; clear hg_ hnew_; (first | rw [← Ny902.out] at ho42 | (simp only [Int.reduceToNat] at ho42; rw [← Ny902.out] at ho42)); have HO904 := Aside0.mk (Kd.R_lower (Kd.R_new' (Kd.R_new' (Kd.R_new' (Kd.R_new' (Kd.R_new' (Kd.R_new' (Kd.R_new' (Kd.R_new' (Kd.R_new' (Kd.R_new' ho42 (Kd.R_lt (Zr HO867.out))) (Kd.R_lt (Zr HO870.out))) (Kd.R_lt (Zr HO875.out))) (Kd.R_lt (Zr HO877.out))) (Kd.R_lt (Zr HO883.out))) (Kd.R_lt (Zr HO886.out))) (Kd.R_lt (Zr HO891.out))) (Kd.R_lt (Zr HO893.out))) (Kd.R_lt (Zr HO896.out))) (Kd.R_lt (Zr HO900.out))) (Qap (Zb))); replace HO861 := Aside0.mk (Kd.R_below (Zr HO861.out) hb); replace HO864 := Aside0.mk (Kd.R_below (Zr HO864.out) hb); replace HO867 := Aside0.mk (Kd.R_elder' (Zr HO867.out) (Kd.R_base ho42) hb); replace HO870 := Aside0.mk (Kd.R_elder' (Zr HO870.out) (Kd.R_base ho42) hb); replace HO875 := Aside0.mk (Kd.R_elder' (Zr HO875.out) (Kd.R_base ho42) hb); replace HO877 := Aside0.mk (Kd.R_elder' (Zr HO877.out) (Kd.R_base ho42) hb); replace HO880 := Aside0.mk (Kd.R_below (Zr HO880.out) hb); replace HO883 := Aside0.mk (Kd.R_elder' (Zr HO883.out) (Kd.R_base ho42) hb); replace HO886 := Aside0.mk (Kd.R_elder' (Zr HO886.out) (Kd.R_base ho42) hb); replace HO891 := Aside0.mk (Kd.R_elder' (Zr HO891.out) (Kd.R_base ho42) hb); replace HO893 := Aside0.mk (Kd.R_elder' (Zr HO893.out) (Kd.R_base ho42) hb); replace HO896 := Aside0.mk (Kd.R_elder' (Zr HO896.out) (Kd.R_base ho42) hb); replace HO900 := Aside0.mk (Kd.R_elder' (Zr HO900.out) (Kd.R_base ho42) hb); replace HB := Aside0.mk (Qak (Zb) hb); clear hb ho42; obtain ⟨Ao43, co43, eo43⟩ := Kd.R_slice HO891.out; subst eo43; obtain ⟨Ao44, co44, eo44⟩ := Kd.R_slice HO904.out; subst eo44) | (go_at_call 46; (with_reducible refine (Qaa.calls k _ _ t887 _ _ y902 T _ ?side1 ?side2 ?side3 ?side4 A31.out).mono ?_); (case side1 => exact Zv (Kd.R_reads' HO891.out).2.2); (case side2 => exact (Kd.R_reads' HO891.out).2.1); (case side3 => exact Zv (Kd.R_reads' HO904.out).2.2); (case side4 => exact (Kd.R_reads' HO904.out).2.1); rintro e w' ⟨rfl, ⟨nd, rfl⟩⟩))
     go_ret
     exact ⟨Zq, Zb⟩
    replace c32 := Bool.eq_false_iff.mpr c32
    subst c32
    have H1 : (some F) = some r := by rw [if_neg (show ¬ (F = T) by decide)] at H; exact H
    clear H
    have H := H1
    clear H1
    obtain rfl := Option.some.inj H
    go_wp2_with (first | ((with_reducible refine QaE (N := 29) rfl ?_); (try (refine QaM (by rfl) ?_; dsimp only)); refine Kd.R_lit (Kd.int .i64) _ 3 ?hg (N := 29) ?hd (xs := ([300, 400] : List Int)) (inner := [.int .i64 300, .int .i64 400]) (ok := fun _ => True) (okp := fun _ => True) ?hr ?hp (fun _ hk => hk) trivial (Below.refl _ _) (Nat.le_refl _) (by simp) ?_; (case hd => rfl); (case hg => rfl); (case hr => first | (go_simp; done) | (go_simp; rfl)); (case hp => exact (Reps.one (show Kd.M (Kd.int .i64) _ _ _ 300 [.int .i64 300] from rfl) (Reps.one (show Kd.M (Kd.int .i64) _ _ _ 400 [.int .i64 400] from rfl) (Reps.none _ _)))); intro v895 w45 ho46 hb hg_ hnew_; clear hg_ hnew_; (first | rw [← Ny894.out] at ho46 | (simp only [Int.reduceToNat] at ho46; rw [← Ny894.out] at ho46)); have HO896 := Aside0.mk (Kd.R_lower (Kd.R_new' (Kd.R_new' (Kd.R_new' (Kd.R_new' (Kd.R_new' (Kd.R_new' (Kd.R_new' (Kd.R_new' ho46 (Kd.R_lt (Zr HO867.out))) (Kd.R_lt (Zr HO870.out))) (Kd.R_lt (Zr HO875.out))) (Kd.R_lt (Zr HO877.out))) (Kd.R_lt (Zr HO883.out))) (Kd.R_lt (Zr HO886.out))) (Kd.R_lt (Zr HO891.out))) (Kd.R_lt (Zr HO893.out))) (Qap (Zb))); replace HO861 := Aside0.mk (Kd.R_below (Zr HO861.out) hb); replace HO864 := Aside0.mk (Kd.R_below (Zr HO864.out) hb); replace HO867 := Aside0.mk (Kd.R_elder' (Zr HO867.out) (Kd.R_base ho46) hb); replace HO870 := Aside0.mk (Kd.R_elder' (Zr HO870.out) (Kd.R_base ho46) hb); replace HO875 := Aside0.mk (Kd.R_elder' (Zr HO875.out) (Kd.R_base ho46) hb); replace HO877 := Aside0.mk (Kd.R_elder' (Zr HO877.out) (Kd.R_base ho46) hb); replace HO880 := Aside0.mk (Kd.R_below (Zr HO880.out) hb); replace HO883 := Aside0.mk (Kd.R_elder' (Zr HO883.out) (Kd.R_base ho46) hb); replace HO886 := Aside0.mk (Kd.R_elder' (Zr HO886.out) (Kd.R_base ho46) hb); replace HO891 := Aside0.mk (Kd.R_elder' (Zr HO891.out) (Kd.R_base ho46) hb); replace HO893 := Aside0.mk (Kd.R_elder' (Zr HO893.out) (Kd.R_base ho46) hb); replace HB := Aside0.mk (Qak (Zb) hb); clear hb ho46; obtain ⟨Ao47, co47, eo47⟩ := Kd.R_slice HO875.out; subst eo47; obtain ⟨Ao48, co48, eo48⟩ := Kd.R_slice HO896.out; subst eo48) | ((with_reducible refine Qau (f := 46) rfl ?_); refine goesL_ (some 30) rfl rfl Try.func46 (by kernel_rfl) rfl #[.slice Ao47 t871.length co47, .slice Ao48 y894.length co48] rfl (Zl) ?_; (with_reducible refine (Qaa.calls k _ _ t871 _ _ y894 T _ ?side1 ?side2 ?side3 ?side4 A26.out).mono ?_); (case side1 => exact Zv (Kd.R_reads' HO875.out).2.2); (case side2 => exact (Kd.R_reads' HO875.out).2.1); (case side3 => exact Zv (Kd.R_reads' HO896.out).2.2); (case side4 => exact (Kd.R_reads' HO896.out).2.1); rintro e w' ⟨rfl, ⟨nd, rfl⟩⟩; refine ⟨_, rfl, ?_⟩) | ((with_reducible refine QaE (N := 33) rfl ?_); (try (refine QaM (by rfl) ?_; dsimp only)); refine Kd.R_lit (Kd.int .i64) _ 3 ?hg (N := 33) ?hd (xs := ([1000, (-1000)] : List Int)) (inner := [.int .i64 1000, .int .i64 (-1000)]) (ok := fun _ => True) (okp := fun _ => True) ?hr ?hp (fun _ hk => hk) trivial (Below.refl _ _) (Nat.le_refl _) (by simp) ?_; (case hd => rfl); (case hg => rfl); (case hr => first | (go_simp; done) | (go_simp; rfl)); (case hp => exact (Reps.one (show Kd.M (Kd.int .i64) _ _ _ 1000 [.int .i64 1000] from rfl) (Reps.one (show Kd.M (Kd.int .i64) _ _ _ (-1000) [.int .i64 (-1000)] from rfl) (Reps.none _ _)))); intro v899 w49 ho50 hb hg_ hnew_; clear hg_ hnew_; (first | rw [← Ny898.out] at ho50 | (simp only [Int.reduceToNat] at ho50; rw [← Ny898.out] at ho50)); have HO900 := Aside0.mk (Kd.R_lower (Kd.R_new' (Kd.R_new' (Kd.R_new' (Kd.R_new' (Kd.R_new' (Kd.R_new' (Kd.R_new' (Kd.R_new' (Kd.R_new' ho50 (Kd.R_lt (Zr HO867.out))) (Kd.R_lt (Zr HO870.out))) (Kd.R_lt (Zr HO875.out))) (Kd.R_lt (Zr HO877.out))) (Kd.R_lt (Zr HO883.out))) (Kd.R_lt (Zr HO886.out))) (Kd.R_lt (Zr HO891.out))) (Kd.R_lt (Zr HO893.out))) (Kd.R_lt (Zr HO896.out))) (Qap (Zb))); replace HO861 := Aside0.mk (Kd.R_below (Zr HO861.out) hb); replace HO864 := Aside0.mk (Kd.R_below (Zr HO864.out) hb); replace HO867 := Aside0.mk (Kd.R_elder' (Zr HO867.out) (Kd.R_base ho50) hb); replace HO870 := Aside0.mk (Kd.R_elder' (Zr HO870.out) (Kd.R_base ho50) hb); replace HO875 := Aside0.mk (Kd.R_elder' (Zr HO875.out) (Kd.R_base ho50) hb); replace HO877 := Aside0.mk (Kd.R_elder' (Zr HO877.out) (Kd.R_base ho50) hb); replace HO880 := Aside0.mk (Kd.R_below (Zr HO880.out) hb); replace HO883 := Aside0.mk (Kd.R_elder' (Zr HO883.out) (Kd.R_base ho50) hb); replace HO886 := Aside0.mk (Kd.R_elder' (Zr HO886.out) (Kd.R_base ho50) hb); replace HO891 := Aside0.mk (Kd.R_elder' (Zr HO891.out) (Kd.R_base ho50) hb); replace HO893 := Aside0.mk (Kd.R_elder' (Zr HO893.out) (Kd.R_base ho50) hb); replace HO896 := Aside0.mk (Kd.R_elder' (Zr HO896.out) (Kd.R_base ho50) hb); replace HB := Aside0.mk (Qak (Zb) hb); clear hb ho50; obtain ⟨Ao51, co51, eo51⟩ := Kd.R_slice HO877.out; subst eo51; obtain ⟨Ao52, co52, eo52⟩ := Kd.R_slice HO900.out; subst eo52) | (go_at_call 46; (with_reducible refine (Qaa.calls k _ _ t872 _ _ y898 T _ ?side1 ?side2 ?side3 ?side4 A28.out).mono ?_); (case side1 => exact Zv (Kd.R_reads' HO877.out).2.2); (case side2 => exact (Kd.R_reads' HO877.out).2.1); (case side3 => exact Zv (Kd.R_reads' HO900.out).2.2); (case side4 => exact (Kd.R_reads' HO900.out).2.1); rintro e w' ⟨rfl, ⟨nd, rfl⟩⟩) | ((with_reducible refine QaE (N := 42) rfl ?_); (try (refine QaM (by rfl) ?_; dsimp only)); refine Kd.R_lit (Kd.int .i64) _ 3 ?hg (N := 42) ?hd (xs := ([0, 0] : List Int)) (inner := [.int .i64 0, .int .i64 0]) (ok := fun _ => True) (okp := fun _ => True) ?hr ?hp (fun _ hk => hk) trivial (Below.refl _ _) (Nat.le_refl _) (by simp) ?_; (case hd => rfl); (case hg => rfl); (case hr => first | (go_simp; done) | (go_simp; rfl)); (case hp => exact (Reps.one (show Kd.M (Kd.int .i64) _ _ _ 0 [.int .i64 0] from rfl) (Reps.one (show Kd.M (Kd.int .i64) _ _ _ 0 [.int .i64 0] from rfl) (Reps.none _ _)))); intro v903 w53 ho54 hb hg_ hnew_; clear hg_ hnew_; (first | rw [← Ny902.out] at ho54 | (simp only [Int.reduceToNat] at ho54; rw [← Ny902.out] at ho54)); have HO904 := Aside0.mk (Kd.R_lower (Kd.R_new' (Kd.R_new' (Kd.R_new' (Kd.R_new' (Kd.R_new' (Kd.R_new' (Kd.R_new' (Kd.R_new' (Kd.R_new' (Kd.R_new' ho54 (Kd.R_lt (Zr HO867.out))) (Kd.R_lt (Zr HO870.out))) (Kd.R_lt (Zr HO875.out))) (Kd.R_lt (Zr HO877.out))) (Kd.R_lt (Zr HO883.out))) (Kd.R_lt (Zr HO886.out))) (Kd.R_lt (Zr HO891.out))) (Kd.R_lt (Zr HO893.out))) (Kd.R_lt (Zr HO896.out))) (Kd.R_lt (Zr HO900.out))) (Qap (Zb))); replace HO861 := Aside0.mk (Kd.R_below (Zr HO861.out) hb); replace HO864 := Aside0.mk (Kd.R_below (Zr HO864.out) hb); replace HO867 := Aside0.mk (Kd.R_elder' (Zr HO867.out) (Kd.R_base ho54) hb); replace HO870 := Aside0.mk (Kd.R_elder' (Zr HO870.out) (Kd.R_base ho54) hb); replace HO875 := Aside0.mk (Kd.R_elder' (Zr HO875.out) (Kd.R_base ho54) hb); replace HO877 := Aside0.mk (Kd.R_elder' (Zr HO877.out) (Kd.R_base ho54) hb); replace HO880 := Aside0.mk (Kd.R_below (Zr HO880.out) hb); replace HO883 := Aside0.mk (Kd.R_elder' (Zr HO883.out) (Kd.R_base ho54) hb); replace HO886 := Aside0.mk (Kd.R_elder' (Zr HO886.out) (Kd.R_base ho54) hb); replace HO891 := Aside0.mk (Kd.R_elder' (Zr HO891.out) (Kd.R_base ho54) hb); replace HO893 := Aside0.mk (Kd.R_elder' (Zr HO893.out) (Kd.R_base ho54) hb); replace HO896 := Aside0.mk (Kd.R_elder' (Zr HO896.out) (Kd.R_base ho54) hb); replace HO900 := Aside0.mk (Kd.R_elder' (Zr HO900.out) (Kd.R_base ho54) hb); replace HB := Aside0.mk (Qak (Zb) hb); clear hb ho54; obtain ⟨Ao55, co55, eo55⟩ := Kd.R_slice HO891.out; subst eo55; obtain ⟨Ao56, co56, eo56⟩ := Kd.R_slice HO904.out; subst eo56) | (go_at_call 46; (with_reducible refine (Qaa.calls k _ _ t887 _ _ y902 F _ ?side1 ?side2 ?side3 ?side4 A31.out).mono ?_); (case side1 => exact Zv (Kd.R_reads' HO891.out).2.2); (case side2 => exact (Kd.R_reads' HO891.out).2.1); (case side3 => exact Zv (Kd.R_reads' HO904.out).2.2); (case side4 => exact (Kd.R_reads' HO904.out).2.1); rintro e w' ⟨rfl, ⟨nd, rfl⟩⟩))
    go_ret
    exact ⟨Zq, Zb⟩
   rw [if_neg c30] at H
   have c30b0 : (t873 == 0) = F := beq_eq_false_iff_ne.mpr c30
   have c30b1 : (t873 != 0) = T := bne_iff_ne.mpr c30
   (try simp only [c30b0, c30b1])
   obtain rfl := Option.some.inj H
   go_wp2_with (first | ((with_reducible refine QaE (N := 29) rfl ?_); (try (refine QaM (by rfl) ?_; dsimp only)); refine Kd.R_lit (Kd.int .i64) _ 3 ?hg (N := 29) ?hd (xs := ([300, 400] : List Int)) (inner := [.int .i64 300, .int .i64 400]) (ok := fun _ => True) (okp := fun _ => True) ?hr ?hp (fun _ hk => hk) trivial (Below.refl _ _) (Nat.le_refl _) (by simp) ?_; (case hd => rfl); (case hg => rfl); (case hr => first | (go_simp; done) | (go_simp; rfl)); (case hp => exact (Reps.one (show Kd.M (Kd.int .i64) _ _ _ 300 [.int .i64 300] from rfl) (Reps.one (show Kd.M (Kd.int .i64) _ _ _ 400 [.int .i64 400] from rfl) (Reps.none _ _)))); intro v895 w57 ho58 hb hg_ hnew_; clear hg_ hnew_; (first | rw [← Ny894.out] at ho58 | (simp only [Int.reduceToNat] at ho58; rw [← Ny894.out] at ho58)); have HO896 := Aside0.mk (Kd.R_lower (Kd.R_new' (Kd.R_new' (Kd.R_new' (Kd.R_new' (Kd.R_new' (Kd.R_new' (Kd.R_new' (Kd.R_new' ho58 (Kd.R_lt (Zr HO867.out))) (Kd.R_lt (Zr HO870.out))) (Kd.R_lt (Zr HO875.out))) (Kd.R_lt (Zr HO877.out))) (Kd.R_lt (Zr HO883.out))) (Kd.R_lt (Zr HO886.out))) (Kd.R_lt (Zr HO891.out))) (Kd.R_lt (Zr HO893.out))) (Qap (Zb))); replace HO861 := Aside0.mk (Kd.R_below (Zr HO861.out) hb); replace HO864 := Aside0.mk (Kd.R_below (Zr HO864.out) hb); replace HO867 := Aside0.mk (Kd.R_elder' (Zr HO867.out) (Kd.R_base ho58) hb); replace HO870 := Aside0.mk (Kd.R_elder' (Zr HO870.out) (Kd.R_base ho58) hb); replace HO875 := Aside0.mk (Kd.R_elder' (Zr HO875.out) (Kd.R_base ho58) hb); replace HO877 := Aside0.mk (Kd.R_elder' (Zr HO877.out) (Kd.R_base ho58) hb); replace HO880 := Aside0.mk (Kd.R_below (Zr HO880.out) hb); replace HO883 := Aside0.mk (Kd.R_elder' (Zr HO883.out) (Kd.R_base ho58) hb); replace HO886 := Aside0.mk (Kd.R_elder' (Zr HO886.out) (Kd.R_base ho58) hb); replace HO891 := Aside0.mk (Kd.R_elder' (Zr HO891.out) (Kd.R_base ho58) hb); replace HO893 := Aside0.mk (Kd.R_elder' (Zr HO893.out) (Kd.R_base ho58) hb); replace HB := Aside0.mk (Qak (Zb) hb); clear hb ho58; obtain ⟨Ao59, co59, eo59⟩ := Kd.R_slice HO875.out; subst eo59; obtain ⟨Ao60, co60, eo60⟩ := Kd.R_slice HO896.out; subst eo60) | ((with_reducible refine Qau (f := 46) rfl ?_); refine goesL_ (some 30) rfl rfl Try.func46 (by kernel_rfl) rfl #[.slice Ao59 t871.length co59, .slice Ao60 y894.length co60] rfl (Zl) ?_; (with_reducible refine (Qaa.calls k _ _ t871 _ _ y894 T _ ?side1 ?side2 ?side3 ?side4 A26.out).mono ?_); (case side1 => exact Zv (Kd.R_reads' HO875.out).2.2); (case side2 => exact (Kd.R_reads' HO875.out).2.1); (case side3 => exact Zv (Kd.R_reads' HO896.out).2.2); (case side4 => exact (Kd.R_reads' HO896.out).2.1); rintro e w' ⟨rfl, ⟨nd, rfl⟩⟩; refine ⟨_, rfl, ?_⟩) | ((with_reducible refine QaE (N := 33) rfl ?_); (try (refine QaM (by rfl) ?_; dsimp only)); refine Kd.R_lit (Kd.int .i64) _ 3 ?hg (N := 33) ?hd (xs := ([1000, (-1000)] : List Int)) (inner := [.int .i64 1000, .int .i64 (-1000)]) (ok := fun _ => True) (okp := fun _ => True) ?hr ?hp (fun _ hk => hk) trivial (Below.refl _ _) (Nat.le_refl _) (by simp) ?_; (case hd => rfl); (case hg => rfl); (case hr => first | (go_simp; done) | (go_simp; rfl)); (case hp => exact (Reps.one (show Kd.M (Kd.int .i64) _ _ _ 1000 [.int .i64 1000] from rfl) (Reps.one (show Kd.M (Kd.int .i64) _ _ _ (-1000) [.int .i64 (-1000)] from rfl) (Reps.none _ _)))); intro v899 w61 ho62 hb hg_ hnew_; clear hg_ hnew_; (first | rw [← Ny898.out] at ho62 | (simp only [Int.reduceToNat] at ho62; rw [← Ny898.out] at ho62)); have HO900 := Aside0.mk (Kd.R_lower (Kd.R_new' (Kd.R_new' (Kd.R_new' (Kd.R_new' (Kd.R_new' (Kd.R_new' (Kd.R_new' (Kd.R_new' (Kd.R_new' ho62 (Kd.R_lt (Zr HO867.out))) (Kd.R_lt (Zr HO870.out))) (Kd.R_lt (Zr HO875.out))) (Kd.R_lt (Zr HO877.out))) (Kd.R_lt (Zr HO883.out))) (Kd.R_lt (Zr HO886.out))) (Kd.R_lt (Zr HO891.out))) (Kd.R_lt (Zr HO893.out))) (Kd.R_lt (Zr HO896.out))) (Qap (Zb))); replace HO861 := Aside0.mk (Kd.R_below (Zr HO861.out) hb); replace HO864 := Aside0.mk (Kd.R_below (Zr HO864.out) hb); replace HO867 := Aside0.mk (Kd.R_elder' (Zr HO867.out) (Kd.R_base ho62) hb); replace HO870 := Aside0.mk (Kd.R_elder' (Zr HO870.out) (Kd.R_base ho62) hb); replace HO875 := Aside0.mk (Kd.R_elder' (Zr HO875.out) (Kd.R_base ho62) hb); replace HO877 := Aside0.mk (Kd.R_elder' (Zr HO877.out) (Kd.R_base ho62) hb); replace HO880 := Aside0.mk (Kd.R_below (Zr HO880.out) hb); replace HO883 := Aside0.mk (Kd.R_elder' (Zr HO883.out) (Kd.R_base ho62) hb); replace HO886 := Aside0.mk (Kd.R_elder' (Zr HO886.out) (Kd.R_base ho62) hb); replace HO891 := Aside0.mk (Kd.R_elder' (Zr HO891.out) (Kd.R_base ho62) hb); replace HO893 := Aside0.mk (Kd.R_elder' (Zr HO893.out) (Kd.R_base ho62) hb); replace HO896 := Aside0.mk (Kd.R_elder' (Zr HO896.out) (Kd.R_base ho62) hb); replace HB := Aside0.mk (Qak (Zb) hb); clear hb ho62; obtain ⟨Ao63, co63, eo63⟩ := Kd.R_slice HO877.out; subst eo63; obtain ⟨Ao64, co64, eo64⟩ := Kd.R_slice HO900.out; subst eo64) | (go_at_call 46; (with_reducible refine (Qaa.calls k _ _ t872 _ _ y898 T _ ?side1 ?side2 ?side3 ?side4 A28.out).mono ?_); (case side1 => exact Zv (Kd.R_reads' HO877.out).2.2); (case side2 => exact (Kd.R_reads' HO877.out).2.1); (case side3 => exact Zv (Kd.R_reads' HO900.out).2.2); (case side4 => exact (Kd.R_reads' HO900.out).2.1); rintro e w' ⟨rfl, ⟨nd, rfl⟩⟩))
   go_ret
   exact ⟨Zq, Zb⟩
  replace c29 := Bool.eq_false_iff.mpr c29
  subst c29
  have H1 : (some F) = some r := by rw [if_neg (show ¬ (F = T) by decide)] at H; exact H
  clear H
  have H := H1
  clear H1
  obtain rfl := Option.some.inj H
  go_wp2_with (first | ((with_reducible refine QaE (N := 29) rfl ?_); (try (refine QaM (by rfl) ?_; dsimp only)); refine Kd.R_lit (Kd.int .i64) _ 3 ?hg (N := 29) ?hd (xs := ([300, 400] : List Int)) (inner := [.int .i64 300, .int .i64 400]) (ok := fun _ => True) (okp := fun _ => True) ?hr ?hp (fun _ hk => hk) trivial (Below.refl _ _) (Nat.le_refl _) (by simp) ?_; (case hd => rfl); (case hg => rfl); (case hr => first | (go_simp; done) | (go_simp; rfl)); (case hp => exact (Reps.one (show Kd.M (Kd.int .i64) _ _ _ 300 [.int .i64 300] from rfl) (Reps.one (show Kd.M (Kd.int .i64) _ _ _ 400 [.int .i64 400] from rfl) (Reps.none _ _)))); intro v895 w65 ho66 hb hg_ hnew_; clear hg_ hnew_; (first | rw [← Ny894.out] at ho66 | (simp only [Int.reduceToNat] at ho66; rw [← Ny894.out] at ho66)); have HO896 := Aside0.mk (Kd.R_lower (Kd.R_new' (Kd.R_new' (Kd.R_new' (Kd.R_new' (Kd.R_new' (Kd.R_new' (Kd.R_new' (Kd.R_new' ho66 (Kd.R_lt (Zr HO867.out))) (Kd.R_lt (Zr HO870.out))) (Kd.R_lt (Zr HO875.out))) (Kd.R_lt (Zr HO877.out))) (Kd.R_lt (Zr HO883.out))) (Kd.R_lt (Zr HO886.out))) (Kd.R_lt (Zr HO891.out))) (Kd.R_lt (Zr HO893.out))) (Qap (Zb))); replace HO861 := Aside0.mk (Kd.R_below (Zr HO861.out) hb); replace HO864 := Aside0.mk (Kd.R_below (Zr HO864.out) hb); replace HO867 := Aside0.mk (Kd.R_elder' (Zr HO867.out) (Kd.R_base ho66) hb); replace HO870 := Aside0.mk (Kd.R_elder' (Zr HO870.out) (Kd.R_base ho66) hb); replace HO875 := Aside0.mk (Kd.R_elder' (Zr HO875.out) (Kd.R_base ho66) hb); replace HO877 := Aside0.mk (Kd.R_elder' (Zr HO877.out) (Kd.R_base ho66) hb); replace HO880 := Aside0.mk (Kd.R_below (Zr HO880.out) hb); replace HO883 := Aside0.mk (Kd.R_elder' (Zr HO883.out) (Kd.R_base ho66) hb); replace HO886 := Aside0.mk (Kd.R_elder' (Zr HO886.out) (Kd.R_base ho66) hb); replace HO891 := Aside0.mk (Kd.R_elder' (Zr HO891.out) (Kd.R_base ho66) hb); replace HO893 := Aside0.mk (Kd.R_elder' (Zr HO893.out) (Kd.R_base ho66) hb); replace HB := Aside0.mk (Qak (Zb) hb); clear hb ho66; obtain ⟨Ao67, co67, eo67⟩ := Kd.R_slice HO875.out; subst eo67; obtain ⟨Ao68, co68, eo68⟩ := Kd.R_slice HO896.out; subst eo68) | ((with_reducible refine Qau (f := 46) rfl ?_); refine goesL_ (some 30) rfl rfl Try.func46 (by kernel_rfl) rfl #[.slice Ao67 t871.length co67, .slice Ao68 y894.length co68] rfl (Zl) ?_; (with_reducible refine (Qaa.calls k _ _ t871 _ _ y894 T _ ?side1 ?side2 ?side3 ?side4 A26.out).mono ?_); (case side1 => exact Zv (Kd.R_reads' HO875.out).2.2); (case side2 => exact (Kd.R_reads' HO875.out).2.1); (case side3 => exact Zv (Kd.R_reads' HO896.out).2.2); (case side4 => exact (Kd.R_reads' HO896.out).2.1); rintro e w' ⟨rfl, ⟨nd, rfl⟩⟩; refine ⟨_, rfl, ?_⟩) | ((with_reducible refine QaE (N := 33) rfl ?_); (try (refine QaM (by rfl) ?_; dsimp only)); refine Kd.R_lit (Kd.int .i64) _ 3 ?hg (N := 33) ?hd (xs := ([1000, (-1000)] : List Int)) (inner := [.int .i64 1000, .int .i64 (-1000)]) (ok := fun _ => True) (okp := fun _ => True) ?hr ?hp (fun _ hk => hk) trivial (Below.refl _ _) (Nat.le_refl _) (by simp) ?_; (case hd => rfl); (case hg => rfl); (case hr => first | (go_simp; done) | (go_simp; rfl)); (case hp => exact (Reps.one (show Kd.M (Kd.int .i64) _ _ _ 1000 [.int .i64 1000] from rfl) (Reps.one (show Kd.M (Kd.int .i64) _ _ _ (-1000) [.int .i64 (-1000)] from rfl) (Reps.none _ _)))); intro v899 w69 ho70 hb hg_ hnew_; clear hg_ hnew_; (first | rw [← Ny898.out] at ho70 | (simp only [Int.reduceToNat] at ho70; rw [← Ny898.out] at ho70)); have HO900 := Aside0.mk (Kd.R_lower (Kd.R_new' (Kd.R_new' (Kd.R_new' (Kd.R_new' (Kd.R_new' (Kd.R_new' (Kd.R_new' (Kd.R_new' (Kd.R_new' ho70 (Kd.R_lt (Zr HO867.out))) (Kd.R_lt (Zr HO870.out))) (Kd.R_lt (Zr HO875.out))) (Kd.R_lt (Zr HO877.out))) (Kd.R_lt (Zr HO883.out))) (Kd.R_lt (Zr HO886.out))) (Kd.R_lt (Zr HO891.out))) (Kd.R_lt (Zr HO893.out))) (Kd.R_lt (Zr HO896.out))) (Qap (Zb))); replace HO861 := Aside0.mk (Kd.R_below (Zr HO861.out) hb); replace HO864 := Aside0.mk (Kd.R_below (Zr HO864.out) hb); replace HO867 := Aside0.mk (Kd.R_elder' (Zr HO867.out) (Kd.R_base ho70) hb); replace HO870 := Aside0.mk (Kd.R_elder' (Zr HO870.out) (Kd.R_base ho70) hb); replace HO875 := Aside0.mk (Kd.R_elder' (Zr HO875.out) (Kd.R_base ho70) hb); replace HO877 := Aside0.mk (Kd.R_elder' (Zr HO877.out) (Kd.R_base ho70) hb); replace HO880 := Aside0.mk (Kd.R_below (Zr HO880.out) hb); replace HO883 := Aside0.mk (Kd.R_elder' (Zr HO883.out) (Kd.R_base ho70) hb); replace HO886 := Aside0.mk (Kd.R_elder' (Zr HO886.out) (Kd.R_base ho70) hb); replace HO891 := Aside0.mk (Kd.R_elder' (Zr HO891.out) (Kd.R_base ho70) hb); replace HO893 := Aside0.mk (Kd.R_elder' (Zr HO893.out) (Kd.R_base ho70) hb); replace HO896 := Aside0.mk (Kd.R_elder' (Zr HO896.out) (Kd.R_base ho70) hb); replace HB := Aside0.mk (Qak (Zb) hb); clear hb ho70; obtain ⟨Ao71, co71, eo71⟩ := Kd.R_slice HO877.out; subst eo71; obtain ⟨Ao72, co72, eo72⟩ := Kd.R_slice HO900.out; subst eo72) | (go_at_call 46; (with_reducible refine (Qaa.calls k _ _ t872 _ _ y898 F _ ?side1 ?side2 ?side3 ?side4 A28.out).mono ?_); (case side1 => exact Zv (Kd.R_reads' HO877.out).2.2); (case side2 => exact (Kd.R_reads' HO877.out).2.1); (case side3 => exact Zv (Kd.R_reads' HO900.out).2.2); (case side4 => exact (Kd.R_reads' HO900.out).2.1); rintro e w' ⟨rfl, ⟨nd, rfl⟩⟩))
  go_ret
  exact ⟨Zq, Zb⟩
 replace c27 := Bool.eq_false_iff.mpr c27
 subst c27
 have H1 : (some F) = some r := by rw [if_neg (show ¬ (F = T) by decide)] at H; exact H
 clear H
 have H := H1
 clear H1
 obtain rfl := Option.some.inj H
 go_wp2_with (first | ((with_reducible refine QaE (N := 29) rfl ?_); (try (refine QaM (by rfl) ?_; dsimp only)); refine Kd.R_lit (Kd.int .i64) _ 3 ?hg (N := 29) ?hd (xs := ([300, 400] : List Int)) (inner := [.int .i64 300, .int .i64 400]) (ok := fun _ => True) (okp := fun _ => True) ?hr ?hp (fun _ hk => hk) trivial (Below.refl _ _) (Nat.le_refl _) (by simp) ?_; (case hd => rfl); (case hg => rfl); (case hr => first | (go_simp; done) | (go_simp; rfl)); (case hp => exact (Reps.one (show Kd.M (Kd.int .i64) _ _ _ 300 [.int .i64 300] from rfl) (Reps.one (show Kd.M (Kd.int .i64) _ _ _ 400 [.int .i64 400] from rfl) (Reps.none _ _)))); intro v895 w73 ho74 hb hg_ hnew_; clear hg_ hnew_; (first | rw [← Ny894.out] at ho74 | (simp only [Int.reduceToNat] at ho74; rw [← Ny894.out] at ho74)); have HO896 := Aside0.mk (Kd.R_lower (Kd.R_new' (Kd.R_new' (Kd.R_new' (Kd.R_new' (Kd.R_new' (Kd.R_new' (Kd.R_new' (Kd.R_new' ho74 (Kd.R_lt (Zr HO867.out))) (Kd.R_lt (Zr HO870.out))) (Kd.R_lt (Zr HO875.out))) (Kd.R_lt (Zr HO877.out))) (Kd.R_lt (Zr HO883.out))) (Kd.R_lt (Zr HO886.out))) (Kd.R_lt (Zr HO891.out))) (Kd.R_lt (Zr HO893.out))) (Qap (Zb))); replace HO861 := Aside0.mk (Kd.R_below (Zr HO861.out) hb); replace HO864 := Aside0.mk (Kd.R_below (Zr HO864.out) hb); replace HO867 := Aside0.mk (Kd.R_elder' (Zr HO867.out) (Kd.R_base ho74) hb); replace HO870 := Aside0.mk (Kd.R_elder' (Zr HO870.out) (Kd.R_base ho74) hb); replace HO875 := Aside0.mk (Kd.R_elder' (Zr HO875.out) (Kd.R_base ho74) hb); replace HO877 := Aside0.mk (Kd.R_elder' (Zr HO877.out) (Kd.R_base ho74) hb); replace HO880 := Aside0.mk (Kd.R_below (Zr HO880.out) hb); replace HO883 := Aside0.mk (Kd.R_elder' (Zr HO883.out) (Kd.R_base ho74) hb); replace HO886 := Aside0.mk (Kd.R_elder' (Zr HO886.out) (Kd.R_base ho74) hb); replace HO891 := Aside0.mk (Kd.R_elder' (Zr HO891.out) (Kd.R_base ho74) hb); replace HO893 := Aside0.mk (Kd.R_elder' (Zr HO893.out) (Kd.R_base ho74) hb); replace HB := Aside0.mk (Qak (Zb) hb); clear hb ho74; obtain ⟨Ao75, co75, eo75⟩ := Kd.R_slice HO875.out; subst eo75; obtain ⟨Ao76, co76, eo76⟩ := Kd.R_slice HO896.out; subst eo76) | ((with_reducible refine Qau (f := 46) rfl ?_); refine goesL_ (some 30) rfl rfl Try.func46 (by kernel_rfl) rfl #[.slice Ao75 t871.length co75, .slice Ao76 y894.length co76] rfl (Zl) ?_; (with_reducible refine (Qaa.calls k _ _ t871 _ _ y894 F _ ?side1 ?side2 ?side3 ?side4 A26.out).mono ?_); (case side1 => exact Zv (Kd.R_reads' HO875.out).2.2); (case side2 => exact (Kd.R_reads' HO875.out).2.1); (case side3 => exact Zv (Kd.R_reads' HO896.out).2.2); (case side4 => exact (Kd.R_reads' HO896.out).2.1); rintro e w' ⟨rfl, ⟨nd, rfl⟩⟩; refine ⟨_, rfl, ?_⟩))
 go_ret
 exact ⟨Zq, Zb⟩
def Qbe.f (a0 : Int) : Option (Int × Int) := (Qba.f a0).bind fun t550 => (if t550 = T then (some (a0, 0)) else (some (0, 3)))
theorem Qbe.calls (a0 : Int) (r1 : Int) (r2 : Int) (w : World) (h : Qbe.f a0 = some (r1, r2)) :
  Calls Try.prog 92 #[.int .i64 a0] w fun e w' => e = .returned (.tuple #[.int .i64 r1, .int .i64 r2]) ∧ Drawn0 w w' := by
 have H : ((Qba.f a0).bind fun t550 => (if t550 = T then (some (a0, 0)) else (some (0, 3)))) = some (r1, r2) := h
 clear h
 replace H := Option.bind_eq_some_iff.mp H
 obtain ⟨t550, A20, H⟩ := H
 replace H : (if t550 = T then (some (a0, 0)) else (some (0, 3))) = some (r1, r2) := H
 have A2 := Aside0.mk A20
 clear A20
 go_enter Try.func92, Try.ntmps92
 go_upto_if 6 with (first | ((with_reducible refine Qau (f := 88) rfl ?_); refine goesL_ (some 5) rfl rfl Try.func88 (by kernel_rfl) rfl #[.int .i64 a0] rfl (Zl) ?_; (with_reducible refine (Qba.calls a0 t550 _ A2.out).mono ?_); rintro e w' ⟨rfl, ⟨nd, rfl⟩⟩; refine ⟨_, rfl, ?_⟩))
 (try simp only [Act.put, Zj, Zk, Zm])
 by_cases c3 : t550 = T
 ·subst c3
  have H1 : (some (a0, 0)) = some (r1, r2) := by rw [if_pos rfl] at H; exact H
  clear H
  have H := H1
  clear H1
  simp only [Option.some.injEq, Prod.mk.injEq] at H
  obtain ⟨rfl, rfl⟩ := H
  go_wp2
  go_ret2
  exact ⟨Zs, Zd⟩
 replace c3 := Bool.eq_false_iff.mpr c3
 subst c3
 have H1 : (some (0, 3)) = some (r1, r2) := by rw [if_neg (show ¬ (F = T) by decide)] at H; exact H
 clear H
 have H := H1
 clear H1
 simp only [Option.some.injEq, Prod.mk.injEq] at H
 obtain ⟨rfl, rfl⟩ := H
 go_wp2
 go_ret2
 exact ⟨Zs, Zd⟩
def Qat.l0 : Nat → List Int → Int → Int → Int → Int → Option (Int × Int)
 | 0, _, _, _, _, _ => none
 | k + 1, x0, x4, x5, x9, x10 => if x10 < x9 then (if 0 ≤ x10 then (if x10 < (x0.length : Int) then ((Qba.f (rd x0 x10)).bind fun t990 => (if t990 = T then (Qat.l0 k x0 (wrap64 (x4 + ((rd x0 x10) / 4294967296))) (wrap64 (x5 + (Go.bits .and .i64 (rd x0 x10) 4294967295))) x9 (wrap64 (x10 + 1))) else (some (0, 2)))) else (none)) else (none)) else (if (wrap64 (x4 + (x5 / 4294967296))) < (-268435456) then (some (0, 3)) else (if (wrap64 (x4 + (x5 / 4294967296))) > 268435456 then (some (0, 3)) else ((Qbe.f (wrap64 ((wrap64 ((wrap64 (x4 + (x5 / 4294967296))) * 4294967296)) + (Go.bits .and .i64 x5 4294967295)))).bind fun bt993 => (some (bt993.1, bt993.2)))))
def Qat.f (k : Nat) (l0 : List Int) : Option (Int × Int) := Qat.l0 k l0 0 0 (l0.length : Int) 0
theorem Qat.mono_l : ∀ k, (∀ y0 y1 y2 y3 y4, LeO (Qat.l0 k y0 y1 y2 y3 y4) (Qat.l0 (k + 1) y0 y1 y2 y3 y4))
 | 0 => fun _ _ _ _ _ r h => by simp [Qat.l0] at h
 | k + 1 => by
  have ih0 := Qat.mono_l k
  intro y0 y1 y2 y3 y4
  unfold Qat.l0
  exact ZM1 ih0
theorem Qat.mono : ∀ a0 k, LeO (Qat.f k a0) (Qat.f (k + 1) a0) := by
 intro a0 k
 have ih0 := Qat.mono_l k
 unfold Qat.f
 exact ZM1 ih0
theorem Qat.calls (k : Nat) (A0 : Option Addr) (c0 : Nat) (l0 : List Int) (r1 : Int) (r2 : Int) (w : World) (hr0 : Kd.C (Kd.int .i64) w A0 l0.length l0) (hc0 : l0.length ≤ c0) (h : Qat.f k l0 = some (r1, r2)) :
  Calls Try.prog 84 #[.slice A0 l0.length c0] w fun e w' => e = .returned (.tuple #[.int .i64 r1, .int .i64 r2]) ∧ Drawn0 w w' := by
 have HR0 := Aside0.mk hr0
 have HC0 := Aside0.mk hc0
 clear hr0 hc0
 have H : (Qat.l0 k l0 0 0 (l0.length : Int) 0) = some (r1, r2) := h
 clear h
 have H' := Aside0.mk H
 clear H
 go_enter Try.func84, Try.ntmps84
 go_wp2
 go_loopg [4, 5, 10] k (fun kq v4 v5 v10 w' => ∃ (x4_1 : Int) (x5_1 : Int) (x10_1 : Int), v4 = .int .i64 x4_1 ∧ v5 = .int .i64 x5_1 ∧ v10 = .int .i64 x10_1 ∧ Aside0 (Qat.l0 kq l0 x4_1 x5_1 (l0.length : Int) x10_1 = some (r1, r2)) ∧ Aside0 (kq ≤ k) ∧ Drawn0 w w')
 case atStart => exact ⟨(0), (0), (0), (Zs), (Zs), (Zs), H', ⟨Nat.le_refl _⟩, Zd⟩
 case round =>
  clear H'
  obtain ⟨x4_1, x5_1, x10_1, rfl, rfl, rfl, HA, HK1, ⟨m1, rfl⟩⟩ := hrel
  cases gk with
  | zero => exact absurd HA.out (by simp [Qat.l0])
  | succ k1 =>
   have H := HA.out
   clear HA
   simp only [Qat.l0] at H
   by_cases c2 : x10_1 < (l0.length : Int)
   ·rw [if_pos c2] at H
    have c2b0 : decide (x10_1 < (l0.length : Int)) = T := decide_eq_true c2
    clear c2
    (try simp only [c2b0])
    by_cases c3 : 0 ≤ x10_1
    ·rw [if_pos c3] at H
     have c3b0 : decide (0 ≤ x10_1) = T := decide_eq_true c3
     clear c3
     by_cases c4 : x10_1 < (l0.length : Int)
     ·rw [if_pos c4] at H
      have c4b0 : decide (x10_1 < (l0.length : Int)) = T := decide_eq_true c4
      clear c4
      replace H := Option.bind_eq_some_iff.mp H
      obtain ⟨t990, A50, H⟩ := H
      replace H : (if t990 = T then (Qat.l0 k1 l0 (wrap64 (x4_1 + ((rd l0 x10_1) / 4294967296))) (wrap64 (x5_1 + (Go.bits .and .i64 (rd l0 x10_1) 4294967295))) (l0.length : Int) (wrap64 (x10_1 + 1))) else (some (0, 2))) = some (r1, r2) := H
      have A5 := Aside0.mk A50
      clear A50
      have p989 : 0 ≤ (x10_1 : Int) := Ze
      have q989 : x10_1 < (l0.length : Int) := Ze
      obtain ⟨ad989, e989, hx989_0⟩ := Kd.at_int HR0.out x10_1 p989 q989
      cases e989
      replace p989 := eq_true p989
      replace q989 := eq_true q989
      go_upto_if 18 with (first | ((with_reducible refine Qau (f := 88) rfl ?_); refine goesL_ (some 17) rfl rfl Try.func88 (by kernel_rfl) rfl #[.int .i64 (rd l0 x10_1)] rfl (Zl) ?_; (with_reducible refine (Qba.calls (rd l0 x10_1) t990 _ A5.out).mono ?_); rintro e w' ⟨rfl, ⟨nd, rfl⟩⟩; refine ⟨_, rfl, ?_⟩))
      (try simp only [Act.put, Zj, Zk, Zm])
      by_cases c6 : t990 = T
      ·subst c6
       have H1 : (Qat.l0 k1 l0 (wrap64 (x4_1 + ((rd l0 x10_1) / 4294967296))) (wrap64 (x5_1 + (Go.bits .and .i64 (rd l0 x10_1) 4294967295))) (l0.length : Int) (wrap64 (x10_1 + 1))) = some (r1, r2) := by rw [if_pos rfl] at H; exact H
       clear H
       have H := H1
       clear H1
       have H' := Aside0.mk H
       clear H
       have p991 : 0 ≤ (x10_1 : Int) := Ze
       have q991 : x10_1 < (l0.length : Int) := Ze
       obtain ⟨ad991, e991, hx991_0⟩ := Kd.at_int HR0.out x10_1 p991 q991
       obtain rfl : ad989 = ad991 := (by injection e991)
       replace p991 := eq_true p991
       replace q991 := eq_true q991
       have p992 : 0 ≤ (x10_1 : Int) := Ze
       have q992 : x10_1 < (l0.length : Int) := Ze
       obtain ⟨ad992, e992, hx992_0⟩ := Kd.at_int HR0.out x10_1 p992 q992
       obtain rfl : ad989 = ad992 := (by injection e992)
       replace p992 := eq_true p992
       replace q992 := eq_true q992
       go_wp2
       go_roundg k1
       case measure => have := HK1.out; omega
       case rel => exact ⟨(wrap64 (x4_1 + ((rd l0 x10_1) / 4294967296))), (wrap64 (x5_1 + (Go.bits .and .i64 (rd l0 x10_1) 4294967295))), (wrap64 (x10_1 + 1)), (Zs), (Zs), (Zs), H', ⟨by have := HK1.out; omega⟩, Zd⟩
      replace c6 := Bool.eq_false_iff.mpr c6
      subst c6
      have H1 : (some (0, 2)) = some (r1, r2) := by rw [if_neg (show ¬ (F = T) by decide)] at H; exact H
      clear H
      have H := H1
      clear H1
      simp only [Option.some.injEq, Prod.mk.injEq] at H
      obtain ⟨rfl, rfl⟩ := H
      go_wp2
      go_ret2
      exact ⟨Zs, Zd⟩
     rw [if_neg c4] at H
     exact absurd H (by simp)
    rw [if_neg c3] at H
    exact absurd H (by simp)
   rw [if_neg c2] at H
   have c2b0 : decide (x10_1 < (l0.length : Int)) = F := decide_eq_false c2
   clear c2
   (try simp only [c2b0])
   by_cases c7 : (wrap64 (x4_1 + (x5_1 / 4294967296))) < (-268435456)
   ·rw [if_pos c7] at H
    have c7b0 : decide ((wrap64 (x4_1 + (x5_1 / 4294967296))) < (-268435456)) = T := decide_eq_true c7
    clear c7
    simp only [Option.some.injEq, Prod.mk.injEq] at H
    obtain ⟨rfl, rfl⟩ := H
    go_wp2
    go_ret2
    exact ⟨Zs, Zd⟩
   rw [if_neg c7] at H
   have c7b0 : decide ((wrap64 (x4_1 + (x5_1 / 4294967296))) < (-268435456)) = F := decide_eq_false c7
   clear c7
   by_cases c8 : (wrap64 (x4_1 + (x5_1 / 4294967296))) > 268435456
   ·rw [if_pos c8] at H
    have c8b0 : decide (268435456 < (wrap64 (x4_1 + (x5_1 / 4294967296)))) = T := decide_eq_true c8
    clear c8
    (try simp only [c8b0])
    simp only [Option.some.injEq, Prod.mk.injEq] at H
    obtain ⟨rfl, rfl⟩ := H
    go_wp2
    go_ret2
    exact ⟨Zs, Zd⟩
   rw [if_neg c8] at H
   have c8b0 : decide (268435456 < (wrap64 (x4_1 + (x5_1 / 4294967296)))) = F := decide_eq_false c8
   clear c8
   (try simp only [c8b0])
   replace H := Option.bind_eq_some_iff.mp H
   obtain ⟨⟨t993, t994⟩, A90, H⟩ := H
   replace H : (some (t993, t994)) = some (r1, r2) := H
   have A9 := Aside0.mk A90
   clear A90
   simp only [Option.some.injEq, Prod.mk.injEq] at H
   obtain ⟨rfl, rfl⟩ := H
   go_wp2_with (first | ((with_reducible refine Qau (f := 92) rfl ?_); refine goesL_ (some 52) rfl rfl Try.func92 (by kernel_rfl) rfl #[.int .i64 (wrap64 ((wrap64 ((wrap64 (x4_1 + (x5_1 / 4294967296))) * 4294967296)) + (Go.bits .and .i64 x5_1 4294967295)))] rfl (Zl) ?_; (with_reducible refine (Qbe.calls (wrap64 ((wrap64 ((wrap64 (x4_1 + (x5_1 / 4294967296))) * 4294967296)) + (Go.bits .and .i64 x5_1 4294967295))) t993 t994 _ A9.out).mono ?_); rintro e w' ⟨rfl, ⟨nd, rfl⟩⟩; refine ⟨_, rfl, ?_⟩))
   go_ret2
   exact ⟨Zs, Zd⟩
def QaZ.f (k : Nat) (l0 : List Int) : Option (Int × Int) := (Qat.f k l0).bind fun bt995 => (some (bt995.1, bt995.2))
theorem QaZ.mono : ∀ a0 k, LeO (QaZ.f k a0) (QaZ.f (k + 1) a0) := by
 intro a0 k
 unfold QaZ.f
 exact ZM1 Qat.mono
theorem QaZ.calls (k : Nat) (A0 : Option Addr) (c0 : Nat) (l0 : List Int) (r1 : Int) (r2 : Int) (w : World) (hr0 : Kd.C (Kd.int .i64) w A0 l0.length l0) (hc0 : l0.length ≤ c0) (h : QaZ.f k l0 = some (r1, r2)) :
  Calls Try.prog 48 #[.slice A0 l0.length c0] w fun e w' => e = .returned (.tuple #[.int .i64 r1, .int .i64 r2]) ∧ Drawn0 w w' := by
 have HR0 := Aside0.mk hr0
 have HC0 := Aside0.mk hc0
 clear hr0 hc0
 have H : ((Qat.f k l0).bind fun bt995 => (some (bt995.1, bt995.2))) = some (r1, r2) := h
 clear h
 replace H := Option.bind_eq_some_iff.mp H
 obtain ⟨⟨t995, t996⟩, A20, H⟩ := H
 replace H : (some (t995, t996)) = some (r1, r2) := H
 have A2 := Aside0.mk A20
 clear A20
 simp only [Option.some.injEq, Prod.mk.injEq] at H
 obtain ⟨rfl, rfl⟩ := H
 go_enter Try.func48, Try.ntmps48
 go_wp2_with (first | ((with_reducible refine Qau (f := 84) rfl ?_); refine goesL_ (some 5) rfl rfl Try.func84 (by kernel_rfl) rfl #[.slice A0 l0.length c0] rfl (Zl) ?_; (with_reducible refine (Qat.calls k _ _ l0 t995 t996 _ ?side1 ?side2 A2.out).mono ?_); (case side1 => exact Zv HR0.out); (case side2 => exact HC0.out); rintro e w' ⟨rfl, ⟨nd, rfl⟩⟩; refine ⟨_, rfl, ?_⟩))
 go_ret2
 exact ⟨Zs, Zd⟩
def QaS.f (a0 : Int) : Option (Bool) := if a0 ≥ (-1152921504606846976) then (some (decide (a0 ≤ 1152921504606846976))) else (some F)
theorem QaS.calls (a0 : Int) (r : Bool) (w : World) (h : QaS.f a0 = some r) :
  Calls Try.prog 93 #[.int .i64 a0] w fun e w' => e = .returned (.bool r) ∧ Drawn0 w w' := by
 have H : (if a0 ≥ (-1152921504606846976) then (some (decide (a0 ≤ 1152921504606846976))) else (some F)) = some r := h
 clear h
 by_cases c2 : a0 ≥ (-1152921504606846976)
 ·rw [if_pos c2] at H
  have c2b0 : decide ((-1152921504606846976) ≤ a0) = T := decide_eq_true c2
  clear c2
  obtain rfl := Option.some.inj H
  go_enter Try.func93, Try.ntmps93
  go_wp2
  go_ret
  exact ⟨Zs, Zd⟩
 rw [if_neg c2] at H
 have c2b0 : decide ((-1152921504606846976) ≤ a0) = F := decide_eq_false c2
 clear c2
 obtain rfl := Option.some.inj H
 go_enter Try.func93, Try.ntmps93
 go_wp2
 go_ret
 exact ⟨Zs, Zd⟩
def Qal.l0 : Nat → List Int → Int → Int → Int → Option (Int × Int)
 | 0, _, _, _, _ => none
 | k + 1, x0, x4, x5, x6 => if x6 < (x0.length : Int) then (if 0 ≤ x6 then ((QaS.f (rd x0 x6)).bind fun t659 => (if t659 = T then (Qal.l0 k x0 (wrap64 (x4 + (wrap64 (Int.tdiv (rd x0 x6) 1073741824)))) (wrap64 (x5 + (Int.tmod (rd x0 x6) 1073741824))) (wrap64 (x6 + 1))) else (some (0, 2)))) else (none)) else (if (wrap64 (x4 + (wrap64 (Int.tdiv x5 1073741824)))) < (-1073741825) then (some (0, 3)) else (if (wrap64 (x4 + (wrap64 (Int.tdiv x5 1073741824)))) > 1073741825 then (some (0, 3)) else ((QaS.f (wrap64 ((wrap64 ((wrap64 (x4 + (wrap64 (Int.tdiv x5 1073741824)))) * 1073741824)) + (Int.tmod x5 1073741824)))).bind fun t662 => (if t662 = T then (some (wrap64 ((wrap64 ((wrap64 (x4 + (wrap64 (Int.tdiv x5 1073741824)))) * 1073741824)) + (Int.tmod x5 1073741824)), 0)) else (some (0, 3))))))
def Qal.f (k : Nat) (l0 : List Int) : Option (Int × Int) := Qal.l0 k l0 0 0 0
theorem Qal.mono_l : ∀ k, (∀ y0 y1 y2 y3, LeO (Qal.l0 k y0 y1 y2 y3) (Qal.l0 (k + 1) y0 y1 y2 y3))
 | 0 => fun _ _ _ _ r h => by simp [Qal.l0] at h
 | k + 1 => by
  have ih0 := Qal.mono_l k
  intro y0 y1 y2 y3
  unfold Qal.l0
  exact ZM1 ih0
theorem Qal.mono : ∀ a0 k, LeO (Qal.f k a0) (Qal.f (k + 1) a0) := by
 intro a0 k
 have ih0 := Qal.mono_l k
 unfold Qal.f
 exact ZM1 ih0
theorem Qal.calls (k : Nat) (A0 : Option Addr) (c0 : Nat) (l0 : List Int) (r1 : Int) (r2 : Int) (w : World) (hr0 : Kd.C (Kd.int .i64) w A0 l0.length l0) (hc0 : l0.length ≤ c0) (h : Qal.f k l0 = some (r1, r2)) :
  Calls Try.prog 71 #[.slice A0 l0.length c0] w fun e w' => e = .returned (.tuple #[.int .i64 r1, .int .i64 r2]) ∧ Drawn0 w w' := by
 have HR0 := Aside0.mk hr0
 have HC0 := Aside0.mk hc0
 clear hr0 hc0
 have H : (Qal.l0 k l0 0 0 0) = some (r1, r2) := h
 clear h
 have H' := Aside0.mk H
 clear H
 go_enter Try.func71, Try.ntmps71
 go_wp2
 go_loopg [4, 5, 6] k (fun kq v4 v5 v6 w' => ∃ (x4_1 : Int) (x5_1 : Int) (x6_1 : Int), v4 = .int .i64 x4_1 ∧ v5 = .int .i64 x5_1 ∧ v6 = .int .i64 x6_1 ∧ Aside0 (Qal.l0 kq l0 x4_1 x5_1 x6_1 = some (r1, r2)) ∧ Aside0 (kq ≤ k) ∧ Drawn0 w w')
 case atStart => exact ⟨(0), (0), (0), (Zs), (Zs), (Zs), H', ⟨Nat.le_refl _⟩, Zd⟩
 case round =>
  clear H'
  obtain ⟨x4_1, x5_1, x6_1, rfl, rfl, rfl, HA, HK1, ⟨m1, rfl⟩⟩ := hrel
  cases gk with
  | zero => exact absurd HA.out (by simp [Qal.l0])
  | succ k1 =>
   have H := HA.out
   clear HA
   simp only [Qal.l0] at H
   by_cases c2 : x6_1 < (l0.length : Int)
   ·rw [if_pos c2] at H
    have c2b0 : decide (x6_1 < (l0.length : Int)) = T := decide_eq_true c2
    clear c2
    (try simp only [c2b0])
    by_cases c3 : 0 ≤ x6_1
    ·rw [if_pos c3] at H
     have c3b0 : decide (0 ≤ x6_1) = T := decide_eq_true c3
     clear c3
     replace H := Option.bind_eq_some_iff.mp H
     obtain ⟨t659, A40, H⟩ := H
     replace H : (if t659 = T then (Qal.l0 k1 l0 (wrap64 (x4_1 + (wrap64 (Int.tdiv (rd l0 x6_1) 1073741824)))) (wrap64 (x5_1 + (Int.tmod (rd l0 x6_1) 1073741824))) (wrap64 (x6_1 + 1))) else (some (0, 2))) = some (r1, r2) := H
     have A4 := Aside0.mk A40
     clear A40
     have p658 : 0 ≤ (x6_1 : Int) := Ze
     have q658 : x6_1 < (l0.length : Int) := Ze
     obtain ⟨ad658, e658, hx658_0⟩ := Kd.at_int HR0.out x6_1 p658 q658
     cases e658
     replace p658 := eq_true p658
     replace q658 := eq_true q658
     go_upto_if 18 with (first | ((with_reducible refine Qau (f := 93) rfl ?_); refine goesL_ (some 17) rfl rfl Try.func93 (by kernel_rfl) rfl #[.int .i64 (rd l0 x6_1)] rfl (Zl) ?_; (with_reducible refine (QaS.calls (rd l0 x6_1) t659 _ A4.out).mono ?_); rintro e w' ⟨rfl, ⟨nd, rfl⟩⟩; refine ⟨_, rfl, ?_⟩))
     (try simp only [Act.put, Zj, Zk, Zm])
     by_cases c5 : t659 = T
     ·subst c5
      have H1 : (Qal.l0 k1 l0 (wrap64 (x4_1 + (wrap64 (Int.tdiv (rd l0 x6_1) 1073741824)))) (wrap64 (x5_1 + (Int.tmod (rd l0 x6_1) 1073741824))) (wrap64 (x6_1 + 1))) = some (r1, r2) := by rw [if_pos rfl] at H; exact H
      clear H
      have H := H1
      clear H1
      have H' := Aside0.mk H
      clear H
      have p660 : 0 ≤ (x6_1 : Int) := Ze
      have q660 : x6_1 < (l0.length : Int) := Ze
      obtain ⟨ad660, e660, hx660_0⟩ := Kd.at_int HR0.out x6_1 p660 q660
      obtain rfl : ad658 = ad660 := (by injection e660)
      replace p660 := eq_true p660
      replace q660 := eq_true q660
      have p661 : 0 ≤ (x6_1 : Int) := Ze
      have q661 : x6_1 < (l0.length : Int) := Ze
      obtain ⟨ad661, e661, hx661_0⟩ := Kd.at_int HR0.out x6_1 p661 q661
      obtain rfl : ad658 = ad661 := (by injection e661)
      replace p661 := eq_true p661
      replace q661 := eq_true q661
      go_wp2
      go_roundg k1
      case measure => have := HK1.out; omega
      case rel => exact ⟨(wrap64 (x4_1 + (wrap64 (Int.tdiv (rd l0 x6_1) 1073741824)))), (wrap64 (x5_1 + (Int.tmod (rd l0 x6_1) 1073741824))), (wrap64 (x6_1 + 1)), (Zs), (Zs), (Zs), H', ⟨by have := HK1.out; omega⟩, Zd⟩
     replace c5 := Bool.eq_false_iff.mpr c5
     subst c5
     have H1 : (some (0, 2)) = some (r1, r2) := by rw [if_neg (show ¬ (F = T) by decide)] at H; exact H
     clear H
     have H := H1
     clear H1
     simp only [Option.some.injEq, Prod.mk.injEq] at H
     obtain ⟨rfl, rfl⟩ := H
     go_wp2
     go_ret2
     exact ⟨Zs, Zd⟩
    rw [if_neg c3] at H
    exact absurd H (by simp)
   rw [if_neg c2] at H
   have c2b0 : decide (x6_1 < (l0.length : Int)) = F := decide_eq_false c2
   clear c2
   (try simp only [c2b0])
   by_cases c6 : (wrap64 (x4_1 + (wrap64 (Int.tdiv x5_1 1073741824)))) < (-1073741825)
   ·rw [if_pos c6] at H
    have c6b0 : decide ((wrap64 (x4_1 + (wrap64 (Int.tdiv x5_1 1073741824)))) < (-1073741825)) = T := decide_eq_true c6
    clear c6
    simp only [Option.some.injEq, Prod.mk.injEq] at H
    obtain ⟨rfl, rfl⟩ := H
    go_wp2
    go_ret2
    exact ⟨Zs, Zd⟩
   rw [if_neg c6] at H
   have c6b0 : decide ((wrap64 (x4_1 + (wrap64 (Int.tdiv x5_1 1073741824)))) < (-1073741825)) = F := decide_eq_false c6
   clear c6
   by_cases c7 : (wrap64 (x4_1 + (wrap64 (Int.tdiv x5_1 1073741824)))) > 1073741825
   ·rw [if_pos c7] at H
    have c7b0 : decide (1073741825 < (wrap64 (x4_1 + (wrap64 (Int.tdiv x5_1 1073741824))))) = T := decide_eq_true c7
    clear c7
    simp only [Option.some.injEq, Prod.mk.injEq] at H
    obtain ⟨rfl, rfl⟩ := H
    go_wp2
    go_ret2
    exact ⟨Zs, Zd⟩
   rw [if_neg c7] at H
   have c7b0 : decide (1073741825 < (wrap64 (x4_1 + (wrap64 (Int.tdiv x5_1 1073741824))))) = F := decide_eq_false c7
   clear c7
   replace H := Option.bind_eq_some_iff.mp H
   obtain ⟨t662, A80, H⟩ := H
   replace H : (if t662 = T then (some (wrap64 ((wrap64 ((wrap64 (x4_1 + (wrap64 (Int.tdiv x5_1 1073741824)))) * 1073741824)) + (Int.tmod x5_1 1073741824)), 0)) else (some (0, 3))) = some (r1, r2) := H
   have A8 := Aside0.mk A80
   clear A80
   go_upto_if 52 with (first | (go_at_call 93; (with_reducible refine (QaS.calls (wrap64 ((wrap64 ((wrap64 (x4_1 + (wrap64 (Int.tdiv x5_1 1073741824)))) * 1073741824)) + (Int.tmod x5_1 1073741824))) t662 _ A8.out).mono ?_); rintro e w' ⟨rfl, ⟨nd, rfl⟩⟩))
   (try simp only [Act.put, Zj, Zk, Zm])
   by_cases c9 : t662 = T
   ·subst c9
    have H1 : (some (wrap64 ((wrap64 ((wrap64 (x4_1 + (wrap64 (Int.tdiv x5_1 1073741824)))) * 1073741824)) + (Int.tmod x5_1 1073741824)), 0)) = some (r1, r2) := by rw [if_pos rfl] at H; exact H
    clear H
    have H := H1
    clear H1
    simp only [Option.some.injEq, Prod.mk.injEq] at H
    obtain ⟨rfl, rfl⟩ := H
    go_wp2
    go_ret2
    exact ⟨Zs, Zd⟩
   replace c9 := Bool.eq_false_iff.mpr c9
   subst c9
   have H1 : (some (0, 3)) = some (r1, r2) := by rw [if_neg (show ¬ (F = T) by decide)] at H; exact H
   clear H
   have H := H1
   clear H1
   simp only [Option.some.injEq, Prod.mk.injEq] at H
   obtain ⟨rfl, rfl⟩ := H
   go_wp2
   go_ret2
   exact ⟨Zs, Zd⟩
def Qaz.f (k : Nat) (l0 : List Int) : Option (Int × Int) := (Qal.f k l0).bind fun bt997 => (some (bt997.1, bt997.2))
theorem Qaz.mono : ∀ a0 k, LeO (Qaz.f k a0) (Qaz.f (k + 1) a0) := by
 intro a0 k
 unfold Qaz.f
 exact ZM1 Qal.mono
theorem Qaz.calls (k : Nat) (A0 : Option Addr) (c0 : Nat) (l0 : List Int) (r1 : Int) (r2 : Int) (w : World) (hr0 : Kd.C (Kd.int .i64) w A0 l0.length l0) (hc0 : l0.length ≤ c0) (h : Qaz.f k l0 = some (r1, r2)) :
  Calls Try.prog 49 #[.slice A0 l0.length c0] w fun e w' => e = .returned (.tuple #[.int .i64 r1, .int .i64 r2]) ∧ Drawn0 w w' := by
 have HR0 := Aside0.mk hr0
 have HC0 := Aside0.mk hc0
 clear hr0 hc0
 have H : ((Qal.f k l0).bind fun bt997 => (some (bt997.1, bt997.2))) = some (r1, r2) := h
 clear h
 replace H := Option.bind_eq_some_iff.mp H
 obtain ⟨⟨t997, t998⟩, A20, H⟩ := H
 replace H : (some (t997, t998)) = some (r1, r2) := H
 have A2 := Aside0.mk A20
 clear A20
 simp only [Option.some.injEq, Prod.mk.injEq] at H
 obtain ⟨rfl, rfl⟩ := H
 go_enter Try.func49, Try.ntmps49
 go_wp2_with (first | ((with_reducible refine Qau (f := 71) rfl ?_); refine goesL_ (some 5) rfl rfl Try.func71 (by kernel_rfl) rfl #[.slice A0 l0.length c0] rfl (Zl) ?_; (with_reducible refine (Qal.calls k _ _ l0 t997 t998 _ ?side1 ?side2 A2.out).mono ?_); (case side1 => exact Zv HR0.out); (case side2 => exact HC0.out); rintro e w' ⟨rfl, ⟨nd, rfl⟩⟩; refine ⟨_, rfl, ?_⟩))
 go_ret2
 exact ⟨Zs, Zd⟩
def contangolaw25_InterTotals.f (k : Nat) (l0 : List Int) : Option (Bool) := (QaZ.f k l0).bind fun bt999 => ((Qaz.f k l0).bind fun bt1001 => (if bt999.1 = bt1001.1 then (if bt999.2 = bt1001.2 then ((Qaw.f k).bind fun t1003 => (some t1003)) else (none)) else (none)))
theorem contangolaw25_InterTotals.mono : ∀ a0 k, LeO (contangolaw25_InterTotals.f k a0) (contangolaw25_InterTotals.f (k + 1) a0) := by
 intro a0 k
 unfold contangolaw25_InterTotals.f
 exact ZM3 Qaw.mono Qaz.mono QaZ.mono
theorem contangolaw25_InterTotals.calls (k : Nat) (A0 : Option Addr) (c0 : Nat) (l0 : List Int) (r : Bool) (w : World) (hr0 : Kd.C (Kd.int .i64) w A0 l0.length l0) (hc0 : l0.length ≤ c0) (h : contangolaw25_InterTotals.f k l0 = some r) :
  Calls Try.prog 14 #[.slice A0 l0.length c0] w fun e w' => e = .returned (.bool r) ∧ Below w.heap.size w w' := by
 have HR0 := Aside0.mk hr0
 have HC0 := Aside0.mk hc0
 clear hr0 hc0
 have HB := Aside0.mk (Below.refl w.heap.size w)
 have H : ((QaZ.f k l0).bind fun bt999 => ((Qaz.f k l0).bind fun bt1001 => (if bt999.1 = bt1001.1 then (if bt999.2 = bt1001.2 then ((Qaw.f k).bind fun t1003 => (some t1003)) else (none)) else (none)))) = some r := h
 clear h
 replace H := Option.bind_eq_some_iff.mp H
 obtain ⟨⟨t999, t1000⟩, A20, H⟩ := H
 replace H : ((Qaz.f k l0).bind fun bt1001 => (if t999 = bt1001.1 then (if t1000 = bt1001.2 then ((Qaw.f k).bind fun t1003 => (some t1003)) else (none)) else (none))) = some r := H
 have A2 := Aside0.mk A20
 clear A20
 replace H := Option.bind_eq_some_iff.mp H
 obtain ⟨⟨t1001, t1002⟩, A30, H⟩ := H
 replace H : (if t999 = t1001 then (if t1000 = t1002 then ((Qaw.f k).bind fun t1003 => (some t1003)) else (none)) else (none)) = some r := H
 have A3 := Aside0.mk A30
 clear A30
 go_enter Try.func14, Try.ntmps14
 go_upto_region 3 with (first | ((with_reducible refine Qau (f := 48) rfl ?_); refine goesL_ (some 9) rfl rfl Try.func48 (by kernel_rfl) rfl #[.slice A0 l0.length c0] rfl (Zl) ?_; (with_reducible refine (QaZ.calls k _ _ l0 t999 t1000 _ ?side1 ?side2 A2.out).mono ?_); (case side1 => exact Zv HR0.out); (case side2 => exact HC0.out); rintro e w' ⟨rfl, ⟨nd, rfl⟩⟩; refine ⟨_, rfl, ?_⟩) | ((with_reducible refine Qau (f := 49) rfl ?_); refine goesL_ (some 14) rfl rfl Try.func49 (by kernel_rfl) rfl #[.slice A0 l0.length c0] rfl (Zl) ?_; (with_reducible refine (Qaz.calls k _ _ l0 t1001 t1002 _ ?side1 ?side2 A3.out).mono ?_); (case side1 => exact Zv HR0.out); (case side2 => exact HC0.out); rintro e w' ⟨rfl, ⟨nd, rfl⟩⟩; refine ⟨_, rfl, ?_⟩))
 (try simp only [Act.put, Zj, Zk, Zm])
 by_cases c4 : t999 = t1001
 ·rw [if_pos c4] at H
  have c4b0 : (t999 == t1001) = T := beq_iff_eq.mpr c4
  have c4b1 : (t999 != t1001) = F := bne_eq_false_iff_eq.mpr c4
  clear c4
  (try simp only [c4b0, c4b1])
  by_cases c5 : t1000 = t1002
  ·rw [if_pos c5] at H
   have c5b0 : (t1000 == t1002) = T := beq_iff_eq.mpr c5
   have c5b1 : (t1000 != t1002) = F := bne_eq_false_iff_eq.mpr c5
   clear c5
   replace H := Option.bind_eq_some_iff.mp H
   obtain ⟨t1003, A60, H⟩ := H
   replace H : (some t1003) = some r := H
   have A6 := Aside0.mk A60
   clear A60
   obtain rfl := Option.some.inj H
   go_wp2_with (first | (go_at_call 47; (with_reducible refine (Qaw.calls k  t1003 _ A6.out).mono ?_); rintro e w7 ⟨rfl, hb⟩; replace HB := Aside0.mk (Qak (Zb) hb); (try clear hb); (try clear hb2); (try clear hk); (try clear hi)))
   go_ret
   exact ⟨Zq, Zb⟩
  rw [if_neg c5] at H
  exact absurd H (by simp)
 rw [if_neg c4] at H
 exact absurd H (by simp)
end Go.Proofs.Ytggbflplbblgbaa.Pr
