/- Functions' values and contracts, as the print wrote them. -/
import Derived.Test.YtggbflplbblgbaaQA38P0
import Derived.Test.YtggbflplbblgbaaQA38P1
namespace Go.Proofs.Ytggbflplbblgbaa.Pr
open Bool renaming true → T
open Bool renaming false → F
open Go.RowKit Go.Proofs.YtggbflplbblgbaaW.PrintWords Go.Proofs.YtggbflplbblgbaaW.PrintLast Go.Proofs.YtggbflplbblgbaaW.PrintMore
attribute [local go_sem] QaJ QaL QaS QaT QaF QaG QaK QaM   -- for this text's walks alone
set_option linter.unusedVariables false
set_option linter.unusedSimpArgs false
set_option maxRecDepth 100000
set_option maxHeartbeats 8000000
mutual
def Qaa.l0 : Nat → List Int → List Int → Int → Option (Bool)
 | 0, _, _, _ => none
 | k + 1, x0, x1, x5 => if x5 < (x0.length : Int) then (Qaa.j1 k x0 x1 x5 (decide (x5 < (x1.length : Int)))) else (Qaa.j1 k x0 x1 x5 F)
def Qaa.j1 : Nat → List Int → List Int → Int → Bool → Option (Bool)
 | 0, _, _, _, _ => none
 | k + 1, x0, x1, x5, x15 => if x15 = T then (if 0 ≤ x5 then (if x5 < (x0.length : Int) then (if x5 < (x1.length : Int) then (if (rd x0 x5) = (rd x1 x5) then (Qaa.l0 k x0 x1 (wrap64 (x5 + 1))) else (some F)) else (none)) else (none)) else (none)) else (some ((x0.length : Int) == (x1.length : Int)))
end
def Qaa.f (k : Nat) (l0 : List Int) (l1 : List Int) : Option (Bool) := Qaa.l0 k l0 l1 0
theorem Qaa.mono_l : ∀ k, (∀ y0 y1 y2, LeO (Qaa.l0 k y0 y1 y2) (Qaa.l0 (k + 1) y0 y1 y2)) ∧ (∀ y0 y1 y2 y3, LeO (Qaa.j1 k y0 y1 y2 y3) (Qaa.j1 (k + 1) y0 y1 y2 y3))
 | 0 => ⟨fun _ _ _ r h => by simp [Qaa.l0] at h, fun _ _ _ _ r h => by simp [Qaa.j1] at h⟩
 | k + 1 => by
  obtain ⟨ih0, ih1⟩ := Qaa.mono_l k
  refine ⟨?_, ?_⟩
  ·intro y0 y1 y2
   unfold Qaa.l0
   exact ZM2 ih0 ih1
  intro y0 y1 y2 y3
  unfold Qaa.j1
  exact ZM2 ih0 ih1
theorem Qaa.mono : ∀ a0 a1 k, LeO (Qaa.f k a0 a1) (Qaa.f (k + 1) a0 a1) := by
 intro a0 a1 k
 obtain ⟨ih0, ih1⟩ := Qaa.mono_l k
 unfold Qaa.f
 exact ZM2 ih0 ih1
theorem Qaa.calls (k : Nat) (A0 : Option Addr) (c0 : Nat) (l0 : List Int) (A1 : Option Addr) (c1 : Nat) (l1 : List Int) (r : Bool) (w : World) (hr0 : Kd.C (Kd.int .i64) w A0 l0.length l0) (hc0 : l0.length ≤ c0) (hr1 : Kd.C (Kd.int .i64) w A1 l1.length l1) (hc1 : l1.length ≤ c1) (h : Qaa.f k l0 l1 = some r) :
  Calls Try.prog 46 #[.slice A0 l0.length c0, .slice A1 l1.length c1] w fun e w' => e = .returned (.bool r) ∧ Drawn0 w w' := by
 have HR0 := Aside0.mk hr0
 have HC0 := Aside0.mk hc0
 clear hr0 hc0
 have HR1 := Aside0.mk hr1
 have HC1 := Aside0.mk hc1
 clear hr1 hc1
 have H : (Qaa.l0 k l0 l1 0) = some r := h
 clear h
 have H' := Aside0.mk H
 clear H
 go_enter Try.func46, Try.ntmps46
 go_wp2
 repeat (go_quiet (fail); try go_wp2)
 go_loopg [5] k (fun kq v5 w' => ∃ (x5_1 : Int), v5 = .int .i64 x5_1 ∧ Aside0 (Qaa.l0 kq l0 l1 x5_1 = some r) ∧ Aside0 (kq ≤ k) ∧ Drawn0 w w')
 case atStart => exact ⟨(0), (Zs), H', ⟨Nat.le_refl _⟩, Zd⟩
 case round =>
  clear H'
  try clear c1
  try clear p2
  obtain ⟨x5_1, rfl, HA, HK1, ⟨m1, rfl⟩⟩ := hrel
  cases gk with
  | zero => exact absurd HA.out (by simp [Qaa.l0])
  | succ k1 =>
   have H := HA.out
   clear HA
   simp only [Qaa.l0] at H
   have HC3 := Aside0.mk H
   clear H
   go_upto_region 2 with (fail)
   repeat (go_quiet (fail); go_upto_region 2 with (fail))
   go_cut [15] (fun v15 wc => ∃ (kq : Nat) (x15_2 : Bool), v15 = .bool x15_2 ∧ Aside0 (Qaa.j1 kq l0 l1 x5_1 x15_2 = some r) ∧ Aside0 (kq ≤ k1) ∧ Drawn0 w wc)
   case first =>
    have H := HC3.out
    clear HC3
    by_cases c4 : x5_1 < (l0.length : Int)
    ·rw [if_pos c4] at H
     have c4b0 : decide (x5_1 < (l0.length : Int)) = T := decide_eq_true c4
     clear c4
     have H' := Aside0.mk H
     clear H
     go_wp2
     repeat (go_quiet (fail); try go_wp2)
     go_meet
     case rel => exact ⟨_, (decide (x5_1 < (l1.length : Int))), (Zs), H', ⟨by have := HK1.out; first | omega | exact Nat.le_refl _⟩, Zd⟩
    rw [if_neg c4] at H
    have c4b0 : decide (x5_1 < (l0.length : Int)) = F := decide_eq_false c4
    clear c4
    have H' := Aside0.mk H
    clear H
    go_wp2
    repeat (go_quiet (fail); try go_wp2)
    go_meet
    case rel => exact ⟨_, (F), (Zs), H', ⟨by have := HK1.out; first | omega | exact Nat.le_refl _⟩, Zd⟩
   case rest =>
    clear HC3
    try clear c1
    try clear p2
    try clear c4
    try clear c4b0
    try clear p2
    obtain ⟨kq, x15_2, rfl, HA, HJ2, ⟨mc2, rfl⟩⟩ := hcut
    cases kq with
    | zero => exact absurd HA.out (by simp [Qaa.j1])
    | succ kj2 =>
     have H := HA.out
     clear HA
     simp only [Qaa.j1] at H
     by_cases c5 : x15_2 = T
     ·subst c5
      have H1 : (if 0 ≤ x5_1 then (if x5_1 < (l0.length : Int) then (if x5_1 < (l1.length : Int) then (if (rd l0 x5_1) = (rd l1 x5_1) then (Qaa.l0 kj2 l0 l1 (wrap64 (x5_1 + 1))) else (some F)) else (none)) else (none)) else (none)) = some r := by rw [if_pos rfl] at H; exact H
      clear H
      have H := H1
      clear H1
      by_cases c6 : 0 ≤ x5_1
      ·rw [if_pos c6] at H
       have c6b0 : decide (0 ≤ x5_1) = T := decide_eq_true c6
       clear c6
       (try simp only [c6b0])
       by_cases c7 : x5_1 < (l0.length : Int)
       ·rw [if_pos c7] at H
        have c7b0 : decide (x5_1 < (l0.length : Int)) = T := decide_eq_true c7
        clear c7
        by_cases c8 : x5_1 < (l1.length : Int)
        ·rw [if_pos c8] at H
         have c8b0 : decide (x5_1 < (l1.length : Int)) = T := decide_eq_true c8
         clear c8
         have p857 : 0 ≤ (x5_1 : Int) := Ze
         have q857 : x5_1 < (l0.length : Int) := Ze
         obtain ⟨ad857, e857, hx857_0⟩ := Kd.at_int HR0.out x5_1 p857 q857
         cases e857
         replace p857 := eq_true p857
         replace q857 := eq_true q857
         have p858 : 0 ≤ (x5_1 : Int) := Ze
         have q858 : x5_1 < (l1.length : Int) := Ze
         obtain ⟨ad858, e858, hx858_0⟩ := Kd.at_int HR1.out x5_1 p858 q858
         cases e858
         replace p858 := eq_true p858
         replace q858 := eq_true q858
         go_upto_if 26 with (fail)
         repeat (go_quiet (fail); go_upto_if 26 with (fail))
         by_cases c9 : (rd l0 x5_1) = (rd l1 x5_1)
         ·rw [if_pos c9] at H
          have c9b0 : ((rd l0 x5_1) == (rd l1 x5_1)) = T := beq_iff_eq.mpr c9
          have c9b1 : ((rd l0 x5_1) != (rd l1 x5_1)) = F := bne_eq_false_iff_eq.mpr c9
          clear c9
          (try simp only [c9b0, c9b1])
          have H' := Aside0.mk H
          clear H
          go_wp2
          repeat (go_quiet (fail); try go_wp2)
          go_roundg kj2
          case measure => have := HK1.out; have := HJ2.out; omega
          case rel => exact ⟨(wrap64 (x5_1 + 1)), (Zs), H', ⟨by have := HK1.out; have := HJ2.out; omega⟩, Zd⟩
         rw [if_neg c9] at H
         have c9b0 : ((rd l0 x5_1) == (rd l1 x5_1)) = F := beq_eq_false_iff_ne.mpr c9
         have c9b1 : ((rd l0 x5_1) != (rd l1 x5_1)) = T := bne_iff_ne.mpr c9
         (try simp only [c9b0, c9b1])
         obtain rfl := Option.some.inj H
         go_wp2
         repeat (go_quiet (fail); try go_wp2)
         go_ret
         exact ⟨Zs, Zd⟩
        rw [if_neg c8] at H
        exact absurd H (by simp)
       rw [if_neg c7] at H
       exact absurd H (by simp)
      rw [if_neg c6] at H
      exact absurd H (by simp)
     replace c5 := Bool.eq_false_iff.mpr c5
     subst c5
     have H1 : (some ((l0.length : Int) == (l1.length : Int))) = some r := by rw [if_neg (show ¬ (F = T) by decide)] at H; exact H
     clear H
     have H := H1
     clear H1
     obtain rfl := Option.some.inj H
     go_wp2
     repeat (go_quiet (fail); try go_wp2)
     go_ret
     exact ⟨Zs, Zd⟩
def Qao.f (k : Nat)  : Option (Bool) := (some (([(⟨(⟨#[97]⟩ : ByteArray), (⟨#[98]⟩ : ByteArray), 1, 2, 500⟩ : S75)] : List (S75)) : List (S75))).bind fun y859 => ((Qab.f k (([(⟨#[97]⟩ : ByteArray), (⟨#[98]⟩ : ByteArray)] : List ByteArray)) (([3000, (-5000)] : List Int)) (([900, 1000] : List Int)) y859).bind fun bt871 => ((Qab.f k (([(⟨#[97]⟩ : ByteArray), (⟨#[98]⟩ : ByteArray)] : List ByteArray)) (([3000, 5000] : List Int)) (([900, 1000] : List Int)) y859).bind fun bt887 => ((Qaa.f k bt871.1 (([300, 400] : List Int))).bind fun t897 => (if t897 = T then ((Qaa.f k bt871.2.1 (([1000, (-1000)] : List Int))).bind fun t901 => (if t901 = T then (if bt871.2.2 = 0 then ((Qaa.f k bt887.1 (([0, 0] : List Int))).bind fun t905 => (if t905 = T then (some (bt887.2.2 == 0)) else (some F))) else (some F)) else (some F))) else (some F)))))
theorem Qao.mono : ∀ k, LeO (Qao.f k ) (Qao.f (k + 1) ) := by
 intro  k
 unfold Qao.f
 exact ZM2 Qaa.mono Qab.mono
theorem Qao.calls (k : Nat)  (r : Bool) (w : World) (h : Qao.f k  = some r) :
  Calls Try.prog 47 #[] w fun e w' => e = .returned (.bool r) ∧ Below w.heap.size w w' := by
 have hu75 := Try.underlying75
 have HB := Aside0.mk (Below.refl w.heap.size w)
 have H : ((some (([(⟨(⟨#[97]⟩ : ByteArray), (⟨#[98]⟩ : ByteArray), 1, 2, 500⟩ : S75)] : List (S75)) : List (S75))).bind fun y859 => ((Qab.f k (([(⟨#[97]⟩ : ByteArray), (⟨#[98]⟩ : ByteArray)] : List ByteArray)) (([3000, (-5000)] : List Int)) (([900, 1000] : List Int)) y859).bind fun bt871 => ((Qab.f k (([(⟨#[97]⟩ : ByteArray), (⟨#[98]⟩ : ByteArray)] : List ByteArray)) (([3000, 5000] : List Int)) (([900, 1000] : List Int)) y859).bind fun bt887 => ((Qaa.f k bt871.1 (([300, 400] : List Int))).bind fun t897 => (if t897 = T then ((Qaa.f k bt871.2.1 (([1000, (-1000)] : List Int))).bind fun t901 => (if t901 = T then (if bt871.2.2 = 0 then ((Qaa.f k bt887.1 (([0, 0] : List Int))).bind fun t905 => (if t905 = T then (some (bt887.2.2 == 0)) else (some F))) else (some F)) else (some F))) else (some F)))))) = some r := h
 clear h
 obtain ⟨y859, hy859⟩ : ∃ y_ : List (S75), y_ = (([(⟨(⟨#[97]⟩ : ByteArray), (⟨#[98]⟩ : ByteArray), 1, 2, 500⟩ : S75)] : List (S75))) := ⟨_, rfl⟩
 replace H : ((Qab.f k (([(⟨#[97]⟩ : ByteArray), (⟨#[98]⟩ : ByteArray)] : List ByteArray)) (([3000, (-5000)] : List Int)) (([900, 1000] : List Int)) y859).bind fun bt871 => ((Qab.f k (([(⟨#[97]⟩ : ByteArray), (⟨#[98]⟩ : ByteArray)] : List ByteArray)) (([3000, 5000] : List Int)) (([900, 1000] : List Int)) y859).bind fun bt887 => ((Qaa.f k bt871.1 (([300, 400] : List Int))).bind fun t897 => (if t897 = T then ((Qaa.f k bt871.2.1 (([1000, (-1000)] : List Int))).bind fun t901 => (if t901 = T then (if bt871.2.2 = 0 then ((Qaa.f k bt887.1 (([0, 0] : List Int))).bind fun t905 => (if t905 = T then (some (bt887.2.2 == 0)) else (some F))) else (some F)) else (some F))) else (some F))))) = some r := by first | (rw [hy859]; with_reducible exact H) | (have H2_ := (Option.bind_some _ _).symm.trans H; rw [hy859]; with_reducible exact H2_) | (have H2_ := (Option.bind_some _ _).symm.trans H; with_reducible exact H2_) | with_reducible exact H | (rw [hy859]; exact H) | exact H
 have Ny859 := Aside0.mk hy859
 clear hy859
 obtain ⟨y862, hy862⟩ : ∃ y_ : List ByteArray, y_ = (([(⟨#[97]⟩ : ByteArray), (⟨#[98]⟩ : ByteArray)] : List ByteArray)) := ⟨_, rfl⟩
 replace H : ((Qab.f k y862 (([3000, (-5000)] : List Int)) (([900, 1000] : List Int)) y859).bind fun bt871 => ((Qab.f k (([(⟨#[97]⟩ : ByteArray), (⟨#[98]⟩ : ByteArray)] : List ByteArray)) (([3000, 5000] : List Int)) (([900, 1000] : List Int)) y859).bind fun bt887 => ((Qaa.f k bt871.1 (([300, 400] : List Int))).bind fun t897 => (if t897 = T then ((Qaa.f k bt871.2.1 (([1000, (-1000)] : List Int))).bind fun t901 => (if t901 = T then (if bt871.2.2 = 0 then ((Qaa.f k bt887.1 (([0, 0] : List Int))).bind fun t905 => (if t905 = T then (some (bt887.2.2 == 0)) else (some F))) else (some F)) else (some F))) else (some F))))) = some r := by first | (rw [hy862]; with_reducible exact H) | (have H2_ := (Option.bind_some _ _).symm.trans H; rw [hy862]; with_reducible exact H2_) | (have H2_ := (Option.bind_some _ _).symm.trans H; with_reducible exact H2_) | with_reducible exact H | (rw [hy862]; exact H) | exact H
 have Ny862 := Aside0.mk hy862
 clear hy862
 obtain ⟨y865, hy865⟩ : ∃ y_ : List Int, y_ = (([3000, (-5000)] : List Int)) := ⟨_, rfl⟩
 replace H : ((Qab.f k y862 y865 (([900, 1000] : List Int)) y859).bind fun bt871 => ((Qab.f k (([(⟨#[97]⟩ : ByteArray), (⟨#[98]⟩ : ByteArray)] : List ByteArray)) (([3000, 5000] : List Int)) (([900, 1000] : List Int)) y859).bind fun bt887 => ((Qaa.f k bt871.1 (([300, 400] : List Int))).bind fun t897 => (if t897 = T then ((Qaa.f k bt871.2.1 (([1000, (-1000)] : List Int))).bind fun t901 => (if t901 = T then (if bt871.2.2 = 0 then ((Qaa.f k bt887.1 (([0, 0] : List Int))).bind fun t905 => (if t905 = T then (some (bt887.2.2 == 0)) else (some F))) else (some F)) else (some F))) else (some F))))) = some r := by first | (rw [hy865]; with_reducible exact H) | (have H2_ := (Option.bind_some _ _).symm.trans H; rw [hy865]; with_reducible exact H2_) | (have H2_ := (Option.bind_some _ _).symm.trans H; with_reducible exact H2_) | with_reducible exact H | (rw [hy865]; exact H) | exact H
 have Ny865 := Aside0.mk hy865
 clear hy865
 obtain ⟨y868, hy868⟩ : ∃ y_ : List Int, y_ = (([900, 1000] : List Int)) := ⟨_, rfl⟩
 replace H : ((Qab.f k y862 y865 y868 y859).bind fun bt871 => ((Qab.f k (([(⟨#[97]⟩ : ByteArray), (⟨#[98]⟩ : ByteArray)] : List ByteArray)) (([3000, 5000] : List Int)) (([900, 1000] : List Int)) y859).bind fun bt887 => ((Qaa.f k bt871.1 (([300, 400] : List Int))).bind fun t897 => (if t897 = T then ((Qaa.f k bt871.2.1 (([1000, (-1000)] : List Int))).bind fun t901 => (if t901 = T then (if bt871.2.2 = 0 then ((Qaa.f k bt887.1 (([0, 0] : List Int))).bind fun t905 => (if t905 = T then (some (bt887.2.2 == 0)) else (some F))) else (some F)) else (some F))) else (some F))))) = some r := by first | (rw [hy868]; with_reducible exact H) | (have H2_ := (Option.bind_some _ _).symm.trans H; rw [hy868]; with_reducible exact H2_) | (have H2_ := (Option.bind_some _ _).symm.trans H; with_reducible exact H2_) | with_reducible exact H | (rw [hy868]; exact H) | exact H
 have Ny868 := Aside0.mk hy868
 clear hy868
 replace H := Option.bind_eq_some_iff.mp H
 obtain ⟨⟨t871, t872, t873⟩, A10, H⟩ := H
 replace H : ((Qab.f k (([(⟨#[97]⟩ : ByteArray), (⟨#[98]⟩ : ByteArray)] : List ByteArray)) (([3000, 5000] : List Int)) (([900, 1000] : List Int)) y859).bind fun bt887 => ((Qaa.f k t871 (([300, 400] : List Int))).bind fun t897 => (if t897 = T then ((Qaa.f k t872 (([1000, (-1000)] : List Int))).bind fun t901 => (if t901 = T then (if t873 = 0 then ((Qaa.f k bt887.1 (([0, 0] : List Int))).bind fun t905 => (if t905 = T then (some (bt887.2.2 == 0)) else (some F))) else (some F)) else (some F))) else (some F)))) = some r := H
 have A1 := Aside0.mk A10
 clear A10
 obtain ⟨y878, hy878⟩ : ∃ y_ : List ByteArray, y_ = (([(⟨#[97]⟩ : ByteArray), (⟨#[98]⟩ : ByteArray)] : List ByteArray)) := ⟨_, rfl⟩
 replace H : ((Qab.f k y878 (([3000, 5000] : List Int)) (([900, 1000] : List Int)) y859).bind fun bt887 => ((Qaa.f k t871 (([300, 400] : List Int))).bind fun t897 => (if t897 = T then ((Qaa.f k t872 (([1000, (-1000)] : List Int))).bind fun t901 => (if t901 = T then (if t873 = 0 then ((Qaa.f k bt887.1 (([0, 0] : List Int))).bind fun t905 => (if t905 = T then (some (bt887.2.2 == 0)) else (some F))) else (some F)) else (some F))) else (some F)))) = some r := by first | (rw [hy878]; with_reducible exact H) | (have H2_ := (Option.bind_some _ _).symm.trans H; rw [hy878]; with_reducible exact H2_) | (have H2_ := (Option.bind_some _ _).symm.trans H; with_reducible exact H2_) | with_reducible exact H | (rw [hy878]; exact H) | exact H
 have Ny878 := Aside0.mk hy878
 clear hy878
 obtain ⟨y881, hy881⟩ : ∃ y_ : List Int, y_ = (([3000, 5000] : List Int)) := ⟨_, rfl⟩
 replace H : ((Qab.f k y878 y881 (([900, 1000] : List Int)) y859).bind fun bt887 => ((Qaa.f k t871 (([300, 400] : List Int))).bind fun t897 => (if t897 = T then ((Qaa.f k t872 (([1000, (-1000)] : List Int))).bind fun t901 => (if t901 = T then (if t873 = 0 then ((Qaa.f k bt887.1 (([0, 0] : List Int))).bind fun t905 => (if t905 = T then (some (bt887.2.2 == 0)) else (some F))) else (some F)) else (some F))) else (some F)))) = some r := by first | (rw [hy881]; with_reducible exact H) | (have H2_ := (Option.bind_some _ _).symm.trans H; rw [hy881]; with_reducible exact H2_) | (have H2_ := (Option.bind_some _ _).symm.trans H; with_reducible exact H2_) | with_reducible exact H | (rw [hy881]; exact H) | exact H
 have Ny881 := Aside0.mk hy881
 clear hy881
 obtain ⟨y884, hy884⟩ : ∃ y_ : List Int, y_ = (([900, 1000] : List Int)) := ⟨_, rfl⟩
 replace H : ((Qab.f k y878 y881 y884 y859).bind fun bt887 => ((Qaa.f k t871 (([300, 400] : List Int))).bind fun t897 => (if t897 = T then ((Qaa.f k t872 (([1000, (-1000)] : List Int))).bind fun t901 => (if t901 = T then (if t873 = 0 then ((Qaa.f k bt887.1 (([0, 0] : List Int))).bind fun t905 => (if t905 = T then (some (bt887.2.2 == 0)) else (some F))) else (some F)) else (some F))) else (some F)))) = some r := by first | (rw [hy884]; with_reducible exact H) | (have H2_ := (Option.bind_some _ _).symm.trans H; rw [hy884]; with_reducible exact H2_) | (have H2_ := (Option.bind_some _ _).symm.trans H; with_reducible exact H2_) | with_reducible exact H | (rw [hy884]; exact H) | exact H
 have Ny884 := Aside0.mk hy884
 clear hy884
 replace H := Option.bind_eq_some_iff.mp H
 obtain ⟨⟨t887, t888, t889⟩, A20, H⟩ := H
 replace H : ((Qaa.f k t871 (([300, 400] : List Int))).bind fun t897 => (if t897 = T then ((Qaa.f k t872 (([1000, (-1000)] : List Int))).bind fun t901 => (if t901 = T then (if t873 = 0 then ((Qaa.f k t887 (([0, 0] : List Int))).bind fun t905 => (if t905 = T then (some (t889 == 0)) else (some F))) else (some F)) else (some F))) else (some F))) = some r := H
 have A2 := Aside0.mk A20
 clear A20
 go_enter Try.func47, Try.ntmps47
 go_upto_region 4 with (first | ((with_reducible refine Qaz (N := 9) rfl ?_); (try (refine QaC (by rfl) ?_; dsimp only)); refine Kd.R_lit k75 _ 75 ?hg (N := 9) ?hd (xs := ([(⟨(⟨#[97]⟩ : ByteArray), (⟨#[98]⟩ : ByteArray), 1, 2, 500⟩ : S75)] : List (S75))) (inner := [.string (⟨#[97]⟩ : ByteArray), .string (⟨#[98]⟩ : ByteArray), .int .i64 1, .int .i64 2, .int .i64 500]) (ok := fun _ => True) (okp := fun _ => True) ?hr ?hp (fun _ hk => hk) trivial (Below.refl _ _) (Nat.le_refl _) (by simp) ?_; (case hd => rfl); (case hg => rfl); (case hr => first | (go_simp; done) | (go_simp; rfl)); (case hp => exact (Reps.c5 (show Kd.M k75 _ _ _ (⟨(⟨#[97]⟩ : ByteArray), (⟨#[98]⟩ : ByteArray), 1, 2, 500⟩ : S75) [.string (⟨#[97]⟩ : ByteArray), .string (⟨#[98]⟩ : ByteArray), .int .i64 1, .int .i64 2, .int .i64 500] from (QdL _ _ _ (⟨(⟨#[97]⟩ : ByteArray), (⟨#[98]⟩ : ByteArray), 1, 2, 500⟩ : S75) )) (Reps.none _ _))); intro v860 w3 ho4 hb hg_ hnew_; clear hg_ hnew_; (first | rw [← Ny859.out] at ho4 | (simp only [Int.reduceToNat] at ho4; rw [← Ny859.out] at ho4)); have HO861 := Aside0.mk (Kd.R_lower ho4 (Qam (Zb))); replace HB := Aside0.mk (Qaj (Zb) hb); clear hb ho4) | ((with_reducible refine Qaz (N := 11) rfl ?_); (try (refine QaC (by rfl) ?_; dsimp only)); refine Kd.R_lit Kd.string _ 9 ?hg (N := 11) ?hd (xs := ([(⟨#[97]⟩ : ByteArray), (⟨#[98]⟩ : ByteArray)] : List ByteArray)) (inner := [.string (⟨#[97]⟩ : ByteArray), .string (⟨#[98]⟩ : ByteArray)]) (ok := fun _ => True) (okp := fun _ => True) ?hr ?hp (fun _ hk => hk) trivial (Below.refl _ _) (Nat.le_refl _) (by simp) ?_; (case hd => rfl); (case hg => rfl); (case hr => first | (go_simp; done) | (go_simp; rfl)); (case hp => exact (Reps.one (show Kd.M Kd.string _ _ _ (⟨#[97]⟩ : ByteArray) [.string (⟨#[97]⟩ : ByteArray)] from rfl) (Reps.one (show Kd.M Kd.string _ _ _ (⟨#[98]⟩ : ByteArray) [.string (⟨#[98]⟩ : ByteArray)] from rfl) (Reps.none _ _)))); intro v863 w5 ho6 hb hg_ hnew_; clear hg_ hnew_; (first | rw [← Ny862.out] at ho6 | (simp only [Int.reduceToNat] at ho6; rw [← Ny862.out] at ho6)); have HO864 := Aside0.mk (Kd.R_lower ho6 (Qam (Zb))); replace HO861 := Aside0.mk (Kd.R_below (Zr HO861.out) hb); replace HB := Aside0.mk (Qaj (Zb) hb); clear hb ho6) | ((with_reducible refine Qaz (N := 12) rfl ?_); (try (refine QaC (by rfl) ?_; dsimp only)); refine Kd.R_lit (Kd.int .i64) _ 3 ?hg (N := 12) ?hd (xs := ([3000, (-5000)] : List Int)) (inner := [.int .i64 3000, .int .i64 (-5000)]) (ok := fun _ => True) (okp := fun _ => True) ?hr ?hp (fun _ hk => hk) trivial (Below.refl _ _) (Nat.le_refl _) (by simp) ?_; (case hd => rfl); (case hg => rfl); (case hr => first | (go_simp; done) | (go_simp; rfl)); (case hp => exact (Reps.one (show Kd.M (Kd.int .i64) _ _ _ 3000 [.int .i64 3000] from rfl) (Reps.one (show Kd.M (Kd.int .i64) _ _ _ (-5000) [.int .i64 (-5000)] from rfl) (Reps.none _ _)))); intro v866 w7 ho8 hb hg_ hnew_; clear hg_ hnew_; (first | rw [← Ny865.out] at ho8 | (simp only [Int.reduceToNat] at ho8; rw [← Ny865.out] at ho8)); have HO867 := Aside0.mk (Kd.R_lower ho8 (Qam (Zb))); replace HO861 := Aside0.mk (Kd.R_below (Zr HO861.out) hb); replace HO864 := Aside0.mk (Kd.R_below (Zr HO864.out) hb); replace HB := Aside0.mk (Qaj (Zb) hb); clear hb ho8) | ((with_reducible refine Qaz (N := 13) rfl ?_); (try (refine QaC (by rfl) ?_; dsimp only)); refine Kd.R_lit (Kd.int .i64) _ 3 ?hg (N := 13) ?hd (xs := ([900, 1000] : List Int)) (inner := [.int .i64 900, .int .i64 1000]) (ok := fun _ => True) (okp := fun _ => True) ?hr ?hp (fun _ hk => hk) trivial (Below.refl _ _) (Nat.le_refl _) (by simp) ?_; (case hd => rfl); (case hg => rfl); (case hr => first | (go_simp; done) | (go_simp; rfl)); (case hp => exact (Reps.one (show Kd.M (Kd.int .i64) _ _ _ 900 [.int .i64 900] from rfl) (Reps.one (show Kd.M (Kd.int .i64) _ _ _ 1000 [.int .i64 1000] from rfl) (Reps.none _ _)))); intro v869 w9 ho10 hb hg_ hnew_; clear hg_ hnew_; (first | rw [← Ny868.out] at ho10 | (simp only [Int.reduceToNat] at ho10; rw [← Ny868.out] at ho10)); have HO870 := Aside0.mk (Kd.R_lower (Kd.R_new' ho10 (Kd.R_lt (Zr HO867.out))) (Qam (Zb))); replace HO861 := Aside0.mk (Kd.R_below (Zr HO861.out) hb); replace HO864 := Aside0.mk (Kd.R_below (Zr HO864.out) hb); replace HO867 := Aside0.mk (Kd.R_elder' (Zr HO867.out) (Kd.R_base ho10) hb); replace HB := Aside0.mk (Qaj (Zb) hb); clear hb ho10; obtain ⟨Ao11, co11, eo11⟩ := Kd.R_slice HO864.out; subst eo11; obtain ⟨Ao12, co12, eo12⟩ := Kd.R_slice HO867.out; subst eo12; obtain ⟨Ao13, co13, eo13⟩ := Kd.R_slice HO870.out; subst eo13; obtain ⟨Ao14, co14, eo14⟩ := Kd.R_slice HO861.out; subst eo14) | ((with_reducible refine QaD (f := 42) rfl ?_); refine goesL_ (some 15) rfl rfl Try.func42 (by kernel_rfl) rfl #[.slice Ao11 y862.length co11, .slice Ao12 y865.length co12, .slice Ao13 y868.length co13, .slice Ao14 y859.length co14] rfl (Zl) ?_; (with_reducible refine (Qab.calls k _ _ y862 _ _ y865 _ _ y868 _ _ y859 t871 t872 t873 _ ?side1 ?side2 ?side3 ?side4 ?side5 ?side6 ?side7 ?side8 A1.out).mono ?_); (case side1 => exact Zv (Kd.R_reads' HO864.out).2.2); (case side2 => exact (Kd.R_reads' HO864.out).2.1); (case side3 => exact Zv (Kd.R_reads' HO867.out).2.2); (case side4 => exact (Kd.R_reads' HO867.out).2.1); (case side5 => exact Zv (Kd.R_reads' HO870.out).2.2); (case side6 => exact (Kd.R_reads' HO870.out).2.1); (case side7 => exact Zv (Kd.R_reads' HO861.out).2.2); (case side8 => exact (Kd.R_reads' HO861.out).2.1); rintro e w15 ⟨v874, v876, rfl, ho0, ho1, hb⟩; refine ⟨_, rfl, ?_⟩; have HO875 := Aside0.mk (Kd.R_lower (Kd.R_new' (Kd.R_new' ho0 (Kd.R_lt (Zr HO867.out))) (Kd.R_lt (Zr HO870.out))) (Qam (Zb))); have HO877 := Aside0.mk (Kd.R_lower (Kd.R_new' (Kd.R_new' ho1 (Kd.R_lt (Zr HO867.out))) (Kd.R_lt (Zr HO870.out))) (Qam (Zb))); replace HO861 := Aside0.mk (Kd.R_below (Zr HO861.out) hb); replace HO864 := Aside0.mk (Kd.R_below (Zr HO864.out) hb); replace HO867 := Aside0.mk (Kd.R_mono (Kd.R_told (Kd.R_told (Kd.R_old (Zr HO867.out) hb) (Kd.R_base ho0)) (Kd.R_base ho1)) (fun _ h_ => h_.1)); replace HO870 := Aside0.mk (Kd.R_mono (Kd.R_told (Kd.R_told (Kd.R_old (Zr HO870.out) hb) (Kd.R_base ho0)) (Kd.R_base ho1)) (fun _ h_ => h_.1)); replace HB := Aside0.mk (Qaj (Zb) hb); (try clear hb); (try clear hb2); (try clear hk); (try clear hi); (try clear ho0); (try clear ho1)) | ((with_reducible refine Qaz (N := 20) rfl ?_); (try (refine QaC (by rfl) ?_; dsimp only)); refine Kd.R_lit Kd.string _ 9 ?hg (N := 20) ?hd (xs := ([(⟨#[97]⟩ : ByteArray), (⟨#[98]⟩ : ByteArray)] : List ByteArray)) (inner := [.string (⟨#[97]⟩ : ByteArray), .string (⟨#[98]⟩ : ByteArray)]) (ok := fun _ => True) (okp := fun _ => True) ?hr ?hp (fun _ hk => hk) trivial (Below.refl _ _) (Nat.le_refl _) (by simp) ?_; (case hd => rfl); (case hg => rfl); (case hr => first | (go_simp; done) | (go_simp; rfl)); (case hp => exact (Reps.one (show Kd.M Kd.string _ _ _ (⟨#[97]⟩ : ByteArray) [.string (⟨#[97]⟩ : ByteArray)] from rfl) (Reps.one (show Kd.M Kd.string _ _ _ (⟨#[98]⟩ : ByteArray) [.string (⟨#[98]⟩ : ByteArray)] from rfl) (Reps.none _ _)))); intro v879 w16 ho17 hb hg_ hnew_; clear hg_ hnew_; (first | rw [← Ny878.out] at ho17 | (simp only [Int.reduceToNat] at ho17; rw [← Ny878.out] at ho17)); have HO880 := Aside0.mk (Kd.R_lower (Kd.R_new' ho17 (Kd.R_lt (Zr HO864.out))) (Qam (Zb))); replace HO861 := Aside0.mk (Kd.R_below (Zr HO861.out) hb); replace HO864 := Aside0.mk (Kd.R_elder' (Zr HO864.out) (Kd.R_base ho17) hb); replace HO867 := Aside0.mk (Kd.R_below (Zr HO867.out) hb); replace HO870 := Aside0.mk (Kd.R_below (Zr HO870.out) hb); replace HO875 := Aside0.mk (Kd.R_below (Zr HO875.out) hb); replace HO877 := Aside0.mk (Kd.R_below (Zr HO877.out) hb); replace HB := Aside0.mk (Qaj (Zb) hb); clear hb ho17) | ((with_reducible refine Qaz (N := 21) rfl ?_); (try (refine QaC (by rfl) ?_; dsimp only)); refine Kd.R_lit (Kd.int .i64) _ 3 ?hg (N := 21) ?hd (xs := ([3000, 5000] : List Int)) (inner := [.int .i64 3000, .int .i64 5000]) (ok := fun _ => True) (okp := fun _ => True) ?hr ?hp (fun _ hk => hk) trivial (Below.refl _ _) (Nat.le_refl _) (by simp) ?_; (case hd => rfl); (case hg => rfl); (case hr => first | (go_simp; done) | (go_simp; rfl)); (case hp => exact (Reps.one (show Kd.M (Kd.int .i64) _ _ _ 3000 [.int .i64 3000] from rfl) (Reps.one (show Kd.M (Kd.int .i64) _ _ _ 5000 [.int .i64 5000] from rfl) (Reps.none _ _)))); intro v882 w18 ho19 hb hg_ hnew_; clear hg_ hnew_; (first | rw [← Ny881.out] at ho19 | (simp only [Int.reduceToNat] at ho19; rw [← Ny881.out] at ho19)); have HO883 := Aside0.mk (Kd.R_lower (Kd.R_new' (Kd.R_new' (Kd.R_new' (Kd.R_new' ho19 (Kd.R_lt (Zr HO867.out))) (Kd.R_lt (Zr HO870.out))) (Kd.R_lt (Zr HO875.out))) (Kd.R_lt (Zr HO877.out))) (Qam (Zb))); replace HO861 := Aside0.mk (Kd.R_below (Zr HO861.out) hb); replace HO864 := Aside0.mk (Kd.R_below (Zr HO864.out) hb); replace HO867 := Aside0.mk (Kd.R_elder' (Zr HO867.out) (Kd.R_base ho19) hb); replace HO870 := Aside0.mk (Kd.R_elder' (Zr HO870.out) (Kd.R_base ho19) hb); replace HO875 := Aside0.mk (Kd.R_elder' (Zr HO875.out) (Kd.R_base ho19) hb); replace HO877 := Aside0.mk (Kd.R_elder' (Zr HO877.out) (Kd.R_base ho19) hb); replace HO880 := Aside0.mk (Kd.R_below (Zr HO880.out) hb); replace HB := Aside0.mk (Qaj (Zb) hb); clear hb ho19) | ((with_reducible refine Qaz (N := 22) rfl ?_); (try (refine QaC (by rfl) ?_; dsimp only)); refine Kd.R_lit (Kd.int .i64) _ 3 ?hg (N := 22) ?hd (xs := ([900, 1000] : List Int)) (inner := [.int .i64 900, .int .i64 1000]) (ok := fun _ => True) (okp := fun _ => True) ?hr ?hp (fun _ hk => hk) trivial (Below.refl _ _) (Nat.le_refl _) (by simp) ?_; (case hd => rfl); (case hg => rfl); (case hr => first | (go_simp; done) | (go_simp; rfl)); (case hp => exact (Reps.one (show Kd.M (Kd.int .i64) _ _ _ 900 [.int .i64 900] from rfl) (Reps.one (show Kd.M (Kd.int .i64) _ _ _ 1000 [.int .i64 1000] from rfl) (Reps.none _ _)))); intro v885 w20 ho21 hb hg_ hnew_; clear hg_ hnew_; (first | rw [← Ny884.out] at ho21 | (simp only [Int.reduceToNat] at ho21; rw [← Ny884.out] at ho21)); have HO886 := Aside0.mk (Kd.R_lower (Kd.R_new' (Kd.R_new' (Kd.R_new' (Kd.R_new' (Kd.R_new' ho21 (Kd.R_lt (Zr HO867.out))) (Kd.R_lt (Zr HO870.out))) (Kd.R_lt (Zr HO875.out))) (Kd.R_lt (Zr HO877.out))) (Kd.R_lt (Zr HO883.out))) (Qam (Zb))); replace HO861 := Aside0.mk (Kd.R_below (Zr HO861.out) hb); replace HO864 := Aside0.mk (Kd.R_below (Zr HO864.out) hb); replace HO867 := Aside0.mk (Kd.R_elder' (Zr HO867.out) (Kd.R_base ho21) hb); replace HO870 := Aside0.mk (Kd.R_elder' (Zr HO870.out) (Kd.R_base ho21) hb); replace HO875 := Aside0.mk (Kd.R_elder' (Zr HO875.out) (Kd.R_base ho21) hb); replace HO877 := Aside0.mk (Kd.R_elder' (Zr HO877.out) (Kd.R_base ho21) hb); replace HO880 := Aside0.mk (Kd.R_below (Zr HO880.out) hb); replace HO883 := Aside0.mk (Kd.R_elder' (Zr HO883.out) (Kd.R_base ho21) hb); replace HB := Aside0.mk (Qaj (Zb) hb); clear hb ho21; obtain ⟨Ao22, co22, eo22⟩ := Kd.R_slice HO880.out; subst eo22; obtain ⟨Ao23, co23, eo23⟩ := Kd.R_slice HO883.out; subst eo23; obtain ⟨Ao24, co24, eo24⟩ := Kd.R_slice HO886.out; subst eo24) | ((with_reducible refine QaD (f := 42) rfl ?_); refine goesL_ (some 24) rfl rfl Try.func42 (by kernel_rfl) rfl #[.slice Ao22 y878.length co22, .slice Ao23 y881.length co23, .slice Ao24 y884.length co24, .slice Ao14 y859.length co14] rfl (Zl) ?_; (with_reducible refine (Qab.calls k _ _ y878 _ _ y881 _ _ y884 _ _ y859 t887 t888 t889 _ ?side1 ?side2 ?side3 ?side4 ?side5 ?side6 ?side7 ?side8 A2.out).mono ?_); (case side1 => exact Zv (Kd.R_reads' HO880.out).2.2); (case side2 => exact (Kd.R_reads' HO880.out).2.1); (case side3 => exact Zv (Kd.R_reads' HO883.out).2.2); (case side4 => exact (Kd.R_reads' HO883.out).2.1); (case side5 => exact Zv (Kd.R_reads' HO886.out).2.2); (case side6 => exact (Kd.R_reads' HO886.out).2.1); (case side7 => exact Zv (Kd.R_reads' HO861.out).2.2); (case side8 => exact (Kd.R_reads' HO861.out).2.1); rintro e w25 ⟨v890, v892, rfl, ho0, ho1, hb⟩; refine ⟨_, rfl, ?_⟩; have HO891 := Aside0.mk (Kd.R_lower (Kd.R_new' (Kd.R_new' (Kd.R_new' (Kd.R_new' (Kd.R_new' (Kd.R_new' ho0 (Kd.R_lt (Zr HO867.out))) (Kd.R_lt (Zr HO870.out))) (Kd.R_lt (Zr HO875.out))) (Kd.R_lt (Zr HO877.out))) (Kd.R_lt (Zr HO883.out))) (Kd.R_lt (Zr HO886.out))) (Qam (Zb))); have HO893 := Aside0.mk (Kd.R_lower (Kd.R_new' (Kd.R_new' (Kd.R_new' (Kd.R_new' (Kd.R_new' (Kd.R_new' ho1 (Kd.R_lt (Zr HO867.out))) (Kd.R_lt (Zr HO870.out))) (Kd.R_lt (Zr HO875.out))) (Kd.R_lt (Zr HO877.out))) (Kd.R_lt (Zr HO883.out))) (Kd.R_lt (Zr HO886.out))) (Qam (Zb))); replace HO861 := Aside0.mk (Kd.R_below (Zr HO861.out) hb); replace HO864 := Aside0.mk (Kd.R_below (Zr HO864.out) hb); replace HO867 := Aside0.mk (Kd.R_mono (Kd.R_told (Kd.R_told (Kd.R_old (Zr HO867.out) hb) (Kd.R_base ho0)) (Kd.R_base ho1)) (fun _ h_ => h_.1)); replace HO870 := Aside0.mk (Kd.R_mono (Kd.R_told (Kd.R_told (Kd.R_old (Zr HO870.out) hb) (Kd.R_base ho0)) (Kd.R_base ho1)) (fun _ h_ => h_.1)); replace HO875 := Aside0.mk (Kd.R_mono (Kd.R_told (Kd.R_told (Kd.R_old (Zr HO875.out) hb) (Kd.R_base ho0)) (Kd.R_base ho1)) (fun _ h_ => h_.1)); replace HO877 := Aside0.mk (Kd.R_mono (Kd.R_told (Kd.R_told (Kd.R_old (Zr HO877.out) hb) (Kd.R_base ho0)) (Kd.R_base ho1)) (fun _ h_ => h_.1)); replace HO880 := Aside0.mk (Kd.R_below (Zr HO880.out) hb); replace HO883 := Aside0.mk (Kd.R_mono (Kd.R_told (Kd.R_told (Kd.R_old (Zr HO883.out) hb) (Kd.R_base ho0)) (Kd.R_base ho1)) (fun _ h_ => h_.1)); replace HO886 := Aside0.mk (Kd.R_mono (Kd.R_told (Kd.R_told (Kd.R_old (Zr HO886.out) hb) (Kd.R_base ho0)) (Kd.R_base ho1)) (fun _ h_ => h_.1)); replace HB := Aside0.mk (Qaj (Zb) hb); (try clear hb); (try clear hb2); (try clear hk); (try clear hi); (try clear ho0); (try clear ho1)))
 (try simp only [Act.put, Zj, Zk, Zm])
 obtain ⟨y894, hy894⟩ : ∃ y_ : List Int, y_ = (([300, 400] : List Int)) := ⟨_, rfl⟩
 replace H : ((Qaa.f k t871 y894).bind fun t897 => (if t897 = T then ((Qaa.f k t872 (([1000, (-1000)] : List Int))).bind fun t901 => (if t901 = T then (if t873 = 0 then ((Qaa.f k t887 (([0, 0] : List Int))).bind fun t905 => (if t905 = T then (some (t889 == 0)) else (some F))) else (some F)) else (some F))) else (some F))) = some r := by first | (rw [hy894]; with_reducible exact H) | (have H2_ := (Option.bind_some _ _).symm.trans H; rw [hy894]; with_reducible exact H2_) | (have H2_ := (Option.bind_some _ _).symm.trans H; with_reducible exact H2_) | with_reducible exact H | (rw [hy894]; exact H) | exact H
 have Ny894 := Aside0.mk hy894
 clear hy894
 replace H := Option.bind_eq_some_iff.mp H
 obtain ⟨t897, A260, H⟩ := H
 replace H : (if t897 = T then ((Qaa.f k t872 (([1000, (-1000)] : List Int))).bind fun t901 => (if t901 = T then (if t873 = 0 then ((Qaa.f k t887 (([0, 0] : List Int))).bind fun t905 => (if t905 = T then (some (t889 == 0)) else (some F))) else (some F)) else (some F))) else (some F)) = some r := H
 have A26 := Aside0.mk A260
 clear A260
 by_cases c27 : t897 = T
 ·subst c27
  have H1 : ((Qaa.f k t872 (([1000, (-1000)] : List Int))).bind fun t901 => (if t901 = T then (if t873 = 0 then ((Qaa.f k t887 (([0, 0] : List Int))).bind fun t905 => (if t905 = T then (some (t889 == 0)) else (some F))) else (some F)) else (some F))) = some r := by rw [if_pos rfl] at H; exact H
  clear H
  have H := H1
  clear H1
  obtain ⟨y898, hy898⟩ : ∃ y_ : List Int, y_ = (([1000, (-1000)] : List Int)) := ⟨_, rfl⟩
  replace H : ((Qaa.f k t872 y898).bind fun t901 => (if t901 = T then (if t873 = 0 then ((Qaa.f k t887 (([0, 0] : List Int))).bind fun t905 => (if t905 = T then (some (t889 == 0)) else (some F))) else (some F)) else (some F))) = some r := by first | (rw [hy898]; with_reducible exact H) | (have H2_ := (Option.bind_some _ _).symm.trans H; rw [hy898]; with_reducible exact H2_) | (have H2_ := (Option.bind_some _ _).symm.trans H; with_reducible exact H2_) | with_reducible exact H | (rw [hy898]; exact H) | exact H
  have Ny898 := Aside0.mk hy898
  clear hy898
  replace H := Option.bind_eq_some_iff.mp H
  obtain ⟨t901, A280, H⟩ := H
  replace H : (if t901 = T then (if t873 = 0 then ((Qaa.f k t887 (([0, 0] : List Int))).bind fun t905 => (if t905 = T then (some (t889 == 0)) else (some F))) else (some F)) else (some F)) = some r := H
  have A28 := Aside0.mk A280
  clear A280
  by_cases c29 : t901 = T
  ·subst c29
   have H1 : (if t873 = 0 then ((Qaa.f k t887 (([0, 0] : List Int))).bind fun t905 => (if t905 = T then (some (t889 == 0)) else (some F))) else (some F)) = some r := by rw [if_pos rfl] at H; exact H
   clear H
   have H := H1
   clear H1
   by_cases c30 : t873 = 0
   ·rw [if_pos c30] at H
    have c30b0 : (t873 == 0) = T := beq_iff_eq.mpr c30
    have c30b1 : (t873 != 0) = F := bne_eq_false_iff_eq.mpr c30
    clear c30
    (try simp only [c30b0, c30b1])
    obtain ⟨y902, hy902⟩ : ∃ y_ : List Int, y_ = (([0, 0] : List Int)) := ⟨_, rfl⟩
    replace H : ((Qaa.f k t887 y902).bind fun t905 => (if t905 = T then (some (t889 == 0)) else (some F))) = some r := by first | (rw [hy902]; with_reducible exact H) | (have H2_ := (Option.bind_some _ _).symm.trans H; rw [hy902]; with_reducible exact H2_) | (have H2_ := (Option.bind_some _ _).symm.trans H; with_reducible exact H2_) | with_reducible exact H | (rw [hy902]; exact H) | exact H
    have Ny902 := Aside0.mk hy902
    clear hy902
    replace H := Option.bind_eq_some_iff.mp H
    obtain ⟨t905, A310, H⟩ := H
    replace H : (if t905 = T then (some (t889 == 0)) else (some F)) = some r := H
    have A31 := Aside0.mk A310
    clear A310
    by_cases c32 : t905 = T
    ·subst c32
     have H1 : (some (t889 == 0)) = some r := by rw [if_pos rfl] at H; exact H
     clear H
     have H := H1
     clear H1
     obtain rfl := Option.some.inj H
     go_wp2_with (first | ((with_reducible refine Qaz (N := 29) rfl ?_); (try (refine QaC (by rfl) ?_; dsimp only)); refine Kd.R_lit (Kd.int .i64) _ 3 ?hg (N := 29) ?hd (xs := ([300, 400] : List Int)) (inner := [.int .i64 300, .int .i64 400]) (ok := fun _ => True) (okp := fun _ => True) ?hr ?hp (fun _ hk => hk) trivial (Below.refl _ _) (Nat.le_refl _) (by simp) ?_; (case hd => rfl); (case hg => rfl); (case hr => first | (go_simp; done) | (go_simp; rfl)); (case hp => exact (Reps.one (show Kd.M (Kd.int .i64) _ _ _ 300 [.int .i64 300] from rfl) (Reps.one (show Kd.M (Kd.int .i64) _ _ _ 400 [.int .i64 400] from rfl) (Reps.none _ _)))); intro v895 w33 ho34 hb hg_ hnew_; clear hg_ hnew_; (first | rw [← Ny894.out] at ho34 | (simp only [Int.reduceToNat] at ho34; rw [← Ny894.out] at ho34)); have HO896 := Aside0.mk (Kd.R_lower (Kd.R_new' (Kd.R_new' (Kd.R_new' (Kd.R_new' (Kd.R_new' (Kd.R_new' (Kd.R_new' (Kd.R_new' ho34 (Kd.R_lt (Zr HO867.out))) (Kd.R_lt (Zr HO870.out))) (Kd.R_lt (Zr HO875.out))) (Kd.R_lt (Zr HO877.out))) (Kd.R_lt (Zr HO883.out))) (Kd.R_lt (Zr HO886.out))) (Kd.R_lt (Zr HO891.out))) (Kd.R_lt (Zr HO893.out))) (Qam (Zb))); replace HO861 := Aside0.mk (Kd.R_below (Zr HO861.out) hb); replace HO864 := Aside0.mk (Kd.R_below (Zr HO864.out) hb); replace HO867 := Aside0.mk (Kd.R_elder' (Zr HO867.out) (Kd.R_base ho34) hb); replace HO870 := Aside0.mk (Kd.R_elder' (Zr HO870.out) (Kd.R_base ho34) hb); replace HO875 := Aside0.mk (Kd.R_elder' (Zr HO875.out) (Kd.R_base ho34) hb); replace HO877 := Aside0.mk (Kd.R_elder' (Zr HO877.out) (Kd.R_base ho34) hb); replace HO880 := Aside0.mk (Kd.R_below (Zr HO880.out) hb); replace HO883 := Aside0.mk (Kd.R_elder' (Zr HO883.out) (Kd.R_base ho34) hb); replace HO886 := Aside0.mk (Kd.R_elder' (Zr HO886.out) (Kd.R_base ho34) hb); replace HO891 := Aside0.mk (Kd.R_elder' (Zr HO891.out) (Kd.R_base ho34) hb); replace HO893 := Aside0.mk (Kd.R_elder' (Zr HO893.out) (Kd.R_base ho34) hb); replace HB := Aside0.mk (Qaj (Zb) hb); clear hb ho34; obtain ⟨Ao35, co35, eo35⟩ := Kd.R_slice HO875.out; subst eo35; obtain ⟨Ao36, co36, eo36⟩ := Kd.R_slice HO896.out; subst eo36) | ((with_reducible refine QaD (f := 46) rfl ?_); refine goesL_ (some 30) rfl rfl Try.func46 (by kernel_rfl) rfl #[.slice Ao35 t871.length co35, .slice Ao36 y894.length co36] rfl (Zl) ?_; (with_reducible refine (Qaa.calls k _ _ t871 _ _ y894 T _ ?side1 ?side2 ?side3 ?side4 A26.out).mono ?_); (case side1 => exact Zv (Kd.R_reads' HO875.out).2.2); (case side2 => exact (Kd.R_reads' HO875.out).2.1); (case side3 => exact Zv (Kd.R_reads' HO896.out).2.2); (case side4 => exact (Kd.R_reads' HO896.out).2.1); rintro e w' ⟨rfl, ⟨nd, rfl⟩⟩; refine ⟨_, rfl, ?_⟩) | ((with_reducible refine Qaz (N := 33) rfl ?_); (try (refine QaC (by rfl) ?_; dsimp only)); refine Kd.R_lit (Kd.int .i64) _ 3 ?hg (N := 33) ?hd (xs := ([1000, (-1000)] : List Int)) (inner := [.int .i64 1000, .int .i64 (-1000)]) (ok := fun _ => True) (okp := fun _ => True) ?hr ?hp (fun _ hk => hk) trivial (Below.refl _ _) (Nat.le_refl _) (by simp) ?_; (case hd => rfl); (case hg => rfl); (case hr => first | (go_simp; done) | (go_simp; rfl)); (case hp => exact (Reps.one (show Kd.M (Kd.int .i64) _ _ _ 1000 [.int .i64 1000] from rfl) (Reps.one (show Kd.M (Kd.int .i64) _ _ _ (-1000) [.int .i64 (-1000)] from rfl) (Reps.none _ _)))); intro v899 w37 ho38 hb hg_ hnew_; clear hg_ hnew_; (first | rw [← Ny898.out] at ho38 | (simp only [Int.reduceToNat] at ho38; rw [← Ny898.out] at ho38)); have HO900 := Aside0.mk (Kd.R_lower (Kd.R_new' (Kd.R_new' (Kd.R_new' (Kd.R_new' (Kd.R_new' (Kd.R_new' (Kd.R_new' (Kd.R_new' (Kd.R_new' ho38 (Kd.R_lt (Zr HO867.out))) (Kd.R_lt (Zr HO870.out))) (Kd.R_lt (Zr HO875.out))) (Kd.R_lt (Zr HO877.out))) (Kd.R_lt (Zr HO883.out))) (Kd.R_lt (Zr HO886.out))) (Kd.R_lt (Zr HO891.out))) (Kd.R_lt (Zr HO893.out))) (Kd.R_lt (Zr HO896.out))) (Qam (Zb))); replace HO861 := Aside0.mk (Kd.R_below (Zr HO861.out) hb); replace HO864 := Aside0.mk (Kd.R_below (Zr HO864.out) hb); replace HO867 := Aside0.mk (Kd.R_elder' (Zr HO867.out) (Kd.R_base ho38) hb); replace HO870 := Aside0.mk (Kd.R_elder' (Zr HO870.out) (Kd.R_base ho38) hb); replace HO875 := Aside0.mk (Kd.R_elder' (Zr HO875.out) (Kd.R_base ho38) hb); replace HO877 := Aside0.mk (Kd.R_elder' (Zr HO877.out) (Kd.R_base ho38) hb); replace HO880 := Aside0.mk (Kd.R_below (Zr HO880.out) hb); replace HO883 := Aside0.mk (Kd.R_elder' (Zr HO883.out) (Kd.R_base ho38) hb); replace HO886 := Aside0.mk (Kd.R_elder' (Zr HO886.out) (Kd.R_base ho38) hb); replace HO891 := Aside0.mk (Kd.R_elder' (Zr HO891.out) (Kd.R_base ho38) hb); replace HO893 := Aside0.mk (Kd.R_elder' (Zr HO893.out) (Kd.R_base ho38) hb); replace HO896 := Aside0.mk (Kd.R_elder' (Zr HO896.out) (Kd.R_base ho38) hb); replace HB := Aside0.mk (Qaj (Zb) hb); clear hb ho38; obtain ⟨Ao39, co39, eo39⟩ := Kd.R_slice HO877.out; subst eo39; obtain ⟨Ao40, co40, eo40⟩ := Kd.R_slice HO900.out; subst eo40) | (go_at_call 46; (with_reducible refine (Qaa.calls k _ _ t872 _ _ y898 T _ ?side1 ?side2 ?side3 ?side4 A28.out).mono ?_); (case side1 => exact Zv (Kd.R_reads' HO877.out).2.2); (case side2 => exact (Kd.R_reads' HO877.out).2.1); (case side3 => exact Zv (Kd.R_reads' HO900.out).2.2); (case side4 => exact (Kd.R_reads' HO900.out).2.1); rintro e w' ⟨rfl, ⟨nd, rfl⟩⟩) | ((with_reducible refine Qaz (N := 42) rfl ?_); (try (refine QaC (by rfl) ?_; dsimp only)); refine Kd.R_lit (Kd.int .i64) _ 3 ?hg (N := 42) ?hd (xs := ([0, 0] : List Int)) (inner := [.int .i64 0, .int .i64 0]) (ok := fun _ => True) (okp := fun _ => True) ?hr ?hp (fun _ hk => hk) trivial (Below.refl _ _) (Nat.le_refl _) (by simp) ?_; (case hd => rfl); (case hg => rfl); (case hr => first | (go_simp; done) | (go_simp; rfl)); (case hp => exact (Reps.one (show Kd.M (Kd.int .i64) _ _ _ 0 [.int .i64 0] from rfl) (Reps.one (show Kd.M (Kd.int .i64) _ _ _ 0 [.int .i64 0] from rfl) (Reps.none _ _)))); intro v903 w41 ho42 hb hg_ hnew_; clear hg_ hnew_; (first | rw [← Ny902.out] at ho42 | (simp only [Int.reduceToNat] at ho42; rw [← Ny902.out] at ho42)); have HO904 := Aside0.mk (Kd.R_lower (Kd.R_new' (Kd.R_new' (Kd.R_new' (Kd.R_new' (Kd.R_new' (Kd.R_new' (Kd.R_new' (Kd.R_new' (Kd.R_new' (Kd.R_new' ho42 (Kd.R_lt (Zr HO867.out))) (Kd.R_lt (Zr HO870.out))) (Kd.R_lt (Zr HO875.out))) (Kd.R_lt (Zr HO877.out))) (Kd.R_lt (Zr HO883.out))) (Kd.R_lt (Zr HO886.out))) (Kd.R_lt (Zr HO891.out))) (Kd.R_lt (Zr HO893.out))) (Kd.R_lt (Zr HO896.out))) (Kd.R_lt (Zr HO900.out))) (Qam (Zb))); replace HO861 := Aside0.mk (Kd.R_below (Zr HO861.out) hb); replace HO864 := Aside0.mk (Kd.R_below (Zr HO864.out) hb); replace HO867 := Aside0.mk (Kd.R_elder' (Zr HO867.out) (Kd.R_base ho42) hb); replace HO870 := Aside0.mk (Kd.R_elder' (Zr HO870.out) (Kd.R_base ho42) hb); replace HO875 := Aside0.mk (Kd.R_elder' (Zr HO875.out) (Kd.R_base ho42) hb); replace HO877 := Aside0.mk (Kd.R_elder' (Zr HO877.out) (Kd.R_base ho42) hb); replace HO880 := Aside0.mk (Kd.R_below (Zr HO880.out) hb); replace HO883 := Aside0.mk (Kd.R_elder' (Zr HO883.out) (Kd.R_base ho42) hb); replace HO886 := Aside0.mk (Kd.R_elder' (Zr HO886.out) (Kd.R_base ho42) hb); replace HO891 := Aside0.mk (Kd.R_elder' (Zr HO891.out) (Kd.R_base ho42) hb); replace HO893 := Aside0.mk (Kd.R_elder' (Zr HO893.out) (Kd.R_base ho42) hb); replace HO896 := Aside0.mk (Kd.R_elder' (Zr HO896.out) (Kd.R_base ho42) hb); replace HO900 := Aside0.mk (Kd.R_elder' (Zr HO900.out) (Kd.R_base ho42) hb); replace HB := Aside0.mk (Qaj (Zb) hb); clear hb ho42; obtain ⟨Ao43, co43, eo43⟩ := Kd.R_slice HO891.out; subst eo43; obtain ⟨Ao44, co44, eo44⟩ := Kd.R_slice HO904.out; subst eo44) | (go_at_call 46; (with_reducible refine (Qaa.calls k _ _ t887 _ _ y902 T _ ?side1 ?side2 ?side3 ?side4 A31.out).mono ?_); (case side1 => exact Zv (Kd.R_reads' HO891.out).2.2); (case side2 => exact (Kd.R_reads' HO891.out).2.1); (case side3 => exact Zv (Kd.R_reads' HO904.out).2.2); (case side4 => exact (Kd.R_reads' HO904.out).2.1); rintro e w' ⟨rfl, ⟨nd, rfl⟩⟩))
     go_ret
     exact ⟨Zq, Zb⟩
    replace c32 := Bool.eq_false_iff.mpr c32
    subst c32
    have H1 : (some F) = some r := by rw [if_neg (show ¬ (F = T) by decide)] at H; exact H
    clear H
    have H := H1
    clear H1
    obtain rfl := Option.some.inj H
    go_wp2_with (first | ((with_reducible refine Qaz (N := 29) rfl ?_); (try (refine QaC (by rfl) ?_; dsimp only)); refine Kd.R_lit (Kd.int .i64) _ 3 ?hg (N := 29) ?hd (xs := ([300, 400] : List Int)) (inner := [.int .i64 300, .int .i64 400]) (ok := fun _ => True) (okp := fun _ => True) ?hr ?hp (fun _ hk => hk) trivial (Below.refl _ _) (Nat.le_refl _) (by simp) ?_; (case hd => rfl); (case hg => rfl); (case hr => first | (go_simp; done) | (go_simp; rfl)); (case hp => exact (Reps.one (show Kd.M (Kd.int .i64) _ _ _ 300 [.int .i64 300] from rfl) (Reps.one (show Kd.M (Kd.int .i64) _ _ _ 400 [.int .i64 400] from rfl) (Reps.none _ _)))); intro v895 w45 ho46 hb hg_ hnew_; clear hg_ hnew_; (first | rw [← Ny894.out] at ho46 | (simp only [Int.reduceToNat] at ho46; rw [← Ny894.out] at ho46)); have HO896 := Aside0.mk (Kd.R_lower (Kd.R_new' (Kd.R_new' (Kd.R_new' (Kd.R_new' (Kd.R_new' (Kd.R_new' (Kd.R_new' (Kd.R_new' ho46 (Kd.R_lt (Zr HO867.out))) (Kd.R_lt (Zr HO870.out))) (Kd.R_lt (Zr HO875.out))) (Kd.R_lt (Zr HO877.out))) (Kd.R_lt (Zr HO883.out))) (Kd.R_lt (Zr HO886.out))) (Kd.R_lt (Zr HO891.out))) (Kd.R_lt (Zr HO893.out))) (Qam (Zb))); replace HO861 := Aside0.mk (Kd.R_below (Zr HO861.out) hb); replace HO864 := Aside0.mk (Kd.R_below (Zr HO864.out) hb); replace HO867 := Aside0.mk (Kd.R_elder' (Zr HO867.out) (Kd.R_base ho46) hb); replace HO870 := Aside0.mk (Kd.R_elder' (Zr HO870.out) (Kd.R_base ho46) hb); replace HO875 := Aside0.mk (Kd.R_elder' (Zr HO875.out) (Kd.R_base ho46) hb); replace HO877 := Aside0.mk (Kd.R_elder' (Zr HO877.out) (Kd.R_base ho46) hb); replace HO880 := Aside0.mk (Kd.R_below (Zr HO880.out) hb); replace HO883 := Aside0.mk (Kd.R_elder' (Zr HO883.out) (Kd.R_base ho46) hb); replace HO886 := Aside0.mk (Kd.R_elder' (Zr HO886.out) (Kd.R_base ho46) hb); replace HO891 := Aside0.mk (Kd.R_elder' (Zr HO891.out) (Kd.R_base ho46) hb); replace HO893 := Aside0.mk (Kd.R_elder' (Zr HO893.out) (Kd.R_base ho46) hb); replace HB := Aside0.mk (Qaj (Zb) hb); clear hb ho46; obtain ⟨Ao47, co47, eo47⟩ := Kd.R_slice HO875.out; subst eo47; obtain ⟨Ao48, co48, eo48⟩ := Kd.R_slice HO896.out; subst eo48) | ((with_reducible refine QaD (f := 46) rfl ?_); refine goesL_ (some 30) rfl rfl Try.func46 (by kernel_rfl) rfl #[.slice Ao47 t871.length co47, .slice Ao48 y894.length co48] rfl (Zl) ?_; (with_reducible refine (Qaa.calls k _ _ t871 _ _ y894 T _ ?side1 ?side2 ?side3 ?side4 A26.out).mono ?_); (case side1 => exact Zv (Kd.R_reads' HO875.out).2.2); (case side2 => exact (Kd.R_reads' HO875.out).2.1); (case side3 => exact Zv (Kd.R_reads' HO896.out).2.2); (case side4 => exact (Kd.R_reads' HO896.out).2.1); rintro e w' ⟨rfl, ⟨nd, rfl⟩⟩; refine ⟨_, rfl, ?_⟩) | ((with_reducible refine Qaz (N := 33) rfl ?_); (try (refine QaC (by rfl) ?_; dsimp only)); refine Kd.R_lit (Kd.int .i64) _ 3 ?hg (N := 33) ?hd (xs := ([1000, (-1000)] : List Int)) (inner := [.int .i64 1000, .int .i64 (-1000)]) (ok := fun _ => True) (okp := fun _ => True) ?hr ?hp (fun _ hk => hk) trivial (Below.refl _ _) (Nat.le_refl _) (by simp) ?_; (case hd => rfl); (case hg => rfl); (case hr => first | (go_simp; done) | (go_simp; rfl)); (case hp => exact (Reps.one (show Kd.M (Kd.int .i64) _ _ _ 1000 [.int .i64 1000] from rfl) (Reps.one (show Kd.M (Kd.int .i64) _ _ _ (-1000) [.int .i64 (-1000)] from rfl) (Reps.none _ _)))); intro v899 w49 ho50 hb hg_ hnew_; clear hg_ hnew_; (first | rw [← Ny898.out] at ho50 | (simp only [Int.reduceToNat] at ho50; rw [← Ny898.out] at ho50)); have HO900 := Aside0.mk (Kd.R_lower (Kd.R_new' (Kd.R_new' (Kd.R_new' (Kd.R_new' (Kd.R_new' (Kd.R_new' (Kd.R_new' (Kd.R_new' (Kd.R_new' ho50 (Kd.R_lt (Zr HO867.out))) (Kd.R_lt (Zr HO870.out))) (Kd.R_lt (Zr HO875.out))) (Kd.R_lt (Zr HO877.out))) (Kd.R_lt (Zr HO883.out))) (Kd.R_lt (Zr HO886.out))) (Kd.R_lt (Zr HO891.out))) (Kd.R_lt (Zr HO893.out))) (Kd.R_lt (Zr HO896.out))) (Qam (Zb))); replace HO861 := Aside0.mk (Kd.R_below (Zr HO861.out) hb); replace HO864 := Aside0.mk (Kd.R_below (Zr HO864.out) hb); replace HO867 := Aside0.mk (Kd.R_elder' (Zr HO867.out) (Kd.R_base ho50) hb); replace HO870 := Aside0.mk (Kd.R_elder' (Zr HO870.out) (Kd.R_base ho50) hb); replace HO875 := Aside0.mk (Kd.R_elder' (Zr HO875.out) (Kd.R_base ho50) hb); replace HO877 := Aside0.mk (Kd.R_elder' (Zr HO877.out) (Kd.R_base ho50) hb); replace HO880 := Aside0.mk (Kd.R_below (Zr HO880.out) hb); replace HO883 := Aside0.mk (Kd.R_elder' (Zr HO883.out) (Kd.R_base ho50) hb); replace HO886 := Aside0.mk (Kd.R_elder' (Zr HO886.out) (Kd.R_base ho50) hb); replace HO891 := Aside0.mk (Kd.R_elder' (Zr HO891.out) (Kd.R_base ho50) hb); replace HO893 := Aside0.mk (Kd.R_elder' (Zr HO893.out) (Kd.R_base ho50) hb); replace HO896 := Aside0.mk (Kd.R_elder' (Zr HO896.out) (Kd.R_base ho50) hb); replace HB := Aside0.mk (Qaj (Zb) hb); clear hb ho50; obtain ⟨Ao51, co51, eo51⟩ := Kd.R_slice HO877.out; subst eo51; obtain ⟨Ao52, co52, eo52⟩ := Kd.R_slice HO900.out; subst eo52) | (go_at_call 46; (with_reducible refine (Qaa.calls k _ _ t872 _ _ y898 T _ ?side1 ?side2 ?side3 ?side4 A28.out).mono ?_); (case side1 => exact Zv (Kd.R_reads' HO877.out).2.2); (case side2 => exact (Kd.R_reads' HO877.out).2.1); (case side3 => exact Zv (Kd.R_reads' HO900.out).2.2); (case side4 => exact (Kd.R_reads' HO900.out).2.1); rintro e w' ⟨rfl, ⟨nd, rfl⟩⟩) | ((with_reducible refine Qaz (N := 42) rfl ?_); (try (refine QaC (by rfl) ?_; dsimp only)); refine Kd.R_lit (Kd.int .i64) _ 3 ?hg (N := 42) ?hd (xs := ([0, 0] : List Int)) (inner := [.int .i64 0, .int .i64 0]) (ok := fun _ => True) (okp := fun _ => True) ?hr ?hp (fun _ hk => hk) trivial (Below.refl _ _) (Nat.le_refl _) (by simp) ?_; (case hd => rfl); (case hg => rfl); (case hr => first | (go_simp; done) | (go_simp; rfl)); (case hp => exact (Reps.one (show Kd.M (Kd.int .i64) _ _ _ 0 [.int .i64 0] from rfl) (Reps.one (show Kd.M (Kd.int .i64) _ _ _ 0 [.int .i64 0] from rfl) (Reps.none _ _)))); intro v903 w53 ho54 hb hg_ hnew_; clear hg_ hnew_; (first | rw [← Ny902.out] at ho54 | (simp only [Int.reduceToNat] at ho54; rw [← Ny902.out] at ho54)); have HO904 := Aside0.mk (Kd.R_lower (Kd.R_new' (Kd.R_new' (Kd.R_new' (Kd.R_new' (Kd.R_new' (Kd.R_new' (Kd.R_new' (Kd.R_new' (Kd.R_new' (Kd.R_new' ho54 (Kd.R_lt (Zr HO867.out))) (Kd.R_lt (Zr HO870.out))) (Kd.R_lt (Zr HO875.out))) (Kd.R_lt (Zr HO877.out))) (Kd.R_lt (Zr HO883.out))) (Kd.R_lt (Zr HO886.out))) (Kd.R_lt (Zr HO891.out))) (Kd.R_lt (Zr HO893.out))) (Kd.R_lt (Zr HO896.out))) (Kd.R_lt (Zr HO900.out))) (Qam (Zb))); replace HO861 := Aside0.mk (Kd.R_below (Zr HO861.out) hb); replace HO864 := Aside0.mk (Kd.R_below (Zr HO864.out) hb); replace HO867 := Aside0.mk (Kd.R_elder' (Zr HO867.out) (Kd.R_base ho54) hb); replace HO870 := Aside0.mk (Kd.R_elder' (Zr HO870.out) (Kd.R_base ho54) hb); replace HO875 := Aside0.mk (Kd.R_elder' (Zr HO875.out) (Kd.R_base ho54) hb); replace HO877 := Aside0.mk (Kd.R_elder' (Zr HO877.out) (Kd.R_base ho54) hb); replace HO880 := Aside0.mk (Kd.R_below (Zr HO880.out) hb); replace HO883 := Aside0.mk (Kd.R_elder' (Zr HO883.out) (Kd.R_base ho54) hb); replace HO886 := Aside0.mk (Kd.R_elder' (Zr HO886.out) (Kd.R_base ho54) hb); replace HO891 := Aside0.mk (Kd.R_elder' (Zr HO891.out) (Kd.R_base ho54) hb); replace HO893 := Aside0.mk (Kd.R_elder' (Zr HO893.out) (Kd.R_base ho54) hb); replace HO896 := Aside0.mk (Kd.R_elder' (Zr HO896.out) (Kd.R_base ho54) hb); replace HO900 := Aside0.mk (Kd.R_elder' (Zr HO900.out) (Kd.R_base ho54) hb); replace HB := Aside0.mk (Qaj (Zb) hb); clear hb ho54; obtain ⟨Ao55, co55, eo55⟩ := Kd.R_slice HO891.out; subst eo55; obtain ⟨Ao56, co56, eo56⟩ := Kd.R_slice HO904.out; subst eo56) | (go_at_call 46; (with_reducible refine (Qaa.calls k _ _ t887 _ _ y902 F _ ?side1 ?side2 ?side3 ?side4 A31.out).mono ?_); (case side1 => exact Zv (Kd.R_reads' HO891.out).2.2); (case side2 => exact (Kd.R_reads' HO891.out).2.1); (case side3 => exact Zv (Kd.R_reads' HO904.out).2.2); (case side4 => exact (Kd.R_reads' HO904.out).2.1); rintro e w' ⟨rfl, ⟨nd, rfl⟩⟩))
    go_ret
    exact ⟨Zq, Zb⟩
   rw [if_neg c30] at H
   have c30b0 : (t873 == 0) = F := beq_eq_false_iff_ne.mpr c30
   have c30b1 : (t873 != 0) = T := bne_iff_ne.mpr c30
   (try simp only [c30b0, c30b1])
   obtain rfl := Option.some.inj H
   go_wp2_with (first | ((with_reducible refine Qaz (N := 29) rfl ?_); (try (refine QaC (by rfl) ?_; dsimp only)); refine Kd.R_lit (Kd.int .i64) _ 3 ?hg (N := 29) ?hd (xs := ([300, 400] : List Int)) (inner := [.int .i64 300, .int .i64 400]) (ok := fun _ => True) (okp := fun _ => True) ?hr ?hp (fun _ hk => hk) trivial (Below.refl _ _) (Nat.le_refl _) (by simp) ?_; (case hd => rfl); (case hg => rfl); (case hr => first | (go_simp; done) | (go_simp; rfl)); (case hp => exact (Reps.one (show Kd.M (Kd.int .i64) _ _ _ 300 [.int .i64 300] from rfl) (Reps.one (show Kd.M (Kd.int .i64) _ _ _ 400 [.int .i64 400] from rfl) (Reps.none _ _)))); intro v895 w57 ho58 hb hg_ hnew_; clear hg_ hnew_; (first | rw [← Ny894.out] at ho58 | (simp only [Int.reduceToNat] at ho58; rw [← Ny894.out] at ho58)); have HO896 := Aside0.mk (Kd.R_lower (Kd.R_new' (Kd.R_new' (Kd.R_new' (Kd.R_new' (Kd.R_new' (Kd.R_new' (Kd.R_new' (Kd.R_new' ho58 (Kd.R_lt (Zr HO867.out))) (Kd.R_lt (Zr HO870.out))) (Kd.R_lt (Zr HO875.out))) (Kd.R_lt (Zr HO877.out))) (Kd.R_lt (Zr HO883.out))) (Kd.R_lt (Zr HO886.out))) (Kd.R_lt (Zr HO891.out))) (Kd.R_lt (Zr HO893.out))) (Qam (Zb))); replace HO861 := Aside0.mk (Kd.R_below (Zr HO861.out) hb); replace HO864 := Aside0.mk (Kd.R_below (Zr HO864.out) hb); replace HO867 := Aside0.mk (Kd.R_elder' (Zr HO867.out) (Kd.R_base ho58) hb); replace HO870 := Aside0.mk (Kd.R_elder' (Zr HO870.out) (Kd.R_base ho58) hb); replace HO875 := Aside0.mk (Kd.R_elder' (Zr HO875.out) (Kd.R_base ho58) hb); replace HO877 := Aside0.mk (Kd.R_elder' (Zr HO877.out) (Kd.R_base ho58) hb); replace HO880 := Aside0.mk (Kd.R_below (Zr HO880.out) hb); replace HO883 := Aside0.mk (Kd.R_elder' (Zr HO883.out) (Kd.R_base ho58) hb); replace HO886 := Aside0.mk (Kd.R_elder' (Zr HO886.out) (Kd.R_base ho58) hb); replace HO891 := Aside0.mk (Kd.R_elder' (Zr HO891.out) (Kd.R_base ho58) hb); replace HO893 := Aside0.mk (Kd.R_elder' (Zr HO893.out) (Kd.R_base ho58) hb); replace HB := Aside0.mk (Qaj (Zb) hb); clear hb ho58; obtain ⟨Ao59, co59, eo59⟩ := Kd.R_slice HO875.out; subst eo59; obtain ⟨Ao60, co60, eo60⟩ := Kd.R_slice HO896.out; subst eo60) | ((with_reducible refine QaD (f := 46) rfl ?_); refine goesL_ (some 30) rfl rfl Try.func46 (by kernel_rfl) rfl #[.slice Ao59 t871.length co59, .slice Ao60 y894.length co60] rfl (Zl) ?_; (with_reducible refine (Qaa.calls k _ _ t871 _ _ y894 T _ ?side1 ?side2 ?side3 ?side4 A26.out).mono ?_); (case side1 => exact Zv (Kd.R_reads' HO875.out).2.2); (case side2 => exact (Kd.R_reads' HO875.out).2.1); (case side3 => exact Zv (Kd.R_reads' HO896.out).2.2); (case side4 => exact (Kd.R_reads' HO896.out).2.1); rintro e w' ⟨rfl, ⟨nd, rfl⟩⟩; refine ⟨_, rfl, ?_⟩) | ((with_reducible refine Qaz (N := 33) rfl ?_); (try (refine QaC (by rfl) ?_; dsimp only)); refine Kd.R_lit (Kd.int .i64) _ 3 ?hg (N := 33) ?hd (xs := ([1000, (-1000)] : List Int)) (inner := [.int .i64 1000, .int .i64 (-1000)]) (ok := fun _ => True) (okp := fun _ => True) ?hr ?hp (fun _ hk => hk) trivial (Below.refl _ _) (Nat.le_refl _) (by simp) ?_; (case hd => rfl); (case hg => rfl); (case hr => first | (go_simp; done) | (go_simp; rfl)); (case hp => exact (Reps.one (show Kd.M (Kd.int .i64) _ _ _ 1000 [.int .i64 1000] from rfl) (Reps.one (show Kd.M (Kd.int .i64) _ _ _ (-1000) [.int .i64 (-1000)] from rfl) (Reps.none _ _)))); intro v899 w61 ho62 hb hg_ hnew_; clear hg_ hnew_; (first | rw [← Ny898.out] at ho62 | (simp only [Int.reduceToNat] at ho62; rw [← Ny898.out] at ho62)); have HO900 := Aside0.mk (Kd.R_lower (Kd.R_new' (Kd.R_new' (Kd.R_new' (Kd.R_new' (Kd.R_new' (Kd.R_new' (Kd.R_new' (Kd.R_new' (Kd.R_new' ho62 (Kd.R_lt (Zr HO867.out))) (Kd.R_lt (Zr HO870.out))) (Kd.R_lt (Zr HO875.out))) (Kd.R_lt (Zr HO877.out))) (Kd.R_lt (Zr HO883.out))) (Kd.R_lt (Zr HO886.out))) (Kd.R_lt (Zr HO891.out))) (Kd.R_lt (Zr HO893.out))) (Kd.R_lt (Zr HO896.out))) (Qam (Zb))); replace HO861 := Aside0.mk (Kd.R_below (Zr HO861.out) hb); replace HO864 := Aside0.mk (Kd.R_below (Zr HO864.out) hb); replace HO867 := Aside0.mk (Kd.R_elder' (Zr HO867.out) (Kd.R_base ho62) hb); replace HO870 := Aside0.mk (Kd.R_elder' (Zr HO870.out) (Kd.R_base ho62) hb); replace HO875 := Aside0.mk (Kd.R_elder' (Zr HO875.out) (Kd.R_base ho62) hb); replace HO877 := Aside0.mk (Kd.R_elder' (Zr HO877.out) (Kd.R_base ho62) hb); replace HO880 := Aside0.mk (Kd.R_below (Zr HO880.out) hb); replace HO883 := Aside0.mk (Kd.R_elder' (Zr HO883.out) (Kd.R_base ho62) hb); replace HO886 := Aside0.mk (Kd.R_elder' (Zr HO886.out) (Kd.R_base ho62) hb); replace HO891 := Aside0.mk (Kd.R_elder' (Zr HO891.out) (Kd.R_base ho62) hb); replace HO893 := Aside0.mk (Kd.R_elder' (Zr HO893.out) (Kd.R_base ho62) hb); replace HO896 := Aside0.mk (Kd.R_elder' (Zr HO896.out) (Kd.R_base ho62) hb); replace HB := Aside0.mk (Qaj (Zb) hb); clear hb ho62; obtain ⟨Ao63, co63, eo63⟩ := Kd.R_slice HO877.out; subst eo63; obtain ⟨Ao64, co64, eo64⟩ := Kd.R_slice HO900.out; subst eo64) | (go_at_call 46; (with_reducible refine (Qaa.calls k _ _ t872 _ _ y898 T _ ?side1 ?side2 ?side3 ?side4 A28.out).mono ?_); (case side1 => exact Zv (Kd.R_reads' HO877.out).2.2); (case side2 => exact (Kd.R_reads' HO877.out).2.1); (case side3 => exact Zv (Kd.R_reads' HO900.out).2.2); (case side4 => exact (Kd.R_reads' HO900.out).2.1); rintro e w' ⟨rfl, ⟨nd, rfl⟩⟩))
   go_ret
   exact ⟨Zq, Zb⟩
  replace c29 := Bool.eq_false_iff.mpr c29
  subst c29
  have H1 : (some F) = some r := by rw [if_neg (show ¬ (F = T) by decide)] at H; exact H
  clear H
  have H := H1
  clear H1
  obtain rfl := Option.some.inj H
  go_wp2_with (first | ((with_reducible refine Qaz (N := 29) rfl ?_); (try (refine QaC (by rfl) ?_; dsimp only)); refine Kd.R_lit (Kd.int .i64) _ 3 ?hg (N := 29) ?hd (xs := ([300, 400] : List Int)) (inner := [.int .i64 300, .int .i64 400]) (ok := fun _ => True) (okp := fun _ => True) ?hr ?hp (fun _ hk => hk) trivial (Below.refl _ _) (Nat.le_refl _) (by simp) ?_; (case hd => rfl); (case hg => rfl); (case hr => first | (go_simp; done) | (go_simp; rfl)); (case hp => exact (Reps.one (show Kd.M (Kd.int .i64) _ _ _ 300 [.int .i64 300] from rfl) (Reps.one (show Kd.M (Kd.int .i64) _ _ _ 400 [.int .i64 400] from rfl) (Reps.none _ _)))); intro v895 w65 ho66 hb hg_ hnew_; clear hg_ hnew_; (first | rw [← Ny894.out] at ho66 | (simp only [Int.reduceToNat] at ho66; rw [← Ny894.out] at ho66)); have HO896 := Aside0.mk (Kd.R_lower (Kd.R_new' (Kd.R_new' (Kd.R_new' (Kd.R_new' (Kd.R_new' (Kd.R_new' (Kd.R_new' (Kd.R_new' ho66 (Kd.R_lt (Zr HO867.out))) (Kd.R_lt (Zr HO870.out))) (Kd.R_lt (Zr HO875.out))) (Kd.R_lt (Zr HO877.out))) (Kd.R_lt (Zr HO883.out))) (Kd.R_lt (Zr HO886.out))) (Kd.R_lt (Zr HO891.out))) (Kd.R_lt (Zr HO893.out))) (Qam (Zb))); replace HO861 := Aside0.mk (Kd.R_below (Zr HO861.out) hb); replace HO864 := Aside0.mk (Kd.R_below (Zr HO864.out) hb); replace HO867 := Aside0.mk (Kd.R_elder' (Zr HO867.out) (Kd.R_base ho66) hb); replace HO870 := Aside0.mk (Kd.R_elder' (Zr HO870.out) (Kd.R_base ho66) hb); replace HO875 := Aside0.mk (Kd.R_elder' (Zr HO875.out) (Kd.R_base ho66) hb); replace HO877 := Aside0.mk (Kd.R_elder' (Zr HO877.out) (Kd.R_base ho66) hb); replace HO880 := Aside0.mk (Kd.R_below (Zr HO880.out) hb); replace HO883 := Aside0.mk (Kd.R_elder' (Zr HO883.out) (Kd.R_base ho66) hb); replace HO886 := Aside0.mk (Kd.R_elder' (Zr HO886.out) (Kd.R_base ho66) hb); replace HO891 := Aside0.mk (Kd.R_elder' (Zr HO891.out) (Kd.R_base ho66) hb); replace HO893 := Aside0.mk (Kd.R_elder' (Zr HO893.out) (Kd.R_base ho66) hb); replace HB := Aside0.mk (Qaj (Zb) hb); clear hb ho66; obtain ⟨Ao67, co67, eo67⟩ := Kd.R_slice HO875.out; subst eo67; obtain ⟨Ao68, co68, eo68⟩ := Kd.R_slice HO896.out; subst eo68) | ((with_reducible refine QaD (f := 46) rfl ?_); refine goesL_ (some 30) rfl rfl Try.func46 (by kernel_rfl) rfl #[.slice Ao67 t871.length co67, .slice Ao68 y894.length co68] rfl (Zl) ?_; (with_reducible refine (Qaa.calls k _ _ t871 _ _ y894 T _ ?side1 ?side2 ?side3 ?side4 A26.out).mono ?_); (case side1 => exact Zv (Kd.R_reads' HO875.out).2.2); (case side2 => exact (Kd.R_reads' HO875.out).2.1); (case side3 => exact Zv (Kd.R_reads' HO896.out).2.2); (case side4 => exact (Kd.R_reads' HO896.out).2.1); rintro e w' ⟨rfl, ⟨nd, rfl⟩⟩; refine ⟨_, rfl, ?_⟩) | ((with_reducible refine Qaz (N := 33) rfl ?_); (try (refine QaC (by rfl) ?_; dsimp only)); refine Kd.R_lit (Kd.int .i64) _ 3 ?hg (N := 33) ?hd (xs := ([1000, (-1000)] : List Int)) (inner := [.int .i64 1000, .int .i64 (-1000)]) (ok := fun _ => True) (okp := fun _ => True) ?hr ?hp (fun _ hk => hk) trivial (Below.refl _ _) (Nat.le_refl _) (by simp) ?_; (case hd => rfl); (case hg => rfl); (case hr => first | (go_simp; done) | (go_simp; rfl)); (case hp => exact (Reps.one (show Kd.M (Kd.int .i64) _ _ _ 1000 [.int .i64 1000] from rfl) (Reps.one (show Kd.M (Kd.int .i64) _ _ _ (-1000) [.int .i64 (-1000)] from rfl) (Reps.none _ _)))); intro v899 w69 ho70 hb hg_ hnew_; clear hg_ hnew_; (first | rw [← Ny898.out] at ho70 | (simp only [Int.reduceToNat] at ho70; rw [← Ny898.out] at ho70)); have HO900 := Aside0.mk (Kd.R_lower (Kd.R_new' (Kd.R_new' (Kd.R_new' (Kd.R_new' (Kd.R_new' (Kd.R_new' (Kd.R_new' (Kd.R_new' (Kd.R_new' ho70 (Kd.R_lt (Zr HO867.out))) (Kd.R_lt (Zr HO870.out))) (Kd.R_lt (Zr HO875.out))) (Kd.R_lt (Zr HO877.out))) (Kd.R_lt (Zr HO883.out))) (Kd.R_lt (Zr HO886.out))) (Kd.R_lt (Zr HO891.out))) (Kd.R_lt (Zr HO893.out))) (Kd.R_lt (Zr HO896.out))) (Qam (Zb))); replace HO861 := Aside0.mk (Kd.R_below (Zr HO861.out) hb); replace HO864 := Aside0.mk (Kd.R_below (Zr HO864.out) hb); replace HO867 := Aside0.mk (Kd.R_elder' (Zr HO867.out) (Kd.R_base ho70) hb); replace HO870 := Aside0.mk (Kd.R_elder' (Zr HO870.out) (Kd.R_base ho70) hb); replace HO875 := Aside0.mk (Kd.R_elder' (Zr HO875.out) (Kd.R_base ho70) hb); replace HO877 := Aside0.mk (Kd.R_elder' (Zr HO877.out) (Kd.R_base ho70) hb); replace HO880 := Aside0.mk (Kd.R_below (Zr HO880.out) hb); replace HO883 := Aside0.mk (Kd.R_elder' (Zr HO883.out) (Kd.R_base ho70) hb); replace HO886 := Aside0.mk (Kd.R_elder' (Zr HO886.out) (Kd.R_base ho70) hb); replace HO891 := Aside0.mk (Kd.R_elder' (Zr HO891.out) (Kd.R_base ho70) hb); replace HO893 := Aside0.mk (Kd.R_elder' (Zr HO893.out) (Kd.R_base ho70) hb); replace HO896 := Aside0.mk (Kd.R_elder' (Zr HO896.out) (Kd.R_base ho70) hb); replace HB := Aside0.mk (Qaj (Zb) hb); clear hb ho70; obtain ⟨Ao71, co71, eo71⟩ := Kd.R_slice HO877.out; subst eo71; obtain ⟨Ao72, co72, eo72⟩ := Kd.R_slice HO900.out; subst eo72) | (go_at_call 46; (with_reducible refine (Qaa.calls k _ _ t872 _ _ y898 F _ ?side1 ?side2 ?side3 ?side4 A28.out).mono ?_); (case side1 => exact Zv (Kd.R_reads' HO877.out).2.2); (case side2 => exact (Kd.R_reads' HO877.out).2.1); (case side3 => exact Zv (Kd.R_reads' HO900.out).2.2); (case side4 => exact (Kd.R_reads' HO900.out).2.1); rintro e w' ⟨rfl, ⟨nd, rfl⟩⟩))
  go_ret
  exact ⟨Zq, Zb⟩
 replace c27 := Bool.eq_false_iff.mpr c27
 subst c27
 have H1 : (some F) = some r := by rw [if_neg (show ¬ (F = T) by decide)] at H; exact H
 clear H
 have H := H1
 clear H1
 obtain rfl := Option.some.inj H
 go_wp2_with (first | ((with_reducible refine Qaz (N := 29) rfl ?_); (try (refine QaC (by rfl) ?_; dsimp only)); refine Kd.R_lit (Kd.int .i64) _ 3 ?hg (N := 29) ?hd (xs := ([300, 400] : List Int)) (inner := [.int .i64 300, .int .i64 400]) (ok := fun _ => True) (okp := fun _ => True) ?hr ?hp (fun _ hk => hk) trivial (Below.refl _ _) (Nat.le_refl _) (by simp) ?_; (case hd => rfl); (case hg => rfl); (case hr => first | (go_simp; done) | (go_simp; rfl)); (case hp => exact (Reps.one (show Kd.M (Kd.int .i64) _ _ _ 300 [.int .i64 300] from rfl) (Reps.one (show Kd.M (Kd.int .i64) _ _ _ 400 [.int .i64 400] from rfl) (Reps.none _ _)))); intro v895 w73 ho74 hb hg_ hnew_; clear hg_ hnew_; (first | rw [← Ny894.out] at ho74 | (simp only [Int.reduceToNat] at ho74; rw [← Ny894.out] at ho74)); have HO896 := Aside0.mk (Kd.R_lower (Kd.R_new' (Kd.R_new' (Kd.R_new' (Kd.R_new' (Kd.R_new' (Kd.R_new' (Kd.R_new' (Kd.R_new' ho74 (Kd.R_lt (Zr HO867.out))) (Kd.R_lt (Zr HO870.out))) (Kd.R_lt (Zr HO875.out))) (Kd.R_lt (Zr HO877.out))) (Kd.R_lt (Zr HO883.out))) (Kd.R_lt (Zr HO886.out))) (Kd.R_lt (Zr HO891.out))) (Kd.R_lt (Zr HO893.out))) (Qam (Zb))); replace HO861 := Aside0.mk (Kd.R_below (Zr HO861.out) hb); replace HO864 := Aside0.mk (Kd.R_below (Zr HO864.out) hb); replace HO867 := Aside0.mk (Kd.R_elder' (Zr HO867.out) (Kd.R_base ho74) hb); replace HO870 := Aside0.mk (Kd.R_elder' (Zr HO870.out) (Kd.R_base ho74) hb); replace HO875 := Aside0.mk (Kd.R_elder' (Zr HO875.out) (Kd.R_base ho74) hb); replace HO877 := Aside0.mk (Kd.R_elder' (Zr HO877.out) (Kd.R_base ho74) hb); replace HO880 := Aside0.mk (Kd.R_below (Zr HO880.out) hb); replace HO883 := Aside0.mk (Kd.R_elder' (Zr HO883.out) (Kd.R_base ho74) hb); replace HO886 := Aside0.mk (Kd.R_elder' (Zr HO886.out) (Kd.R_base ho74) hb); replace HO891 := Aside0.mk (Kd.R_elder' (Zr HO891.out) (Kd.R_base ho74) hb); replace HO893 := Aside0.mk (Kd.R_elder' (Zr HO893.out) (Kd.R_base ho74) hb); replace HB := Aside0.mk (Qaj (Zb) hb); clear hb ho74; obtain ⟨Ao75, co75, eo75⟩ := Kd.R_slice HO875.out; subst eo75; obtain ⟨Ao76, co76, eo76⟩ := Kd.R_slice HO896.out; subst eo76) | ((with_reducible refine QaD (f := 46) rfl ?_); refine goesL_ (some 30) rfl rfl Try.func46 (by kernel_rfl) rfl #[.slice Ao75 t871.length co75, .slice Ao76 y894.length co76] rfl (Zl) ?_; (with_reducible refine (Qaa.calls k _ _ t871 _ _ y894 F _ ?side1 ?side2 ?side3 ?side4 A26.out).mono ?_); (case side1 => exact Zv (Kd.R_reads' HO875.out).2.2); (case side2 => exact (Kd.R_reads' HO875.out).2.1); (case side3 => exact Zv (Kd.R_reads' HO896.out).2.2); (case side4 => exact (Kd.R_reads' HO896.out).2.1); rintro e w' ⟨rfl, ⟨nd, rfl⟩⟩; refine ⟨_, rfl, ?_⟩))
 go_ret
 exact ⟨Zq, Zb⟩
mutual
def contangolaw25_InterBounds.j0 : Nat → List (S75) → List Int → List Int → Bool → List ByteArray → List Int → List Int → Option (Bool)
 | 0, _, _, _, _, _, _, _ => none
 | k + 1, x1, x5, x6, x49, x927000, x927001, x927002 => if x49 = T then (none) else (contangolaw25_InterBounds.l0 k x1 x5 x6 0 x927000 x927001 x927002)
def contangolaw25_InterBounds.l0 : Nat → List (S75) → List Int → List Int → Int → List ByteArray → List Int → List Int → Option (Bool)
 | 0, _, _, _, _, _, _, _ => none
 | k + 1, x1, x5, x6, x8, x927000, x927001, x927002 => if x8 < (x5.length : Int) then (contangolaw25_InterBounds.l1 k x1 x5 x6 x8 F 0 x927000 x927001 x927002) else ((Qao.f k).bind fun t935 => (some t935))
def contangolaw25_InterBounds.l1 : Nat → List (S75) → List Int → List Int → Int → Bool → Int → List ByteArray → List Int → List Int → Option (Bool)
 | 0, _, _, _, _, _, _, _, _, _ => none
 | k + 1, x1, x5, x6, x8, x9, x10, x927000, x927001, x927002 => if x10 < (x1.length : Int) then (if x9 = T then (contangolaw25_InterBounds.l1 k x1 x5 x6 x8 T (wrap64 (x10 + 1)) x927000 x927001 x927002) else (if 0 ≤ x10 then (if 0 ≤ x8 then (if x8 < (x927000.length : Int) then (if ((rd_T75 x1 x10).f0).toList = (rdOf ByteArray.empty x927000 x8).toList then (contangolaw25_InterBounds.l1 k x1 x5 x6 x8 T (wrap64 (x10 + 1)) x927000 x927001 x927002) else (contangolaw25_InterBounds.l1 k x1 x5 x6 x8 (((rd_T75 x1 x10).f1).toList == (rdOf ByteArray.empty x927000 x8).toList) (wrap64 (x10 + 1)) x927000 x927001 x927002)) else (none)) else (none)) else (none))) else (if 0 ≤ x8 then (if x8 < (x927001.length : Int) then (if x8 < (x5.length : Int) then (if (rd x5 x8) < 0 then (none) else (if x8 < (x927002.length : Int) then (if (rd x5 x8) > (rd x927002 x8) then (none) else (if x8 < (x6.length : Int) then (if (rd x6 x8) < (mn (rd x927001 x8) 0) then (none) else (if (rd x6 x8) > (mx (rd x927001 x8) 0) then (none) else (if x9 = T then (contangolaw25_InterBounds.l0 k x1 x5 x6 (wrap64 (x8 + 1)) x927000 x927001 x927002) else (if (rd x5 x8) = 0 then (if (rd x6 x8) = (rd x927001 x8) then (contangolaw25_InterBounds.l0 k x1 x5 x6 (wrap64 (x8 + 1)) x927000 x927001 x927002) else (none)) else (none))))) else (none))) else (none))) else (none)) else (none)) else (none))
end
def contangolaw25_InterBounds.f (k : Nat) (l0_0 : List ByteArray) (l0_1 : List Int) (l0_2 : List Int) (l1 : List (S75)) : Option (Bool) := (Qab.f k l0_0 l0_1 l0_2 l1).bind fun bt927 => (if bt927.2.2 = 0 then (if (bt927.1.length : Int) = (l0_0.length : Int) then (contangolaw25_InterBounds.j0 k l1 bt927.1 bt927.2.1 ((bt927.2.1.length : Int) != (l0_0.length : Int)) l0_0 l0_1 l0_2) else (contangolaw25_InterBounds.j0 k l1 bt927.1 bt927.2.1 T l0_0 l0_1 l0_2)) else (if (wrap64 ((bt927.1.length : Int) + (bt927.2.1.length : Int))) = 0 then ((Qao.f k).bind fun t934 => (some t934)) else (none)))
theorem contangolaw25_InterBounds.mono_l : ∀ k, (∀ y0 y1 y2 y3 y4 y5 y6, LeO (contangolaw25_InterBounds.j0 k y0 y1 y2 y3 y4 y5 y6) (contangolaw25_InterBounds.j0 (k + 1) y0 y1 y2 y3 y4 y5 y6)) ∧ (∀ y0 y1 y2 y3 y4 y5 y6, LeO (contangolaw25_InterBounds.l0 k y0 y1 y2 y3 y4 y5 y6) (contangolaw25_InterBounds.l0 (k + 1) y0 y1 y2 y3 y4 y5 y6)) ∧ (∀ y0 y1 y2 y3 y4 y5 y6 y7 y8, LeO (contangolaw25_InterBounds.l1 k y0 y1 y2 y3 y4 y5 y6 y7 y8) (contangolaw25_InterBounds.l1 (k + 1) y0 y1 y2 y3 y4 y5 y6 y7 y8))
 | 0 => ⟨fun _ _ _ _ _ _ _ r h => by simp [contangolaw25_InterBounds.j0] at h, fun _ _ _ _ _ _ _ r h => by simp [contangolaw25_InterBounds.l0] at h, fun _ _ _ _ _ _ _ _ _ r h => by simp [contangolaw25_InterBounds.l1] at h⟩
 | k + 1 => by
  obtain ⟨ih0, ih1, ih2⟩ := contangolaw25_InterBounds.mono_l k
  refine ⟨?_, ?_, ?_⟩
  ·intro y0 y1 y2 y3 y4 y5 y6
   unfold contangolaw25_InterBounds.j0
   exact ZM5 ih0 ih1 ih2 Qao.mono Qab.mono
  ·intro y0 y1 y2 y3 y4 y5 y6
   unfold contangolaw25_InterBounds.l0
   exact ZM5 ih0 ih1 ih2 Qao.mono Qab.mono
  intro y0 y1 y2 y3 y4 y5 y6 y7 y8
  unfold contangolaw25_InterBounds.l1
  exact ZM5 ih0 ih1 ih2 Qao.mono Qab.mono
theorem contangolaw25_InterBounds.mono : ∀ a0 a1 a2 a3 k, LeO (contangolaw25_InterBounds.f k a0 a1 a2 a3) (contangolaw25_InterBounds.f (k + 1) a0 a1 a2 a3) := by
 intro a0 a1 a2 a3 k
 obtain ⟨ih0, ih1, ih2⟩ := contangolaw25_InterBounds.mono_l k
 unfold contangolaw25_InterBounds.f
 exact ZM5 ih0 ih1 ih2 Qao.mono Qab.mono
theorem contangolaw25_InterBounds.calls (k : Nat) (A0_0 : Option Addr) (c0_0 : Nat) (l0_0 : List ByteArray) (A0_1 : Option Addr) (c0_1 : Nat) (l0_1 : List Int) (A0_2 : Option Addr) (c0_2 : Nat) (l0_2 : List Int) (A1 : Option Addr) (c1 : Nat) (l1 : List (S75)) (r : Bool) (w : World) (hr0_0 : Kd.C Kd.string w A0_0 l0_0.length l0_0) (hc0_0 : l0_0.length ≤ c0_0) (hr0_1 : Kd.C (Kd.int .i64) w A0_1 l0_1.length l0_1) (hc0_1 : l0_1.length ≤ c0_1) (hr0_2 : Kd.C (Kd.int .i64) w A0_2 l0_2.length l0_2) (hc0_2 : l0_2.length ≤ c0_2) (hr1 : Kd.C k75 w A1 l1.length l1) (hc1 : l1.length ≤ c1) (h : contangolaw25_InterBounds.f k l0_0 l0_1 l0_2 l1 = some r) :
  Calls Try.prog 12 #[.agg #[.slice A0_0 l0_0.length c0_0, .slice A0_1 l0_1.length c0_1, .slice A0_2 l0_2.length c0_2], .slice A1 l1.length c1] w fun e w' => e = .returned (.bool r) ∧ Below w.heap.size w w' := by
 have hu67 := Try.underlying67
 have HR0_0 := Aside0.mk hr0_0
 have HC0_0 := Aside0.mk hc0_0
 clear hr0_0 hc0_0
 have HR0_1 := Aside0.mk hr0_1
 have HC0_1 := Aside0.mk hc0_1
 clear hr0_1 hc0_1
 have HR0_2 := Aside0.mk hr0_2
 have HC0_2 := Aside0.mk hc0_2
 clear hr0_2 hc0_2
 have HR1 := Aside0.mk hr1
 have HC1 := Aside0.mk hc1
 clear hr1 hc1
 have HB := Aside0.mk (Below.refl w.heap.size w)
 have H : ((Qab.f k l0_0 l0_1 l0_2 l1).bind fun bt927 => (if bt927.2.2 = 0 then (if (bt927.1.length : Int) = (l0_0.length : Int) then (contangolaw25_InterBounds.j0 k l1 bt927.1 bt927.2.1 ((bt927.2.1.length : Int) != (l0_0.length : Int)) l0_0 l0_1 l0_2) else (contangolaw25_InterBounds.j0 k l1 bt927.1 bt927.2.1 T l0_0 l0_1 l0_2)) else (if (wrap64 ((bt927.1.length : Int) + (bt927.2.1.length : Int))) = 0 then ((Qao.f k).bind fun t934 => (some t934)) else (none)))) = some r := h
 clear h
 replace H := Option.bind_eq_some_iff.mp H
 obtain ⟨⟨t927, t928, t929⟩, A30, H⟩ := H
 replace H : (if t929 = 0 then (if (t927.length : Int) = (l0_0.length : Int) then (contangolaw25_InterBounds.j0 k l1 t927 t928 ((t928.length : Int) != (l0_0.length : Int)) l0_0 l0_1 l0_2) else (contangolaw25_InterBounds.j0 k l1 t927 t928 T l0_0 l0_1 l0_2)) else (if (wrap64 ((t927.length : Int) + (t928.length : Int))) = 0 then ((Qao.f k).bind fun t934 => (some t934)) else (none))) = some r := H
 have A3 := Aside0.mk A30
 clear A30
 go_enter Try.func12, Try.ntmps12
 go_upto_if 26 with (first | ((with_reducible refine Qaz (N := 2) rfl ?_); (try (refine QaC (by rfl) ?_; dsimp only)); refine Zbx (N := 2) (cs := #[.slice A0_0 l0_0.length c0_0, .slice A0_1 l0_1.length c0_1, .slice A0_2 l0_2.length c0_2]) (t := 67) ?_; intro gb926 hg w4 hbox hb; have BK926 := Aside0.mk (hbox); have GW926 := Aside0.mk (Zt w hg (Zb)); have GE926 := GW926; replace HB := Aside0.mk (Qaj (Zb) hb); clear hb hbox hg; obtain ⟨hcz5_0, hfz5_0⟩ := Zy (v := (.slice A0_0 l0_0.length c0_0)) BK926.out 0; obtain ⟨hcz5_1, hfz5_1⟩ := Zy (v := (.slice A0_1 l0_1.length c0_1)) BK926.out 1; obtain ⟨hcz5_2, hfz5_2⟩ := Zy (v := (.slice A0_2 l0_2.length c0_2)) BK926.out 2) | (go_at_call 42; (with_reducible refine (Qab.calls k _ _ l0_0 _ _ l0_1 _ _ l0_2 _ _ l1 t927 t928 t929 _ ?side1 ?side2 ?side3 ?side4 ?side5 ?side6 ?side7 ?side8 A3.out).mono ?_); (case side1 => exact Zv (Kd.C_below HR0_0.out HB.out)); (case side2 => exact HC0_0.out); (case side3 => exact Zv (Kd.C_below HR0_1.out HB.out)); (case side4 => exact HC0_1.out); (case side5 => exact Zv (Kd.C_below HR0_2.out HB.out)); (case side6 => exact HC0_2.out); (case side7 => exact Zv (Kd.C_below HR1.out HB.out)); (case side8 => exact HC1.out); rintro e w6 ⟨v930, v932, rfl, ho0, ho1, hb⟩; have HO931 := Aside0.mk (Kd.R_lower ho0 (Qam (Zc1 GE926.out))); have HO933 := Aside0.mk (Kd.R_lower ho1 (Qam (Zc1 GE926.out))); replace BK926 := Aside0.mk (Zi BK926.out hb); replace HB := Aside0.mk (Qaj (Zc1 GE926.out) hb); (try clear hb); (try clear hb2); (try clear hk); (try clear hi); (try clear ho0); (try clear ho1)))
 repeat (go_quiet (first | ((with_reducible refine Qaz (N := 2) rfl ?_); (try (refine QaC (by rfl) ?_; dsimp only)); refine Zbx (N := 2) (cs := #[.slice A0_0 l0_0.length c0_0, .slice A0_1 l0_1.length c0_1, .slice A0_2 l0_2.length c0_2]) (t := 67) ?_; intro gb926 hg w4 hbox hb; have BK926 := Aside0.mk (hbox); have GW926 := Aside0.mk (Zt w hg (Zb)); have GE926 := GW926; replace HB := Aside0.mk (Qaj (Zb) hb); clear hb hbox hg; obtain ⟨hcz5_0, hfz5_0⟩ := Zy (v := (.slice A0_0 l0_0.length c0_0)) BK926.out 0; obtain ⟨hcz5_1, hfz5_1⟩ := Zy (v := (.slice A0_1 l0_1.length c0_1)) BK926.out 1; obtain ⟨hcz5_2, hfz5_2⟩ := Zy (v := (.slice A0_2 l0_2.length c0_2)) BK926.out 2) | (go_at_call 42; (with_reducible refine (Qab.calls k _ _ l0_0 _ _ l0_1 _ _ l0_2 _ _ l1 t927 t928 t929 _ ?side1 ?side2 ?side3 ?side4 ?side5 ?side6 ?side7 ?side8 A3.out).mono ?_); (case side1 => exact Zv (Kd.C_below HR0_0.out HB.out)); (case side2 => exact HC0_0.out); (case side3 => exact Zv (Kd.C_below HR0_1.out HB.out)); (case side4 => exact HC0_1.out); (case side5 => exact Zv (Kd.C_below HR0_2.out HB.out)); (case side6 => exact HC0_2.out); (case side7 => exact Zv (Kd.C_below HR1.out HB.out)); (case side8 => exact HC1.out); rintro e w6 ⟨v930, v932, rfl, ho0, ho1, hb⟩; have HO931 := Aside0.mk (Kd.R_lower ho0 (Qam (Zc1 GE926.out))); have HO933 := Aside0.mk (Kd.R_lower ho1 (Qam (Zc1 GE926.out))); replace BK926 := Aside0.mk (Zi BK926.out hb); replace HB := Aside0.mk (Qaj (Zc1 GE926.out) hb); (try clear hb); (try clear hb2); (try clear hk); (try clear hi); (try clear ho0); (try clear ho1))); go_upto_if 26 with (first | ((with_reducible refine Qaz (N := 2) rfl ?_); (try (refine QaC (by rfl) ?_; dsimp only)); refine Zbx (N := 2) (cs := #[.slice A0_0 l0_0.length c0_0, .slice A0_1 l0_1.length c0_1, .slice A0_2 l0_2.length c0_2]) (t := 67) ?_; intro gb926 hg w4 hbox hb; have BK926 := Aside0.mk (hbox); have GW926 := Aside0.mk (Zt w hg (Zb)); have GE926 := GW926; replace HB := Aside0.mk (Qaj (Zb) hb); clear hb hbox hg; obtain ⟨hcz5_0, hfz5_0⟩ := Zy (v := (.slice A0_0 l0_0.length c0_0)) BK926.out 0; obtain ⟨hcz5_1, hfz5_1⟩ := Zy (v := (.slice A0_1 l0_1.length c0_1)) BK926.out 1; obtain ⟨hcz5_2, hfz5_2⟩ := Zy (v := (.slice A0_2 l0_2.length c0_2)) BK926.out 2) | (go_at_call 42; (with_reducible refine (Qab.calls k _ _ l0_0 _ _ l0_1 _ _ l0_2 _ _ l1 t927 t928 t929 _ ?side1 ?side2 ?side3 ?side4 ?side5 ?side6 ?side7 ?side8 A3.out).mono ?_); (case side1 => exact Zv (Kd.C_below HR0_0.out HB.out)); (case side2 => exact HC0_0.out); (case side3 => exact Zv (Kd.C_below HR0_1.out HB.out)); (case side4 => exact HC0_1.out); (case side5 => exact Zv (Kd.C_below HR0_2.out HB.out)); (case side6 => exact HC0_2.out); (case side7 => exact Zv (Kd.C_below HR1.out HB.out)); (case side8 => exact HC1.out); rintro e w6 ⟨v930, v932, rfl, ho0, ho1, hb⟩; have HO931 := Aside0.mk (Kd.R_lower ho0 (Qam (Zc1 GE926.out))); have HO933 := Aside0.mk (Kd.R_lower ho1 (Qam (Zc1 GE926.out))); replace BK926 := Aside0.mk (Zi BK926.out hb); replace HB := Aside0.mk (Qaj (Zc1 GE926.out) hb); (try clear hb); (try clear hb2); (try clear hk); (try clear hi); (try clear ho0); (try clear ho1))))
 (try simp only [Act.put, Zj, Zk, Zm])
 by_cases c7 : t929 = 0
 ·rw [if_pos c7] at H
  have c7b0 : (t929 == 0) = T := beq_iff_eq.mpr c7
  have c7b1 : (t929 != 0) = F := bne_eq_false_iff_eq.mpr c7
  clear c7
  (try simp only [c7b0, c7b1])
  have HC8 := Aside0.mk H
  clear H
  go_upto_region 4 with (fail)
  repeat (go_quiet (fail); go_upto_region 4 with (fail))
  go_cut [49] (fun v49 wc => ∃ (kq : Nat) (x49_7 : Bool), v49 = .bool x49_7 ∧ Aside0 (contangolaw25_InterBounds.j0 kq l1 t927 t928 x49_7 l0_0 l0_1 l0_2 = some r) ∧ Aside0 (kq ≤ k) ∧ Aside0 (Kd.R (Kd.int .i64) 3 wc w.heap.size (fun k_ => some k_ ≠ (v932 : Value).ownBlock) v930 t927) ∧ Aside0 (Kd.R (Kd.int .i64) 3 wc w.heap.size (fun k_ => some k_ ≠ (v930 : Value).ownBlock) v932 t928) ∧ Aside0 (wc.heap[gb926]? = some (.cells #[(.slice A0_0 l0_0.length c0_0), (.slice A0_1 l0_1.length c0_1), (.slice A0_2 l0_2.length c0_2)] 67 (0, 0))) ∧ Aside0 (Below w.heap.size w wc))
  case first =>
   have H := HC8.out
   clear HC8
   by_cases c9 : (t927.length : Int) = (l0_0.length : Int)
   ·rw [if_pos c9] at H
    have c9b0 : ((t927.length : Int) == (l0_0.length : Int)) = T := beq_iff_eq.mpr c9
    have c9b1 : ((t927.length : Int) != (l0_0.length : Int)) = F := bne_eq_false_iff_eq.mpr c9
    have c9b2 : (t927.length == l0_0.length) = T := by first | simpa using c9 | (simp at c9 ⊢; omega)
    clear c9
    have H' := Aside0.mk H
    clear H
    obtain ⟨Ao10, co10, eo10⟩ := Kd.R_slice HO931.out
    subst eo10
    obtain ⟨hcz11_0, hfz11_0⟩ := Zy (v := (.slice A0_0 l0_0.length c0_0)) BK926.out 0
    obtain ⟨hcz11_1, hfz11_1⟩ := Zy (v := (.slice A0_1 l0_1.length c0_1)) BK926.out 1
    obtain ⟨hcz11_2, hfz11_2⟩ := Zy (v := (.slice A0_2 l0_2.length c0_2)) BK926.out 2
    obtain ⟨Ao12, co12, eo12⟩ := Kd.R_slice HO933.out
    subst eo12
    go_wp2
    repeat (go_quiet (fail); try go_wp2)
    go_meet
    case rel => exact ⟨_, (((t928.length : Int) != (l0_0.length : Int))), (Zs), H', ⟨by first | omega | exact Nat.le_refl _⟩, ⟨Zr HO931.out⟩, ⟨Zr HO933.out⟩, ⟨Zu BK926.out⟩, ⟨Zc1 GE926.out⟩⟩
   rw [if_neg c9] at H
   have c9b0 : ((t927.length : Int) == (l0_0.length : Int)) = F := beq_eq_false_iff_ne.mpr c9
   have c9b1 : ((t927.length : Int) != (l0_0.length : Int)) = T := bne_iff_ne.mpr c9
   have c9b2 : (t927.length == l0_0.length) = F := by first | simpa using c9 | (simp at c9 ⊢; omega)
   have H' := Aside0.mk H
   clear H
   obtain ⟨Ao13, co13, eo13⟩ := Kd.R_slice HO931.out
   subst eo13
   obtain ⟨hcz14_0, hfz14_0⟩ := Zy (v := (.slice A0_0 l0_0.length c0_0)) BK926.out 0
   obtain ⟨hcz14_1, hfz14_1⟩ := Zy (v := (.slice A0_1 l0_1.length c0_1)) BK926.out 1
   obtain ⟨hcz14_2, hfz14_2⟩ := Zy (v := (.slice A0_2 l0_2.length c0_2)) BK926.out 2
   go_wp2
   repeat (go_quiet (fail); try go_wp2)
   go_meet
   case rel => exact ⟨_, (T), (Zs), H', ⟨by first | omega | exact Nat.le_refl _⟩, ⟨Zr HO931.out⟩, ⟨Zr HO933.out⟩, ⟨Zu BK926.out⟩, ⟨Zc1 GE926.out⟩⟩
  case rest =>
   clear HC8
   try clear c1
   try clear p2
   try clear p6
   try clear c7
   try clear c7b0
   try clear c7b1
   try clear c9
   try clear c9b0
   try clear c9b1
   try clear c9b2
   try clear c12
   try clear hcz11_0
   try clear hcz11_1
   try clear hcz11_2
   try clear hcz14_0
   try clear hcz14_1
   try clear hcz14_2
   try clear hcz5_0
   try clear hcz5_1
   try clear hcz5_2
   try clear hfz11_0
   try clear hfz11_1
   try clear hfz11_2
   try clear hfz14_0
   try clear hfz14_1
   try clear hfz14_2
   try clear hfz5_0
   try clear hfz5_1
   try clear hfz5_2
   obtain ⟨kq, x49_7, rfl, HA, HJ7, HO_5, HO_6, BK926, HB⟩ := hcut
   cases kq with
   | zero => exact absurd HA.out (by simp [contangolaw25_InterBounds.j0])
   | succ kj7 =>
    have H := HA.out
    clear HA
    simp only [contangolaw25_InterBounds.j0] at H
    by_cases c15 : x49_7 = T
    ·subst c15
     have H1 : (none) = some r := by rw [if_pos rfl] at H; exact H
     clear H
     have H := H1
     clear H1
     exact absurd H (by simp)
    replace c15 := Bool.eq_false_iff.mpr c15
    subst c15
    have H1 : (contangolaw25_InterBounds.l0 kj7 l1 t927 t928 0 l0_0 l0_1 l0_2) = some r := by rw [if_neg (show ¬ (F = T) by decide)] at H; exact H
    clear H
    have H := H1
    clear H1
    have H' := Aside0.mk H
    clear H
    go_wp2
    repeat (go_quiet (fail); try go_wp2)
    go_loopg [8] kj7 (fun kq v8 w' => ∃ (x8_2 : Int), v8 = .int .i64 x8_2 ∧ Aside0 (contangolaw25_InterBounds.l0 kq l1 t927 t928 x8_2 l0_0 l0_1 l0_2 = some r) ∧ Aside0 (kq ≤ kj7) ∧ Aside0 (Kd.R (Kd.int .i64) 3 w' w.heap.size (fun k_ => some k_ ≠ (v932 : Value).ownBlock) v930 t927) ∧ Aside0 (Kd.R (Kd.int .i64) 3 w' w.heap.size (fun k_ => some k_ ≠ (v930 : Value).ownBlock) v932 t928) ∧ Aside0 (w'.heap[gb926]? = some (.cells #[(.slice A0_0 l0_0.length c0_0), (.slice A0_1 l0_1.length c0_1), (.slice A0_2 l0_2.length c0_2)] 67 (0, 0))) ∧ Aside0 (Below w.heap.size w w'))
    case atStart => exact ⟨(0), (Zs), H', ⟨Nat.le_refl _⟩, ⟨Zr HO_5.out⟩, ⟨Zr HO_6.out⟩, ⟨Zu BK926.out⟩, ⟨Zc1 GE926.out⟩⟩
    case round =>
     clear H'
     try clear c1
     try clear p2
     try clear p6
     try clear c7
     try clear c7b0
     try clear c7b1
     try clear c9
     try clear c9b0
     try clear c9b1
     try clear c9b2
     try clear c12
     try clear c15
     try clear hcz11_0
     try clear hcz11_1
     try clear hcz11_2
     try clear hcz14_0
     try clear hcz14_1
     try clear hcz14_2
     try clear hcz5_0
     try clear hcz5_1
     try clear hcz5_2
     try clear hfz11_0
     try clear hfz11_1
     try clear hfz11_2
     try clear hfz14_0
     try clear hfz14_1
     try clear hfz14_2
     try clear hfz5_0
     try clear hfz5_1
     try clear hfz5_2
     try clear p2
     try clear p6
     obtain ⟨x8_2, rfl, HA, HK2, HO_5, HO_6, BK926, HB⟩ := hrel
     cases gk with
     | zero => exact absurd HA.out (by simp [contangolaw25_InterBounds.l0])
     | succ k2 =>
      have H := HA.out
      clear HA
      simp only [contangolaw25_InterBounds.l0] at H
      obtain ⟨Ao16, co16, eo16⟩ := Kd.R_slice HO_5.out
      subst eo16
      go_upto_if 53 with (fail)
      repeat (go_quiet (fail); go_upto_if 53 with (fail))
      by_cases c17 : x8_2 < (t927.length : Int)
      ·rw [if_pos c17] at H
       have c17b0 : decide (x8_2 < (t927.length : Int)) = T := decide_eq_true c17
       clear c17
       (try simp only [c17b0])
       have H' := Aside0.mk H
       clear H
       go_wp2
       repeat (go_quiet (fail); try go_wp2)
       go_loopg [9, 10] k2 (fun kq v9 v10 w' => ∃ (x9_3 : Bool) (x10_3 : Int), v9 = .bool x9_3 ∧ v10 = .int .i64 x10_3 ∧ Aside0 (contangolaw25_InterBounds.l1 kq l1 t927 t928 x8_2 x9_3 x10_3 l0_0 l0_1 l0_2 = some r) ∧ Aside0 (kq ≤ k2) ∧ Aside0 (Kd.R (Kd.int .i64) 3 w' w.heap.size (fun k_ => some k_ ≠ (v932 : Value).ownBlock) (.slice Ao16 t927.length co16) t927) ∧ Aside0 (Kd.R (Kd.int .i64) 3 w' w.heap.size (fun k_ => some k_ ≠ ((.slice Ao16 t927.length co16) : Value).ownBlock) v932 t928) ∧ Aside0 (w'.heap[gb926]? = some (.cells #[(.slice A0_0 l0_0.length c0_0), (.slice A0_1 l0_1.length c0_1), (.slice A0_2 l0_2.length c0_2)] 67 (0, 0))) ∧ Aside0 (Below w.heap.size w w'))
       case atStart => exact ⟨(F), (0), (Zs), (Zs), H', ⟨Nat.le_refl _⟩, ⟨Zr HO_5.out⟩, ⟨Zr HO_6.out⟩, ⟨Zu BK926.out⟩, ⟨Zc1 GE926.out⟩⟩
       case round =>
        clear H'
        try clear c1
        try clear p2
        try clear p6
        try clear c7
        try clear c7b0
        try clear c7b1
        try clear c9
        try clear c9b0
        try clear c9b1
        try clear c9b2
        try clear c12
        try clear c15
        try clear c17
        try clear c17b0
        try clear hcz11_0
        try clear hcz11_1
        try clear hcz11_2
        try clear hcz14_0
        try clear hcz14_1
        try clear hcz14_2
        try clear hcz5_0
        try clear hcz5_1
        try clear hcz5_2
        try clear hfz11_0
        try clear hfz11_1
        try clear hfz11_2
        try clear hfz14_0
        try clear hfz14_1
        try clear hfz14_2
        try clear hfz5_0
        try clear hfz5_1
        try clear hfz5_2
        try clear p2
        try clear p6
        obtain ⟨x9_3, x10_3, rfl, rfl, HA, HK3, HO_5, HO_6, BK926, HB⟩ := hrel
        cases gk with
        | zero => exact absurd HA.out (by simp [contangolaw25_InterBounds.l1])
        | succ k3 =>
         have H := HA.out
         clear HA
         simp only [contangolaw25_InterBounds.l1] at H
         by_cases c18 : x10_3 < (l1.length : Int)
         ·rw [if_pos c18] at H
          have c18b0 : decide (x10_3 < (l1.length : Int)) = T := decide_eq_true c18
          clear c18
          (try simp only [c18b0])
          by_cases c19 : x9_3 = T
          ·subst c19
           have H1 : (contangolaw25_InterBounds.l1 k3 l1 t927 t928 x8_2 T (wrap64 (x10_3 + 1)) l0_0 l0_1 l0_2) = some r := by rw [if_pos rfl] at H; exact H
           clear H
           have H := H1
           clear H1
           have H' := Aside0.mk H
           clear H
           go_wp2
           repeat (go_quiet (fail); try go_wp2)
           go_roundg k3
           case measure => have := HJ7.out; have := HK2.out; have := HK3.out; omega
           case rel => exact ⟨(T), (wrap64 (x10_3 + 1)), (Zs), (Zs), H', ⟨by have := HJ7.out; have := HK2.out; have := HK3.out; omega⟩, ⟨Zr HO_5.out⟩, ⟨Zr HO_6.out⟩, ⟨Zu BK926.out⟩, ⟨Zc1 GE926.out⟩⟩
          replace c19 := Bool.eq_false_iff.mpr c19
          subst c19
          have H1 : (if 0 ≤ x10_3 then (if 0 ≤ x8_2 then (if x8_2 < (l0_0.length : Int) then (if ((rd_T75 l1 x10_3).f0).toList = (rdOf ByteArray.empty l0_0 x8_2).toList then (contangolaw25_InterBounds.l1 k3 l1 t927 t928 x8_2 T (wrap64 (x10_3 + 1)) l0_0 l0_1 l0_2) else (contangolaw25_InterBounds.l1 k3 l1 t927 t928 x8_2 (((rd_T75 l1 x10_3).f1).toList == (rdOf ByteArray.empty l0_0 x8_2).toList) (wrap64 (x10_3 + 1)) l0_0 l0_1 l0_2)) else (none)) else (none)) else (none)) = some r := by rw [if_neg (show ¬ (F = T) by decide)] at H; exact H
          clear H
          have H := H1
          clear H1
          by_cases c20 : 0 ≤ x10_3
          ·rw [if_pos c20] at H
           have c20b0 : decide (0 ≤ x10_3) = T := decide_eq_true c20
           clear c20
           by_cases c21 : 0 ≤ x8_2
           ·rw [if_pos c21] at H
            have c21b0 : decide (0 ≤ x8_2) = T := decide_eq_true c21
            clear c21
            by_cases c22 : x8_2 < (l0_0.length : Int)
            ·rw [if_pos c22] at H
             have c22b0 : decide (x8_2 < (l0_0.length : Int)) = T := decide_eq_true c22
             clear c22
             by_cases c23 : ((rd_T75 l1 x10_3).f0).toList = (rdOf ByteArray.empty l0_0 x8_2).toList
             ·rw [if_pos c23] at H
              have c23b0 : (((rd_T75 l1 x10_3).f0).toList == (rdOf ByteArray.empty l0_0 x8_2).toList) = T := beq_iff_eq.mpr c23
              have c23b1 : (((rd_T75 l1 x10_3).f0).toList != (rdOf ByteArray.empty l0_0 x8_2).toList) = F := bne_eq_false_iff_eq.mpr c23
              clear c23
              have H' := Aside0.mk H
              clear H
              have p936 : 0 ≤ (x10_3 : Int) := Ze
              have q936 : x10_3 < (l1.length : Int) := Ze
              obtain ⟨ad936, e936, hx936_0, hx936_1, hx936_2, hx936_3, hx936_4⟩ := at_T75 HR1.out x10_3 p936 q936
              cases e936
              replace hx936_0 := Zx HB.out hx936_0
              replace hx936_1 := Zx HB.out hx936_1
              replace hx936_2 := Zx HB.out hx936_2
              replace hx936_3 := Zx HB.out hx936_3
              replace hx936_4 := Zx HB.out hx936_4
              replace p936 := eq_true p936
              replace q936 := eq_true q936
              obtain ⟨hcz24_0, hfz24_0⟩ := Zy (v := (.slice A0_0 l0_0.length c0_0)) BK926.out 0
              obtain ⟨hcz24_1, hfz24_1⟩ := Zy (v := (.slice A0_1 l0_1.length c0_1)) BK926.out 1
              obtain ⟨hcz24_2, hfz24_2⟩ := Zy (v := (.slice A0_2 l0_2.length c0_2)) BK926.out 2
              have p937 : 0 ≤ (x8_2 : Int) := Ze
              have q937 : x8_2 < (l0_0.length : Int) := Ze
              obtain ⟨ad937, e937, hx937_0⟩ := Kd.at_string HR0_0.out x8_2 p937 q937
              cases e937
              replace hx937_0 := Zx HB.out hx937_0
              replace p937 := eq_true p937
              replace q937 := eq_true q937
              go_wp2
              repeat (go_quiet (fail); try go_wp2)
              go_roundg k3
              case measure => have := HJ7.out; have := HK2.out; have := HK3.out; omega
              case rel => exact ⟨(T), (wrap64 (x10_3 + 1)), (Zs), (Zs), H', ⟨by have := HJ7.out; have := HK2.out; have := HK3.out; omega⟩, ⟨Zr HO_5.out⟩, ⟨Zr HO_6.out⟩, ⟨Zu BK926.out⟩, ⟨Zc1 GE926.out⟩⟩
             rw [if_neg c23] at H
             have c23b0 : (((rd_T75 l1 x10_3).f0).toList == (rdOf ByteArray.empty l0_0 x8_2).toList) = F := beq_eq_false_iff_ne.mpr c23
             have c23b1 : (((rd_T75 l1 x10_3).f0).toList != (rdOf ByteArray.empty l0_0 x8_2).toList) = T := bne_iff_ne.mpr c23
             have H' := Aside0.mk H
             clear H
             have p936 : 0 ≤ (x10_3 : Int) := Ze
             have q936 : x10_3 < (l1.length : Int) := Ze
             obtain ⟨ad936, e936, hx936_0, hx936_1, hx936_2, hx936_3, hx936_4⟩ := at_T75 HR1.out x10_3 p936 q936
             cases e936
             replace hx936_0 := Zx HB.out hx936_0
             replace hx936_1 := Zx HB.out hx936_1
             replace hx936_2 := Zx HB.out hx936_2
             replace hx936_3 := Zx HB.out hx936_3
             replace hx936_4 := Zx HB.out hx936_4
             replace p936 := eq_true p936
             replace q936 := eq_true q936
             obtain ⟨hcz25_0, hfz25_0⟩ := Zy (v := (.slice A0_0 l0_0.length c0_0)) BK926.out 0
             obtain ⟨hcz25_1, hfz25_1⟩ := Zy (v := (.slice A0_1 l0_1.length c0_1)) BK926.out 1
             obtain ⟨hcz25_2, hfz25_2⟩ := Zy (v := (.slice A0_2 l0_2.length c0_2)) BK926.out 2
             have p937 : 0 ≤ (x8_2 : Int) := Ze
             have q937 : x8_2 < (l0_0.length : Int) := Ze
             obtain ⟨ad937, e937, hx937_0⟩ := Kd.at_string HR0_0.out x8_2 p937 q937
             cases e937
             replace hx937_0 := Zx HB.out hx937_0
             replace p937 := eq_true p937
             replace q937 := eq_true q937
             have p938 : 0 ≤ (x10_3 : Int) := Ze
             have q938 : x10_3 < (l1.length : Int) := Ze
             obtain ⟨ad938, e938, hx938_0, hx938_1, hx938_2, hx938_3, hx938_4⟩ := at_T75 HR1.out x10_3 p938 q938
             obtain rfl : ad936 = ad938 := (by injection e938)
             replace hx938_0 := Zx HB.out hx938_0
             replace hx938_1 := Zx HB.out hx938_1
             replace hx938_2 := Zx HB.out hx938_2
             replace hx938_3 := Zx HB.out hx938_3
             replace hx938_4 := Zx HB.out hx938_4
             replace p938 := eq_true p938
             replace q938 := eq_true q938
             have p939 : 0 ≤ (x8_2 : Int) := Ze
             have q939 : x8_2 < (l0_0.length : Int) := Ze
             obtain ⟨ad939, e939, hx939_0⟩ := Kd.at_string HR0_0.out x8_2 p939 q939
             obtain rfl : ad937 = ad939 := (by injection e939)
             replace hx939_0 := Zx HB.out hx939_0
             replace p939 := eq_true p939
             replace q939 := eq_true q939
             go_wp2
             repeat (go_quiet (fail); try go_wp2)
             go_roundg k3
             case measure => have := HJ7.out; have := HK2.out; have := HK3.out; omega
             case rel => exact ⟨((((rd_T75 l1 x10_3).f1).toList == (rdOf ByteArray.empty l0_0 x8_2).toList)), (wrap64 (x10_3 + 1)), (Zs), (Zs), H', ⟨by have := HJ7.out; have := HK2.out; have := HK3.out; omega⟩, ⟨Zr HO_5.out⟩, ⟨Zr HO_6.out⟩, ⟨Zu BK926.out⟩, ⟨Zc1 GE926.out⟩⟩
            rw [if_neg c22] at H
            exact absurd H (by simp)
           rw [if_neg c21] at H
           exact absurd H (by simp)
          rw [if_neg c20] at H
          exact absurd H (by simp)
         rw [if_neg c18] at H
         have c18b0 : decide (x10_3 < (l1.length : Int)) = F := decide_eq_false c18
         clear c18
         (try simp only [c18b0])
         by_cases c26 : 0 ≤ x8_2
         ·rw [if_pos c26] at H
          have c26b0 : decide (0 ≤ x8_2) = T := decide_eq_true c26
          clear c26
          by_cases c27 : x8_2 < (l0_1.length : Int)
          ·rw [if_pos c27] at H
           have c27b0 : decide (x8_2 < (l0_1.length : Int)) = T := decide_eq_true c27
           clear c27
           obtain ⟨ji28, hji28⟩ : ∃ j_ : Int, (mn (rd l0_1 x8_2) 0) = j_ := ⟨_, rfl⟩
           replace H : (if x8_2 < (t927.length : Int) then (if (rd t927 x8_2) < 0 then (none) else (if x8_2 < (l0_2.length : Int) then (if (rd t927 x8_2) > (rd l0_2 x8_2) then (none) else (if x8_2 < (t928.length : Int) then (if (rd t928 x8_2) < (ji28) then (none) else (if (rd t928 x8_2) > (mx (rd l0_1 x8_2) 0) then (none) else (if x9_3 = T then (contangolaw25_InterBounds.l0 k3 l1 t927 t928 (wrap64 (x8_2 + 1)) l0_0 l0_1 l0_2) else (if (rd t927 x8_2) = 0 then (if (rd t928 x8_2) = (rd l0_1 x8_2) then (contangolaw25_InterBounds.l0 k3 l1 t927 t928 (wrap64 (x8_2 + 1)) l0_0 l0_1 l0_2) else (none)) else (none))))) else (none))) else (none))) else (none)) = some r := by first | (rw [hji28] at H; exact H) | (simp only [hji28] at H ⊢; exact H)
           have hji28_ : (if 0 < (rd l0_1 x8_2) then 0 else (rd l0_1 x8_2)) = ji28 := hji28
           obtain ⟨ji29, hji29⟩ : ∃ j_ : Int, (mx (rd l0_1 x8_2) 0) = j_ := ⟨_, rfl⟩
           replace H : (if x8_2 < (t927.length : Int) then (if (rd t927 x8_2) < 0 then (none) else (if x8_2 < (l0_2.length : Int) then (if (rd t927 x8_2) > (rd l0_2 x8_2) then (none) else (if x8_2 < (t928.length : Int) then (if (rd t928 x8_2) < (ji28) then (none) else (if (rd t928 x8_2) > (ji29) then (none) else (if x9_3 = T then (contangolaw25_InterBounds.l0 k3 l1 t927 t928 (wrap64 (x8_2 + 1)) l0_0 l0_1 l0_2) else (if (rd t927 x8_2) = 0 then (if (rd t928 x8_2) = (rd l0_1 x8_2) then (contangolaw25_InterBounds.l0 k3 l1 t927 t928 (wrap64 (x8_2 + 1)) l0_0 l0_1 l0_2) else (none)) else (none))))) else (none))) else (none))) else (none)) = some r := by first | (rw [hji29] at H; exact H) | (simp only [hji29] at H ⊢; exact H)
           have hji29_ : (if (rd l0_1 x8_2) < 0 then 0 else (rd l0_1 x8_2)) = ji29 := hji29
           obtain ⟨hcz30_0, hfz30_0⟩ := Zy (v := (.slice A0_0 l0_0.length c0_0)) BK926.out 0
           obtain ⟨hcz30_1, hfz30_1⟩ := Zy (v := (.slice A0_1 l0_1.length c0_1)) BK926.out 1
           obtain ⟨hcz30_2, hfz30_2⟩ := Zy (v := (.slice A0_2 l0_2.length c0_2)) BK926.out 2
           have p940 : 0 ≤ (x8_2 : Int) := Ze
           have q940 : x8_2 < (l0_1.length : Int) := Ze
           obtain ⟨ad940, e940, hx940_0⟩ := Kd.at_int HR0_1.out x8_2 p940 q940
           cases e940
           replace hx940_0 := Zx HB.out hx940_0
           replace p940 := eq_true p940
           replace q940 := eq_true q940
           have p941 : 0 ≤ (x8_2 : Int) := Ze
           have q941 : x8_2 < (l0_1.length : Int) := Ze
           obtain ⟨ad941, e941, hx941_0⟩ := Kd.at_int HR0_1.out x8_2 p941 q941
           obtain rfl : ad940 = ad941 := (by injection e941)
           replace hx941_0 := Zx HB.out hx941_0
           replace p941 := eq_true p941
           replace q941 := eq_true q941
           go_upto_region 15 with (fail)
           repeat (go_quiet (fail); go_upto_region 15 with (fail))
           by_cases c31 : x8_2 < (t927.length : Int)
           ·rw [if_pos c31] at H
            have c31b0 : decide (x8_2 < (t927.length : Int)) = T := decide_eq_true c31
            clear c31
            (try simp only [c31b0])
            by_cases c32 : (rd t927 x8_2) < 0
            ·rw [if_pos c32] at H
             exact absurd H (by simp)
            rw [if_neg c32] at H
            have c32b0 : decide ((rd t927 x8_2) < 0) = F := decide_eq_false c32
            clear c32
            by_cases c33 : x8_2 < (l0_2.length : Int)
            ·rw [if_pos c33] at H
             have c33b0 : decide (x8_2 < (l0_2.length : Int)) = T := decide_eq_true c33
             clear c33
             by_cases c34 : (rd t927 x8_2) > (rd l0_2 x8_2)
             ·rw [if_pos c34] at H
              exact absurd H (by simp)
             rw [if_neg c34] at H
             have c34b0 : decide ((rd l0_2 x8_2) < (rd t927 x8_2)) = F := decide_eq_false c34
             clear c34
             by_cases c35 : x8_2 < (t928.length : Int)
             ·rw [if_pos c35] at H
              have c35b0 : decide (x8_2 < (t928.length : Int)) = T := decide_eq_true c35
              clear c35
              by_cases c36 : (rd t928 x8_2) < (ji28)
              ·rw [if_pos c36] at H
               exact absurd H (by simp)
              rw [if_neg c36] at H
              have c36b0 : decide ((rd t928 x8_2) < (ji28)) = F := decide_eq_false c36
              clear c36
              by_cases c37 : (rd t928 x8_2) > (ji29)
              ·rw [if_pos c37] at H
               exact absurd H (by simp)
              rw [if_neg c37] at H
              have c37b0 : decide ((ji29) < (rd t928 x8_2)) = F := decide_eq_false c37
              clear c37
              by_cases c38 : x9_3 = T
              ·subst c38
               have H1 : (contangolaw25_InterBounds.l0 k3 l1 t927 t928 (wrap64 (x8_2 + 1)) l0_0 l0_1 l0_2) = some r := by rw [if_pos rfl] at H; exact H
               clear H
               have H := H1
               clear H1
               have H' := Aside0.mk H
               clear H
               have p942 : 0 ≤ (x8_2 : Int) := Ze
               have q942 : x8_2 < (t927.length : Int) := Ze
               obtain ⟨ad942, e942, hx942_0⟩ := Kd.at_int (Kd.R_reads' HO_5.out).2.2 x8_2 p942 q942
               cases e942
               replace p942 := eq_true p942
               replace q942 := eq_true q942
               have p943 : 0 ≤ (x8_2 : Int) := Ze
               have q943 : x8_2 < (t927.length : Int) := Ze
               obtain ⟨ad943, e943, hx943_0⟩ := Kd.at_int (Kd.R_reads' HO_5.out).2.2 x8_2 p943 q943
               obtain rfl : ad942 = ad943 := (by injection e943)
               replace p943 := eq_true p943
               replace q943 := eq_true q943
               obtain ⟨hcz39_0, hfz39_0⟩ := Zy (v := (.slice A0_0 l0_0.length c0_0)) BK926.out 0
               obtain ⟨hcz39_1, hfz39_1⟩ := Zy (v := (.slice (some ad940) l0_1.length c0_1)) BK926.out 1
               obtain ⟨hcz39_2, hfz39_2⟩ := Zy (v := (.slice A0_2 l0_2.length c0_2)) BK926.out 2
               have p944 : 0 ≤ (x8_2 : Int) := Ze
               have q944 : x8_2 < (l0_2.length : Int) := Ze
               obtain ⟨ad944, e944, hx944_0⟩ := Kd.at_int HR0_2.out x8_2 p944 q944
               cases e944
               replace hx944_0 := Zx HB.out hx944_0
               replace p944 := eq_true p944
               replace q944 := eq_true q944
               obtain ⟨Ao40, co40, eo40⟩ := Kd.R_slice HO_6.out
               subst eo40
               have p945 : 0 ≤ (x8_2 : Int) := Ze
               have q945 : x8_2 < (t928.length : Int) := Ze
               obtain ⟨ad945, e945, hx945_0⟩ := Kd.at_int (Kd.R_reads' HO_6.out).2.2 x8_2 p945 q945
               cases e945
               replace p945 := eq_true p945
               replace q945 := eq_true q945
               have p946 : 0 ≤ (x8_2 : Int) := Ze
               have q946 : x8_2 < (t928.length : Int) := Ze
               obtain ⟨ad946, e946, hx946_0⟩ := Kd.at_int (Kd.R_reads' HO_6.out).2.2 x8_2 p946 q946
               obtain rfl : ad945 = ad946 := (by injection e946)
               replace p946 := eq_true p946
               replace q946 := eq_true q946
               go_wp2
               repeat (go_quiet (fail); try go_wp2)
               go_roundg k3
               case measure => have := HJ7.out; have := HK2.out; have := HK3.out; omega
               case rel => exact ⟨(wrap64 (x8_2 + 1)), (Zs), H', ⟨by have := HJ7.out; have := HK2.out; have := HK3.out; omega⟩, ⟨Zr HO_5.out⟩, ⟨Zr HO_6.out⟩, ⟨Zu BK926.out⟩, ⟨Zc1 GE926.out⟩⟩
              replace c38 := Bool.eq_false_iff.mpr c38
              subst c38
              have H1 : (if (rd t927 x8_2) = 0 then (if (rd t928 x8_2) = (rd l0_1 x8_2) then (contangolaw25_InterBounds.l0 k3 l1 t927 t928 (wrap64 (x8_2 + 1)) l0_0 l0_1 l0_2) else (none)) else (none)) = some r := by rw [if_neg (show ¬ (F = T) by decide)] at H; exact H
              clear H
              have H := H1
              clear H1
              by_cases c41 : (rd t927 x8_2) = 0
              ·rw [if_pos c41] at H
               have c41b0 : ((rd t927 x8_2) == 0) = T := beq_iff_eq.mpr c41
               have c41b1 : ((rd t927 x8_2) != 0) = F := bne_eq_false_iff_eq.mpr c41
               clear c41
               have p942 : 0 ≤ (x8_2 : Int) := Ze
               have q942 : x8_2 < (t927.length : Int) := Ze
               obtain ⟨ad942, e942, hx942_0⟩ := Kd.at_int (Kd.R_reads' HO_5.out).2.2 x8_2 p942 q942
               cases e942
               replace p942 := eq_true p942
               replace q942 := eq_true q942
               have p943 : 0 ≤ (x8_2 : Int) := Ze
               have q943 : x8_2 < (t927.length : Int) := Ze
               obtain ⟨ad943, e943, hx943_0⟩ := Kd.at_int (Kd.R_reads' HO_5.out).2.2 x8_2 p943 q943
               obtain rfl : ad942 = ad943 := (by injection e943)
               replace p943 := eq_true p943
               replace q943 := eq_true q943
               obtain ⟨hcz42_0, hfz42_0⟩ := Zy (v := (.slice A0_0 l0_0.length c0_0)) BK926.out 0
               obtain ⟨hcz42_1, hfz42_1⟩ := Zy (v := (.slice (some ad940) l0_1.length c0_1)) BK926.out 1
               obtain ⟨hcz42_2, hfz42_2⟩ := Zy (v := (.slice A0_2 l0_2.length c0_2)) BK926.out 2
               have p944 : 0 ≤ (x8_2 : Int) := Ze
               have q944 : x8_2 < (l0_2.length : Int) := Ze
               obtain ⟨ad944, e944, hx944_0⟩ := Kd.at_int HR0_2.out x8_2 p944 q944
               cases e944
               replace hx944_0 := Zx HB.out hx944_0
               replace p944 := eq_true p944
               replace q944 := eq_true q944
               obtain ⟨Ao43, co43, eo43⟩ := Kd.R_slice HO_6.out
               subst eo43
               have p945 : 0 ≤ (x8_2 : Int) := Ze
               have q945 : x8_2 < (t928.length : Int) := Ze
               obtain ⟨ad945, e945, hx945_0⟩ := Kd.at_int (Kd.R_reads' HO_6.out).2.2 x8_2 p945 q945
               cases e945
               replace p945 := eq_true p945
               replace q945 := eq_true q945
               have p946 : 0 ≤ (x8_2 : Int) := Ze
               have q946 : x8_2 < (t928.length : Int) := Ze
               obtain ⟨ad946, e946, hx946_0⟩ := Kd.at_int (Kd.R_reads' HO_6.out).2.2 x8_2 p946 q946
               obtain rfl : ad945 = ad946 := (by injection e946)
               replace p946 := eq_true p946
               replace q946 := eq_true q946
               have p947 : 0 ≤ (x8_2 : Int) := Ze
               have q947 : x8_2 < (t927.length : Int) := Ze
               obtain ⟨ad947, e947, hx947_0⟩ := Kd.at_int (Kd.R_reads' HO_5.out).2.2 x8_2 p947 q947
               obtain rfl : ad942 = ad947 := (by injection e947)
               replace p947 := eq_true p947
               replace q947 := eq_true q947
               have p948 : 0 ≤ (x8_2 : Int) := Ze
               have q948 : x8_2 < (t928.length : Int) := Ze
               obtain ⟨ad948, e948, hx948_0⟩ := Kd.at_int (Kd.R_reads' HO_6.out).2.2 x8_2 p948 q948
               obtain rfl : ad945 = ad948 := (by injection e948)
               replace p948 := eq_true p948
               replace q948 := eq_true q948
               have p949 : 0 ≤ (x8_2 : Int) := Ze
               have q949 : x8_2 < (l0_1.length : Int) := Ze
               obtain ⟨ad949, e949, hx949_0⟩ := Kd.at_int HR0_1.out x8_2 p949 q949
               obtain rfl : ad940 = ad949 := (by injection e949)
               replace hx949_0 := Zx HB.out hx949_0
               replace p949 := eq_true p949
               replace q949 := eq_true q949
               go_upto_if 156 with (fail)
               repeat (go_quiet (fail); go_upto_if 156 with (fail))
               by_cases c44 : (rd t928 x8_2) = (rd l0_1 x8_2)
               ·rw [if_pos c44] at H
                have c44b0 : ((rd t928 x8_2) == (rd l0_1 x8_2)) = T := beq_iff_eq.mpr c44
                have c44b1 : ((rd t928 x8_2) != (rd l0_1 x8_2)) = F := bne_eq_false_iff_eq.mpr c44
                clear c44
                (try simp only [c44b0, c44b1])
                have H' := Aside0.mk H
                clear H
                go_wp2
                repeat (go_quiet (fail); try go_wp2)
                go_roundg k3
                case measure => have := HJ7.out; have := HK2.out; have := HK3.out; omega
                case rel => exact ⟨(wrap64 (x8_2 + 1)), (Zs), H', ⟨by have := HJ7.out; have := HK2.out; have := HK3.out; omega⟩, ⟨Zr HO_5.out⟩, ⟨Zr HO_6.out⟩, ⟨Zu BK926.out⟩, ⟨Zc1 GE926.out⟩⟩
               rw [if_neg c44] at H
               exact absurd H (by simp)
              rw [if_neg c41] at H
              exact absurd H (by simp)
             rw [if_neg c35] at H
             exact absurd H (by simp)
            rw [if_neg c33] at H
            exact absurd H (by simp)
           rw [if_neg c31] at H
           exact absurd H (by simp)
          rw [if_neg c27] at H
          exact absurd H (by simp)
         rw [if_neg c26] at H
         exact absurd H (by simp)
      rw [if_neg c17] at H
      have c17b0 : decide (x8_2 < (t927.length : Int)) = F := decide_eq_false c17
      clear c17
      (try simp only [c17b0])
      replace H := Option.bind_eq_some_iff.mp H
      obtain ⟨t935, A450, H⟩ := H
      replace H : (some t935) = some r := H
      have A45 := Aside0.mk A450
      clear A450
      obtain rfl := Option.some.inj H
      go_wp2_with (first | (go_at_call 47; (with_reducible refine (Qao.calls k2  t935 _ A45.out).mono ?_); rintro e w46 ⟨rfl, hb⟩; replace HO_5 := Aside0.mk (Kd.R_below (Zr HO_5.out) hb); replace HO_6 := Aside0.mk (Kd.R_below (Zr HO_6.out) hb); replace BK926 := Aside0.mk (Zi BK926.out hb); replace HB := Aside0.mk (Qaj (Zc1 GE926.out) hb); (try clear hb); (try clear hb2); (try clear hk); (try clear hi)))
      repeat (go_quiet (first | (go_at_call 47; (with_reducible refine (Qao.calls k2  t935 _ A45.out).mono ?_); rintro e w46 ⟨rfl, hb⟩; replace HO_5 := Aside0.mk (Kd.R_below (Zr HO_5.out) hb); replace HO_6 := Aside0.mk (Kd.R_below (Zr HO_6.out) hb); replace BK926 := Aside0.mk (Zi BK926.out hb); replace HB := Aside0.mk (Qaj (Zc1 GE926.out) hb); (try clear hb); (try clear hb2); (try clear hk); (try clear hi))); try go_wp2_with (first | (go_at_call 47; (with_reducible refine (Qao.calls k2  t935 _ A45.out).mono ?_); rintro e w46 ⟨rfl, hb⟩; replace HO_5 := Aside0.mk (Kd.R_below (Zr HO_5.out) hb); replace HO_6 := Aside0.mk (Kd.R_below (Zr HO_6.out) hb); replace BK926 := Aside0.mk (Zi BK926.out hb); replace HB := Aside0.mk (Qaj (Zc1 GE926.out) hb); (try clear hb); (try clear hb2); (try clear hk); (try clear hi))))
      go_ret
      exact ⟨Zq, Zc1 GE926.out⟩
 rw [if_neg c7] at H
 have c7b0 : (t929 == 0) = F := beq_eq_false_iff_ne.mpr c7
 have c7b1 : (t929 != 0) = T := bne_iff_ne.mpr c7
 (try simp only [c7b0, c7b1])
 by_cases c47 : (wrap64 ((t927.length : Int) + (t928.length : Int))) = 0
 ·rw [if_pos c47] at H
  have c47b0 : ((wrap64 ((t927.length : Int) + (t928.length : Int))) == 0) = T := beq_iff_eq.mpr c47
  have c47b1 : ((wrap64 ((t927.length : Int) + (t928.length : Int))) != 0) = F := bne_eq_false_iff_eq.mpr c47
  clear c47
  replace H := Option.bind_eq_some_iff.mp H
  obtain ⟨t934, A480, H⟩ := H
  replace H : (some t934) = some r := H
  have A48 := Aside0.mk A480
  clear A480
  obtain rfl := Option.some.inj H
  obtain ⟨Ao49, co49, eo49⟩ := Kd.R_slice HO931.out
  subst eo49
  obtain ⟨Ao50, co50, eo50⟩ := Kd.R_slice HO933.out
  subst eo50
  go_wp2_with (first | (go_at_call 47; (with_reducible refine (Qao.calls k  t934 _ A48.out).mono ?_); rintro e w51 ⟨rfl, hb⟩; replace HO931 := Aside0.mk (Kd.R_below (Zr HO931.out) hb); replace HO933 := Aside0.mk (Kd.R_below (Zr HO933.out) hb); replace BK926 := Aside0.mk (Zi BK926.out hb); replace HB := Aside0.mk (Qaj (Zc1 GE926.out) hb); (try clear hb); (try clear hb2); (try clear hk); (try clear hi)))
  repeat (go_quiet (first | (go_at_call 47; (with_reducible refine (Qao.calls k  t934 _ A48.out).mono ?_); rintro e w51 ⟨rfl, hb⟩; replace HO931 := Aside0.mk (Kd.R_below (Zr HO931.out) hb); replace HO933 := Aside0.mk (Kd.R_below (Zr HO933.out) hb); replace BK926 := Aside0.mk (Zi BK926.out hb); replace HB := Aside0.mk (Qaj (Zc1 GE926.out) hb); (try clear hb); (try clear hb2); (try clear hk); (try clear hi))); try go_wp2_with (first | (go_at_call 47; (with_reducible refine (Qao.calls k  t934 _ A48.out).mono ?_); rintro e w51 ⟨rfl, hb⟩; replace HO931 := Aside0.mk (Kd.R_below (Zr HO931.out) hb); replace HO933 := Aside0.mk (Kd.R_below (Zr HO933.out) hb); replace BK926 := Aside0.mk (Zi BK926.out hb); replace HB := Aside0.mk (Qaj (Zc1 GE926.out) hb); (try clear hb); (try clear hb2); (try clear hk); (try clear hi))))
  go_ret
  exact ⟨Zq, Zc1 GE926.out⟩
 rw [if_neg c47] at H
 exact absurd H (by simp)
end Go.Proofs.Ytggbflplbblgbaa.Pr
