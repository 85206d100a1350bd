/- Functions' values and contracts, as the print wrote them. -/
import Derived.Test.YtaembbndjpebhaaQ2A6P0
namespace Go.Proofs.Ytaembbndjpebhaa.Pr
open Go.RowKit Go.Proofs.YtaembbndjpebhaaW.PrintWords Go.Proofs.YtaembbndjpebhaaW.PrintLast Go.Proofs.YtaembbndjpebhaaW.PrintMore
attribute [local go_sem] max2_int min2_int max_two min_two max_three min_three max_four min_four   -- for this text's walks alone
set_option linter.unusedVariables false
set_option linter.unusedSimpArgs false
mutual
def bits_Div64.j2 : Nat → Int → Int → Int → Int → Int → Int → Int → Int → Option (Int × Int)
  | 0, _, _, _, _, _, _, _, _ => none
  | k + 1, x2, x8, x9, x10, x11, x13, x14, x15 => if x9 = 0 then (none) else (bits_Div64.l1 k x2 x8 x9 x10 x14 x15 (IntKind.u64.wrap ((IntKind.u64.wrap ((IntKind.u64.wrap ((IntKind.u64.wrap (x11 * 4294967296)) + x13)) - (IntKind.u64.wrap (x15 * x2)))) - (IntKind.u64.wrap ((IntKind.u64.wrap (Int.tdiv (IntKind.u64.wrap ((IntKind.u64.wrap ((IntKind.u64.wrap (x11 * 4294967296)) + x13)) - (IntKind.u64.wrap (x15 * x2)))) x9)) * x9)))) (IntKind.u64.wrap ((IntKind.u64.wrap ((IntKind.u64.wrap (x11 * 4294967296)) + x13)) - (IntKind.u64.wrap (x15 * x2)))) (IntKind.u64.wrap (Int.tdiv (IntKind.u64.wrap ((IntKind.u64.wrap ((IntKind.u64.wrap (x11 * 4294967296)) + x13)) - (IntKind.u64.wrap (x15 * x2)))) x9)))
def bits_Div64.l1 : Nat → Int → Int → Int → Int → Int → Int → Int → Int → Int → Option (Int × Int)
  | 0, _, _, _, _, _, _, _, _, _ => none
  | k + 1, x2, x8, x9, x10, x14, x15, x16, x17, x18 => if x18 ≥ 4294967296 then (bits_Div64.j4 k x2 x8 x9 x10 x14 x15 x16 x17 x18 true) else (bits_Div64.j4 k x2 x8 x9 x10 x14 x15 x16 x17 x18 (decide ((IntKind.u64.wrap (x18 * x10)) > (IntKind.u64.wrap ((IntKind.u64.wrap (4294967296 * x16)) + x14)))))
def bits_Div64.j4 : Nat → Int → Int → Int → Int → Int → Int → Int → Int → Int → Bool → Option (Int × Int)
  | 0, _, _, _, _, _, _, _, _, _, _ => none
  | k + 1, x2, x8, x9, x10, x14, x15, x16, x17, x18, x113 => if x113 = true then (if (IntKind.u64.wrap (x16 + x9)) ≥ 4294967296 then (if 0 ≤ x8 then (some (IntKind.u64.wrap ((IntKind.u64.wrap (x15 * 4294967296)) + (IntKind.u64.wrap (x18 - 1))), shr .u64 (IntKind.u64.wrap ((IntKind.u64.wrap ((IntKind.u64.wrap (x17 * 4294967296)) + x14)) - (IntKind.u64.wrap ((IntKind.u64.wrap (x18 - 1)) * x2)))) x8)) else (none)) else (bits_Div64.l1 k x2 x8 x9 x10 x14 x15 (IntKind.u64.wrap (x16 + x9)) x17 (IntKind.u64.wrap (x18 - 1)))) else (if 0 ≤ x8 then (some (IntKind.u64.wrap ((IntKind.u64.wrap (x15 * 4294967296)) + x18), shr .u64 (IntKind.u64.wrap ((IntKind.u64.wrap ((IntKind.u64.wrap (x17 * 4294967296)) + x14)) - (IntKind.u64.wrap (x18 * x2)))) x8)) else (none))
def bits_Div64.l0 : Nat → Int → Int → Int → Int → Int → Int → Int → Int → Int → Option (Int × Int)
  | 0, _, _, _, _, _, _, _, _, _ => none
  | k + 1, x2, x8, x9, x10, x11, x13, x14, x15, x16 => if x15 ≥ 4294967296 then (bits_Div64.j1 k x2 x8 x9 x10 x11 x13 x14 x15 x16 true) else (bits_Div64.j1 k x2 x8 x9 x10 x11 x13 x14 x15 x16 (decide ((IntKind.u64.wrap (x15 * x10)) > (IntKind.u64.wrap ((IntKind.u64.wrap (4294967296 * x16)) + x13)))))
def bits_Div64.j1 : Nat → Int → Int → Int → Int → Int → Int → Int → Int → Int → Bool → Option (Int × Int)
  | 0, _, _, _, _, _, _, _, _, _, _ => none
  | k + 1, x2, x8, x9, x10, x11, x13, x14, x15, x16, x78 => if x78 = true then (if (IntKind.u64.wrap (x16 + x9)) ≥ 4294967296 then (bits_Div64.j2 k x2 x8 x9 x10 x11 x13 x14 (IntKind.u64.wrap (x15 - 1))) else (bits_Div64.l0 k x2 x8 x9 x10 x11 x13 x14 (IntKind.u64.wrap (x15 - 1)) (IntKind.u64.wrap (x16 + x9)))) else (bits_Div64.j2 k x2 x8 x9 x10 x11 x13 x14 x15)
end
def bits_Div64.f (k : Nat) (a0 : Int) (a1 : Int) (a2 : Int) : Option (Int × Int) := if a2 = 0 then (none) else (if a2 ≤ a0 then (none) else (if a0 = 0 then (some (IntKind.u64.wrap (Int.tdiv a1 a2), Int.tmod a1 a2)) else ((bits_LeadingZeros64.f a2).bind fun t131 => (if 0 ≤ (IntKind.u64.wrap (t131)) then (if 0 ≤ (IntKind.u64.wrap (64 - (IntKind.u64.wrap (t131)))) then (if ((shl .u64 a2 (IntKind.u64.wrap (t131))) / 4294967296) = 0 then (none) else (bits_Div64.l0 k (shl .u64 a2 (IntKind.u64.wrap (t131))) (IntKind.u64.wrap (t131)) ((shl .u64 a2 (IntKind.u64.wrap (t131))) / 4294967296) (Go.bits .and .u64 (shl .u64 a2 (IntKind.u64.wrap (t131))) 4294967295) (Go.bits .or .u64 (shl .u64 a0 (IntKind.u64.wrap (t131))) (shr .u64 a1 (IntKind.u64.wrap (64 - (IntKind.u64.wrap (t131)))))) ((shl .u64 a1 (IntKind.u64.wrap (t131))) / 4294967296) (Go.bits .and .u64 (shl .u64 a1 (IntKind.u64.wrap (t131))) 4294967295) (IntKind.u64.wrap (Int.tdiv (Go.bits .or .u64 (shl .u64 a0 (IntKind.u64.wrap (t131))) (shr .u64 a1 (IntKind.u64.wrap (64 - (IntKind.u64.wrap (t131)))))) ((shl .u64 a2 (IntKind.u64.wrap (t131))) / 4294967296))) (IntKind.u64.wrap ((Go.bits .or .u64 (shl .u64 a0 (IntKind.u64.wrap (t131))) (shr .u64 a1 (IntKind.u64.wrap (64 - (IntKind.u64.wrap (t131)))))) - (IntKind.u64.wrap ((IntKind.u64.wrap (Int.tdiv (Go.bits .or .u64 (shl .u64 a0 (IntKind.u64.wrap (t131))) (shr .u64 a1 (IntKind.u64.wrap (64 - (IntKind.u64.wrap (t131)))))) ((shl .u64 a2 (IntKind.u64.wrap (t131))) / 4294967296))) * ((shl .u64 a2 (IntKind.u64.wrap (t131))) / 4294967296))))))) else (none)) else (none)))))
theorem bits_Div64.mono_l : ∀ k, (∀ y0 y1 y2 y3 y4 y5 y6 y7, LeO (bits_Div64.j2 k y0 y1 y2 y3 y4 y5 y6 y7) (bits_Div64.j2 (k + 1) y0 y1 y2 y3 y4 y5 y6 y7)) ∧ (∀ y0 y1 y2 y3 y4 y5 y6 y7 y8, LeO (bits_Div64.l1 k y0 y1 y2 y3 y4 y5 y6 y7 y8) (bits_Div64.l1 (k + 1) y0 y1 y2 y3 y4 y5 y6 y7 y8)) ∧ (∀ y0 y1 y2 y3 y4 y5 y6 y7 y8 y9, LeO (bits_Div64.j4 k y0 y1 y2 y3 y4 y5 y6 y7 y8 y9) (bits_Div64.j4 (k + 1) y0 y1 y2 y3 y4 y5 y6 y7 y8 y9)) ∧ (∀ y0 y1 y2 y3 y4 y5 y6 y7 y8, LeO (bits_Div64.l0 k y0 y1 y2 y3 y4 y5 y6 y7 y8) (bits_Div64.l0 (k + 1) y0 y1 y2 y3 y4 y5 y6 y7 y8)) ∧ (∀ y0 y1 y2 y3 y4 y5 y6 y7 y8 y9, LeO (bits_Div64.j1 k y0 y1 y2 y3 y4 y5 y6 y7 y8 y9) (bits_Div64.j1 (k + 1) y0 y1 y2 y3 y4 y5 y6 y7 y8 y9))
  | 0 => ⟨fun _ _ _ _ _ _ _ _ r h => by simp [bits_Div64.j2] at h, fun _ _ _ _ _ _ _ _ _ r h => by simp [bits_Div64.l1] at h, fun _ _ _ _ _ _ _ _ _ _ r h => by simp [bits_Div64.j4] at h, fun _ _ _ _ _ _ _ _ _ r h => by simp [bits_Div64.l0] at h, fun _ _ _ _ _ _ _ _ _ _ r h => by simp [bits_Div64.j1] at h⟩
  | k + 1 => by
    obtain ⟨ih0, ih1, ih2, ih3, ih4⟩ := bits_Div64.mono_l k
    refine ⟨?_, ?_, ?_, ?_, ?_⟩
    · intro y0 y1 y2 y3 y4 y5 y6 y7
      unfold bits_Div64.j2
      repeat' first
      | (with_reducible exact ih0 _ _ _ _ _ _ _ _)
      | (with_reducible exact ih1 _ _ _ _ _ _ _ _ _)
      | (with_reducible exact ih2 _ _ _ _ _ _ _ _ _ _)
      | (with_reducible exact ih3 _ _ _ _ _ _ _ _ _)
      | (with_reducible exact ih4 _ _ _ _ _ _ _ _ _ _)
      | (with_reducible exact LeO.refl _)
      | (with_reducible exact LeO.none _)
      | (with_reducible refine LeO.ite ?_ ?_)
      | (with_reducible refine LeO.bind ?_ (fun _ => ?_))
      | exact ih0 _ _ _ _ _ _ _ _
      | exact ih1 _ _ _ _ _ _ _ _ _
      | exact ih2 _ _ _ _ _ _ _ _ _ _
      | exact ih3 _ _ _ _ _ _ _ _ _
      | exact ih4 _ _ _ _ _ _ _ _ _ _
      | exact LeO.none _
      | refine LeO.ite ?_ ?_
      | refine LeO.bind ?_ (fun _ => ?_)
    · intro y0 y1 y2 y3 y4 y5 y6 y7 y8
      unfold bits_Div64.l1
      repeat' first
      | (with_reducible exact ih0 _ _ _ _ _ _ _ _)
      | (with_reducible exact ih1 _ _ _ _ _ _ _ _ _)
      | (with_reducible exact ih2 _ _ _ _ _ _ _ _ _ _)
      | (with_reducible exact ih3 _ _ _ _ _ _ _ _ _)
      | (with_reducible exact ih4 _ _ _ _ _ _ _ _ _ _)
      | (with_reducible exact LeO.refl _)
      | (with_reducible exact LeO.none _)
      | (with_reducible refine LeO.ite ?_ ?_)
      | (with_reducible refine LeO.bind ?_ (fun _ => ?_))
      | exact ih0 _ _ _ _ _ _ _ _
      | exact ih1 _ _ _ _ _ _ _ _ _
      | exact ih2 _ _ _ _ _ _ _ _ _ _
      | exact ih3 _ _ _ _ _ _ _ _ _
      | exact ih4 _ _ _ _ _ _ _ _ _ _
      | exact LeO.none _
      | refine LeO.ite ?_ ?_
      | refine LeO.bind ?_ (fun _ => ?_)
    · intro y0 y1 y2 y3 y4 y5 y6 y7 y8 y9
      unfold bits_Div64.j4
      repeat' first
      | (with_reducible exact ih0 _ _ _ _ _ _ _ _)
      | (with_reducible exact ih1 _ _ _ _ _ _ _ _ _)
      | (with_reducible exact ih2 _ _ _ _ _ _ _ _ _ _)
      | (with_reducible exact ih3 _ _ _ _ _ _ _ _ _)
      | (with_reducible exact ih4 _ _ _ _ _ _ _ _ _ _)
      | (with_reducible exact LeO.refl _)
      | (with_reducible exact LeO.none _)
      | (with_reducible refine LeO.ite ?_ ?_)
      | (with_reducible refine LeO.bind ?_ (fun _ => ?_))
      | exact ih0 _ _ _ _ _ _ _ _
      | exact ih1 _ _ _ _ _ _ _ _ _
      | exact ih2 _ _ _ _ _ _ _ _ _ _
      | exact ih3 _ _ _ _ _ _ _ _ _
      | exact ih4 _ _ _ _ _ _ _ _ _ _
      | exact LeO.none _
      | refine LeO.ite ?_ ?_
      | refine LeO.bind ?_ (fun _ => ?_)
    · intro y0 y1 y2 y3 y4 y5 y6 y7 y8
      unfold bits_Div64.l0
      repeat' first
      | (with_reducible exact ih0 _ _ _ _ _ _ _ _)
      | (with_reducible exact ih1 _ _ _ _ _ _ _ _ _)
      | (with_reducible exact ih2 _ _ _ _ _ _ _ _ _ _)
      | (with_reducible exact ih3 _ _ _ _ _ _ _ _ _)
      | (with_reducible exact ih4 _ _ _ _ _ _ _ _ _ _)
      | (with_reducible exact LeO.refl _)
      | (with_reducible exact LeO.none _)
      | (with_reducible refine LeO.ite ?_ ?_)
      | (with_reducible refine LeO.bind ?_ (fun _ => ?_))
      | exact ih0 _ _ _ _ _ _ _ _
      | exact ih1 _ _ _ _ _ _ _ _ _
      | exact ih2 _ _ _ _ _ _ _ _ _ _
      | exact ih3 _ _ _ _ _ _ _ _ _
      | exact ih4 _ _ _ _ _ _ _ _ _ _
      | exact LeO.none _
      | refine LeO.ite ?_ ?_
      | refine LeO.bind ?_ (fun _ => ?_)
    · intro y0 y1 y2 y3 y4 y5 y6 y7 y8 y9
      unfold bits_Div64.j1
      repeat' first
      | (with_reducible exact ih0 _ _ _ _ _ _ _ _)
      | (with_reducible exact ih1 _ _ _ _ _ _ _ _ _)
      | (with_reducible exact ih2 _ _ _ _ _ _ _ _ _ _)
      | (with_reducible exact ih3 _ _ _ _ _ _ _ _ _)
      | (with_reducible exact ih4 _ _ _ _ _ _ _ _ _ _)
      | (with_reducible exact LeO.refl _)
      | (with_reducible exact LeO.none _)
      | (with_reducible refine LeO.ite ?_ ?_)
      | (with_reducible refine LeO.bind ?_ (fun _ => ?_))
      | exact ih0 _ _ _ _ _ _ _ _
      | exact ih1 _ _ _ _ _ _ _ _ _
      | exact ih2 _ _ _ _ _ _ _ _ _ _
      | exact ih3 _ _ _ _ _ _ _ _ _
      | exact ih4 _ _ _ _ _ _ _ _ _ _
      | exact LeO.none _
      | refine LeO.ite ?_ ?_
      | refine LeO.bind ?_ (fun _ => ?_)
theorem bits_Div64.mono : ∀ a0 a1 a2 k, LeO (bits_Div64.f k a0 a1 a2) (bits_Div64.f (k + 1) a0 a1 a2) := by
  intro a0 a1 a2 k
  obtain ⟨ih0, ih1, ih2, ih3, ih4⟩ := bits_Div64.mono_l k
  unfold bits_Div64.f
  repeat' first
      | (with_reducible exact ih0 _ _ _ _ _ _ _ _)
      | (with_reducible exact ih1 _ _ _ _ _ _ _ _ _)
      | (with_reducible exact ih2 _ _ _ _ _ _ _ _ _ _)
      | (with_reducible exact ih3 _ _ _ _ _ _ _ _ _)
      | (with_reducible exact ih4 _ _ _ _ _ _ _ _ _ _)
      | (with_reducible exact LeO.refl _)
      | (with_reducible exact LeO.none _)
      | (with_reducible refine LeO.ite ?_ ?_)
      | (with_reducible refine LeO.bind ?_ (fun _ => ?_))
      | exact ih0 _ _ _ _ _ _ _ _
      | exact ih1 _ _ _ _ _ _ _ _ _
      | exact ih2 _ _ _ _ _ _ _ _ _ _
      | exact ih3 _ _ _ _ _ _ _ _ _
      | exact ih4 _ _ _ _ _ _ _ _ _ _
      | exact LeO.none _
      | refine LeO.ite ?_ ?_
      | refine LeO.bind ?_ (fun _ => ?_)
set_option maxHeartbeats 8000000 in
set_option maxRecDepth 100000 in
theorem bits_Div64.calls (k : Nat) (a0 : Int) (a1 : Int) (a2 : Int) (r1 : Int) (r2 : Int) (w : World) (h : bits_Div64.f k a0 a1 a2 = some (r1, r2)) :
    Calls Try.prog 72 #[.int .u64 a0, .int .u64 a1, .int .u64 a2] w fun e w' => e = .returned (.tuple #[.int .u64 r1, .int .u64 r2]) ∧ Drawn0 w w' := by
  have H : (if a2 = 0 then (none) else (if a2 ≤ a0 then (none) else (if a0 = 0 then (some (IntKind.u64.wrap (Int.tdiv a1 a2), Int.tmod a1 a2)) else ((bits_LeadingZeros64.f a2).bind fun t131 => (if 0 ≤ (IntKind.u64.wrap (t131)) then (if 0 ≤ (IntKind.u64.wrap (64 - (IntKind.u64.wrap (t131)))) then (if ((shl .u64 a2 (IntKind.u64.wrap (t131))) / 4294967296) = 0 then (none) else (bits_Div64.l0 k (shl .u64 a2 (IntKind.u64.wrap (t131))) (IntKind.u64.wrap (t131)) ((shl .u64 a2 (IntKind.u64.wrap (t131))) / 4294967296) (Go.bits .and .u64 (shl .u64 a2 (IntKind.u64.wrap (t131))) 4294967295) (Go.bits .or .u64 (shl .u64 a0 (IntKind.u64.wrap (t131))) (shr .u64 a1 (IntKind.u64.wrap (64 - (IntKind.u64.wrap (t131)))))) ((shl .u64 a1 (IntKind.u64.wrap (t131))) / 4294967296) (Go.bits .and .u64 (shl .u64 a1 (IntKind.u64.wrap (t131))) 4294967295) (IntKind.u64.wrap (Int.tdiv (Go.bits .or .u64 (shl .u64 a0 (IntKind.u64.wrap (t131))) (shr .u64 a1 (IntKind.u64.wrap (64 - (IntKind.u64.wrap (t131)))))) ((shl .u64 a2 (IntKind.u64.wrap (t131))) / 4294967296))) (IntKind.u64.wrap ((Go.bits .or .u64 (shl .u64 a0 (IntKind.u64.wrap (t131))) (shr .u64 a1 (IntKind.u64.wrap (64 - (IntKind.u64.wrap (t131)))))) - (IntKind.u64.wrap ((IntKind.u64.wrap (Int.tdiv (Go.bits .or .u64 (shl .u64 a0 (IntKind.u64.wrap (t131))) (shr .u64 a1 (IntKind.u64.wrap (64 - (IntKind.u64.wrap (t131)))))) ((shl .u64 a2 (IntKind.u64.wrap (t131))) / 4294967296))) * ((shl .u64 a2 (IntKind.u64.wrap (t131))) / 4294967296))))))) else (none)) else (none)))))) = some (r1, r2) := h
  clear h
  by_cases c4 : a2 = 0
  · rw [if_pos c4] at H
    exact absurd H (by simp)
  · rw [if_neg c4] at H
    have c4b0 : (a2 == 0) = false := beq_eq_false_iff_ne.mpr c4
    have c4b1 : (a2 != 0) = true := bne_iff_ne.mpr c4
    by_cases c5 : a2 ≤ a0
    · rw [if_pos c5] at H
      exact absurd H (by simp)
    · rw [if_neg c5] at H
      have c5b0 : decide (a2 ≤ a0) = false := decide_eq_false c5
      clear c5
      by_cases c6 : a0 = 0
      · rw [if_pos c6] at H
        have c6b0 : (a0 == 0) = true := beq_iff_eq.mpr c6
        have c6b1 : (a0 != 0) = false := bne_eq_false_iff_eq.mpr c6
        clear c6
        simp only [Option.some.injEq, Prod.mk.injEq] at H
        obtain ⟨rfl, rfl⟩ := H
        go_enter Try.func72, Try.ntmps72
        go_wp2
        repeat (go_quiet (fail); try go_wp2)
        go_ret2
        exact ⟨by first | rfl | (simp; done) | (simp [*]; done), by repeat (first | exact Drawn0.refl _ | apply Drawn0.step)⟩
      · rw [if_neg c6] at H
        have c6b0 : (a0 == 0) = false := beq_eq_false_iff_ne.mpr c6
        have c6b1 : (a0 != 0) = true := bne_iff_ne.mpr c6
        replace H := Option.bind_eq_some_iff.mp H
        obtain ⟨t131, A70, H⟩ := H
        replace H : (if 0 ≤ (IntKind.u64.wrap (t131)) then (if 0 ≤ (IntKind.u64.wrap (64 - (IntKind.u64.wrap (t131)))) then (if ((shl .u64 a2 (IntKind.u64.wrap (t131))) / 4294967296) = 0 then (none) else (bits_Div64.l0 k (shl .u64 a2 (IntKind.u64.wrap (t131))) (IntKind.u64.wrap (t131)) ((shl .u64 a2 (IntKind.u64.wrap (t131))) / 4294967296) (Go.bits .and .u64 (shl .u64 a2 (IntKind.u64.wrap (t131))) 4294967295) (Go.bits .or .u64 (shl .u64 a0 (IntKind.u64.wrap (t131))) (shr .u64 a1 (IntKind.u64.wrap (64 - (IntKind.u64.wrap (t131)))))) ((shl .u64 a1 (IntKind.u64.wrap (t131))) / 4294967296) (Go.bits .and .u64 (shl .u64 a1 (IntKind.u64.wrap (t131))) 4294967295) (IntKind.u64.wrap (Int.tdiv (Go.bits .or .u64 (shl .u64 a0 (IntKind.u64.wrap (t131))) (shr .u64 a1 (IntKind.u64.wrap (64 - (IntKind.u64.wrap (t131)))))) ((shl .u64 a2 (IntKind.u64.wrap (t131))) / 4294967296))) (IntKind.u64.wrap ((Go.bits .or .u64 (shl .u64 a0 (IntKind.u64.wrap (t131))) (shr .u64 a1 (IntKind.u64.wrap (64 - (IntKind.u64.wrap (t131)))))) - (IntKind.u64.wrap ((IntKind.u64.wrap (Int.tdiv (Go.bits .or .u64 (shl .u64 a0 (IntKind.u64.wrap (t131))) (shr .u64 a1 (IntKind.u64.wrap (64 - (IntKind.u64.wrap (t131)))))) ((shl .u64 a2 (IntKind.u64.wrap (t131))) / 4294967296))) * ((shl .u64 a2 (IntKind.u64.wrap (t131))) / 4294967296))))))) else (none)) else (none)) = some (r1, r2) := H
        have A7 := Aside0.mk A70
        clear A70
        obtain ⟨ji8, hji8⟩ : ∃ j_ : Int, (IntKind.u64.wrap (t131)) = j_ := ⟨_, rfl⟩
        replace H : (if 0 ≤ (ji8) then (if 0 ≤ (IntKind.u64.wrap (64 - (ji8))) then (if ((shl .u64 a2 (ji8)) / 4294967296) = 0 then (none) else (bits_Div64.l0 k (shl .u64 a2 (ji8)) ji8 ((shl .u64 a2 (ji8)) / 4294967296) (Go.bits .and .u64 (shl .u64 a2 (ji8)) 4294967295) (Go.bits .or .u64 (shl .u64 a0 (ji8)) (shr .u64 a1 (IntKind.u64.wrap (64 - (ji8))))) ((shl .u64 a1 (ji8)) / 4294967296) (Go.bits .and .u64 (shl .u64 a1 (ji8)) 4294967295) (IntKind.u64.wrap (Int.tdiv (Go.bits .or .u64 (shl .u64 a0 (ji8)) (shr .u64 a1 (IntKind.u64.wrap (64 - (ji8))))) ((shl .u64 a2 (ji8)) / 4294967296))) (IntKind.u64.wrap ((Go.bits .or .u64 (shl .u64 a0 (ji8)) (shr .u64 a1 (IntKind.u64.wrap (64 - (ji8))))) - (IntKind.u64.wrap ((IntKind.u64.wrap (Int.tdiv (Go.bits .or .u64 (shl .u64 a0 (ji8)) (shr .u64 a1 (IntKind.u64.wrap (64 - (ji8))))) ((shl .u64 a2 (ji8)) / 4294967296))) * ((shl .u64 a2 (ji8)) / 4294967296))))))) else (none)) else (none)) = some (r1, r2) := by first | (rw [hji8] at H; exact H) | (simp only [hji8] at H ⊢; exact H)
        (try rw [hji8] at A7)
        by_cases c9 : 0 ≤ (ji8)
        · rw [if_pos c9] at H
          have c9b0 := eq_true c9
          have c9b1 : decide (0 ≤ (ji8)) = true := decide_eq_true c9
          clear c9
          obtain ⟨ji10, hji10⟩ : ∃ j_ : Int, (shl .u64 a2 (ji8)) = j_ := ⟨_, rfl⟩
          replace H : (if 0 ≤ (IntKind.u64.wrap (64 - (ji8))) then (if ((ji10) / 4294967296) = 0 then (none) else (bits_Div64.l0 k ji10 ji8 ((ji10) / 4294967296) (Go.bits .and .u64 (ji10) 4294967295) (Go.bits .or .u64 (shl .u64 a0 (ji8)) (shr .u64 a1 (IntKind.u64.wrap (64 - (ji8))))) ((shl .u64 a1 (ji8)) / 4294967296) (Go.bits .and .u64 (shl .u64 a1 (ji8)) 4294967295) (IntKind.u64.wrap (Int.tdiv (Go.bits .or .u64 (shl .u64 a0 (ji8)) (shr .u64 a1 (IntKind.u64.wrap (64 - (ji8))))) ((ji10) / 4294967296))) (IntKind.u64.wrap ((Go.bits .or .u64 (shl .u64 a0 (ji8)) (shr .u64 a1 (IntKind.u64.wrap (64 - (ji8))))) - (IntKind.u64.wrap ((IntKind.u64.wrap (Int.tdiv (Go.bits .or .u64 (shl .u64 a0 (ji8)) (shr .u64 a1 (IntKind.u64.wrap (64 - (ji8))))) ((ji10) / 4294967296))) * ((ji10) / 4294967296))))))) else (none)) = some (r1, r2) := by first | (rw [hji10] at H; exact H) | (simp only [hji10] at H ⊢; exact H)
          (try rw [hji10] at A7)
          have hji10_ : (IntKind.u64.wrap (a2 * 2 ^ min (ji8).toNat 64)) = ji10 := hji10
          have hji10z : (ji8) ≤ 64 → (IntKind.u64.wrap (a2 * 2 ^ (ji8).toNat)) = ji10 := shl_small hji10
          have c11b0 := eq_true (of_decide_eq_true (by first | (with_reducible assumption) | assumption) : 0 ≤ (ji8))
          obtain ⟨ji12, hji12⟩ : ∃ j_ : Int, (shl .u64 a0 (ji8)) = j_ := ⟨_, rfl⟩
          replace H : (if 0 ≤ (IntKind.u64.wrap (64 - (ji8))) then (if ((ji10) / 4294967296) = 0 then (none) else (bits_Div64.l0 k ji10 ji8 ((ji10) / 4294967296) (Go.bits .and .u64 (ji10) 4294967295) (Go.bits .or .u64 (ji12) (shr .u64 a1 (IntKind.u64.wrap (64 - (ji8))))) ((shl .u64 a1 (ji8)) / 4294967296) (Go.bits .and .u64 (shl .u64 a1 (ji8)) 4294967295) (IntKind.u64.wrap (Int.tdiv (Go.bits .or .u64 (ji12) (shr .u64 a1 (IntKind.u64.wrap (64 - (ji8))))) ((ji10) / 4294967296))) (IntKind.u64.wrap ((Go.bits .or .u64 (ji12) (shr .u64 a1 (IntKind.u64.wrap (64 - (ji8))))) - (IntKind.u64.wrap ((IntKind.u64.wrap (Int.tdiv (Go.bits .or .u64 (ji12) (shr .u64 a1 (IntKind.u64.wrap (64 - (ji8))))) ((ji10) / 4294967296))) * ((ji10) / 4294967296))))))) else (none)) = some (r1, r2) := by first | (rw [hji12] at H; exact H) | (simp only [hji12] at H ⊢; exact H)
          (try rw [hji12] at A7)
          have hji12_ : (IntKind.u64.wrap (a0 * 2 ^ min (ji8).toNat 64)) = ji12 := hji12
          have hji12z : (ji8) ≤ 64 → (IntKind.u64.wrap (a0 * 2 ^ (ji8).toNat)) = ji12 := shl_small hji12
          obtain ⟨ji13, hji13⟩ : ∃ j_ : Int, (IntKind.u64.wrap (64 - (ji8))) = j_ := ⟨_, rfl⟩
          replace H : (if 0 ≤ (ji13) then (if ((ji10) / 4294967296) = 0 then (none) else (bits_Div64.l0 k ji10 ji8 ((ji10) / 4294967296) (Go.bits .and .u64 (ji10) 4294967295) (Go.bits .or .u64 (ji12) (shr .u64 a1 (ji13))) ((shl .u64 a1 (ji8)) / 4294967296) (Go.bits .and .u64 (shl .u64 a1 (ji8)) 4294967295) (IntKind.u64.wrap (Int.tdiv (Go.bits .or .u64 (ji12) (shr .u64 a1 (ji13))) ((ji10) / 4294967296))) (IntKind.u64.wrap ((Go.bits .or .u64 (ji12) (shr .u64 a1 (ji13))) - (IntKind.u64.wrap ((IntKind.u64.wrap (Int.tdiv (Go.bits .or .u64 (ji12) (shr .u64 a1 (ji13))) ((ji10) / 4294967296))) * ((ji10) / 4294967296))))))) else (none)) = some (r1, r2) := by first | (rw [hji13] at H; exact H) | (simp only [hji13] at H ⊢; exact H)
          (try rw [hji13] at A7)
          by_cases c14 : 0 ≤ (ji13)
          · rw [if_pos c14] at H
            have c14b0 := eq_true c14
            have c14b1 : decide (0 ≤ (ji13)) = true := decide_eq_true c14
            clear c14
            obtain ⟨ji15, hji15⟩ : ∃ j_ : Int, (shr .u64 a1 (ji13)) = j_ := ⟨_, rfl⟩
            replace H : (if ((ji10) / 4294967296) = 0 then (none) else (bits_Div64.l0 k ji10 ji8 ((ji10) / 4294967296) (Go.bits .and .u64 (ji10) 4294967295) (Go.bits .or .u64 (ji12) (ji15)) ((shl .u64 a1 (ji8)) / 4294967296) (Go.bits .and .u64 (shl .u64 a1 (ji8)) 4294967295) (IntKind.u64.wrap (Int.tdiv (Go.bits .or .u64 (ji12) (ji15)) ((ji10) / 4294967296))) (IntKind.u64.wrap ((Go.bits .or .u64 (ji12) (ji15)) - (IntKind.u64.wrap ((IntKind.u64.wrap (Int.tdiv (Go.bits .or .u64 (ji12) (ji15)) ((ji10) / 4294967296))) * ((ji10) / 4294967296))))))) = some (r1, r2) := by first | (rw [hji15] at H; exact H) | (simp only [hji15] at H ⊢; exact H)
            (try rw [hji15] at A7)
            have hji15_ : (a1 / 2 ^ min (ji13).toNat 64) = ji15 := hji15
            have hji15z : (ji13) ≤ 64 → (a1 / 2 ^ (ji13).toNat) = ji15 := shr_small hji15
            have c16b0 := eq_true (of_decide_eq_true (by first | (with_reducible assumption) | assumption) : 0 ≤ (ji8))
            obtain ⟨ji17, hji17⟩ : ∃ j_ : Int, (shl .u64 a1 (ji8)) = j_ := ⟨_, rfl⟩
            replace H : (if ((ji10) / 4294967296) = 0 then (none) else (bits_Div64.l0 k ji10 ji8 ((ji10) / 4294967296) (Go.bits .and .u64 (ji10) 4294967295) (Go.bits .or .u64 (ji12) (ji15)) ((ji17) / 4294967296) (Go.bits .and .u64 (ji17) 4294967295) (IntKind.u64.wrap (Int.tdiv (Go.bits .or .u64 (ji12) (ji15)) ((ji10) / 4294967296))) (IntKind.u64.wrap ((Go.bits .or .u64 (ji12) (ji15)) - (IntKind.u64.wrap ((IntKind.u64.wrap (Int.tdiv (Go.bits .or .u64 (ji12) (ji15)) ((ji10) / 4294967296))) * ((ji10) / 4294967296))))))) = some (r1, r2) := by first | (rw [hji17] at H; exact H) | (simp only [hji17] at H ⊢; exact H)
            (try rw [hji17] at A7)
            have hji17_ : (IntKind.u64.wrap (a1 * 2 ^ min (ji8).toNat 64)) = ji17 := hji17
            have hji17z : (ji8) ≤ 64 → (IntKind.u64.wrap (a1 * 2 ^ (ji8).toNat)) = ji17 := shl_small hji17
            by_cases c18 : ((ji10) / 4294967296) = 0
            · rw [if_pos c18] at H
              exact absurd H (by simp)
            · rw [if_neg c18] at H
              have c18b0 : (((ji10) / 4294967296) == 0) = false := beq_eq_false_iff_ne.mpr c18
              have c18b1 : (((ji10) / 4294967296) != 0) = true := bne_iff_ne.mpr c18
              have HC19 := Aside0.mk H
              clear H
              go_enter Try.func72, Try.ntmps72
              go_upto_block 0 with (first | (go_at_call 96; (with_reducible refine (bits_LeadingZeros64.calls a2 t131 _ A7.out).mono ?_); rintro e w' ⟨rfl, ⟨nd, rfl⟩⟩; (try first | exact ⟨rfl, _, World.drewN_drewN _ _ _⟩ | exact ⟨rfl, _, Eq.trans (World.drewN_drewN _ _ _) (congrArg (World.drewN _) (Nat.add_assoc _ _ _))⟩)))
              repeat (go_quiet (first | (go_at_call 96; (with_reducible refine (bits_LeadingZeros64.calls a2 t131 _ A7.out).mono ?_); rintro e w' ⟨rfl, ⟨nd, rfl⟩⟩; (try first | exact ⟨rfl, _, World.drewN_drewN _ _ _⟩ | exact ⟨rfl, _, Eq.trans (World.drewN_drewN _ _ _) (congrArg (World.drewN _) (Nat.add_assoc _ _ _))⟩))); go_upto_block 0 with (first | (go_at_call 96; (with_reducible refine (bits_LeadingZeros64.calls a2 t131 _ A7.out).mono ?_); rintro e w' ⟨rfl, ⟨nd, rfl⟩⟩; (try first | exact ⟨rfl, _, World.drewN_drewN _ _ _⟩ | exact ⟨rfl, _, Eq.trans (World.drewN_drewN _ _ _) (congrArg (World.drewN _) (Nat.add_assoc _ _ _))⟩))))
              (try simp only [Act.put, List.setIfInBounds_toArray, List.set_cons_zero, List.set_cons_succ])
              go_cut [15] (fun v15 wc => ∃ (kq : Nat) (x15_18 : Int), v15 = .int .u64 x15_18 ∧ Aside0 (bits_Div64.j2 kq ji10 ji8 ((ji10) / 4294967296) (Go.bits .and .u64 (ji10) 4294967295) (Go.bits .or .u64 (ji12) (ji15)) ((ji17) / 4294967296) (Go.bits .and .u64 (ji17) 4294967295) x15_18 = some (r1, r2)) ∧ Aside0 (kq ≤ k) ∧ Drawn0 w wc)
              case first =>
                have H := HC19.out
                clear HC19
                have H' := Aside0.mk H
                clear H
                go_wp2
                repeat (go_quiet (fail); try go_wp2)
                go_loopg [15, 16] k (fun kq v15 v16 w' => ∃ (x15_1 : Int) (x16_1 : Int), v15 = .int .u64 x15_1 ∧ v16 = .int .u64 x16_1 ∧ Aside0 (bits_Div64.l0 kq ji10 ji8 ((ji10) / 4294967296) (Go.bits .and .u64 (ji10) 4294967295) (Go.bits .or .u64 (ji12) (ji15)) ((ji17) / 4294967296) (Go.bits .and .u64 (ji17) 4294967295) x15_1 x16_1 = some (r1, r2)) ∧ Aside0 (kq ≤ k) ∧ Drawn0 w w')
                case atStart => exact ⟨(IntKind.u64.wrap (Int.tdiv (Go.bits .or .u64 (ji12) (ji15)) ((ji10) / 4294967296))), (IntKind.u64.wrap ((Go.bits .or .u64 (ji12) (ji15)) - (IntKind.u64.wrap ((IntKind.u64.wrap (Int.tdiv (Go.bits .or .u64 (ji12) (ji15)) ((ji10) / 4294967296))) * ((ji10) / 4294967296))))), (by first | rfl | (simp; done) | (simp only [← hji10, ← hji12, ← hji15] <;> (first | rfl | simp)) | (simp [*]; done)), (by first | rfl | (simp; done) | (simp only [← hji10, ← hji12, ← hji15] <;> (first | rfl | simp)) | (simp [*]; done)), H', ⟨Nat.le_refl _⟩, by repeat (first | exact Drawn0.refl _ | apply Drawn0.step)⟩
                case round =>
                  clear H'
                  try clear c1
                  try clear p2
                  try clear c4
                  try clear c4b0
                  try clear c4b1
                  try clear c5
                  try clear c5b0
                  try clear c6
                  try clear c6b0
                  try clear c6b1
                  try clear c7
                  try clear c9
                  try clear c9b0
                  try clear c9b1
                  try clear c11
                  try clear c11b0
                  try clear c14
                  try clear c14b0
                  try clear c14b1
                  try clear c16
                  try clear c16b0
                  try clear c18
                  try clear c18b0
                  try clear c18b1
                  obtain ⟨x15_1, x16_1, rfl, rfl, HA, HK1, ⟨m1, rfl⟩⟩ := hrel
                  cases gk with
                  | zero => exact absurd HA.out (by simp [bits_Div64.l0])
                  | succ k1 =>
                    have H := HA.out
                    clear HA
                    simp only [bits_Div64.l0] at H
                    have HC20 := Aside0.mk H
                    clear H
                    go_upto_region 17 with (fail)
                    repeat (go_quiet (fail); go_upto_region 17 with (fail))
                    go_cut [78] (fun v78 wc => ∃ (kq : Nat) (x78_19 : Bool), v78 = .bool x78_19 ∧ Aside0 (bits_Div64.j1 kq ji10 ji8 ((ji10) / 4294967296) (Go.bits .and .u64 (ji10) 4294967295) (Go.bits .or .u64 (ji12) (ji15)) ((ji17) / 4294967296) (Go.bits .and .u64 (ji17) 4294967295) x15_1 x16_1 x78_19 = some (r1, r2)) ∧ Aside0 (kq ≤ k1) ∧ Drawn0 w wc)
                    case first =>
                      have H := HC20.out
                      clear HC20
                      by_cases c21 : x15_1 ≥ 4294967296
                      · rw [if_pos c21] at H
                        have c21b0 : decide (4294967296 ≤ x15_1) = true := decide_eq_true c21
                        clear c21
                        have H' := Aside0.mk H
                        clear H
                        go_wp2
                        repeat (go_quiet (fail); try go_wp2)
                        go_meet
                        case rel => exact ⟨_, (true), (by first | rfl | (simp; done) | (simp [*]; done)), H', ⟨by have := HK1.out; first | omega | exact Nat.le_refl _⟩, by repeat (first | exact Drawn0.refl _ | apply Drawn0.step)⟩
                      · rw [if_neg c21] at H
                        have c21b0 : decide (4294967296 ≤ x15_1) = false := decide_eq_false c21
                        clear c21
                        have H' := Aside0.mk H
                        clear H
                        go_wp2
                        repeat (go_quiet (fail); try go_wp2)
                        go_meet
                        case rel => exact ⟨_, (decide ((IntKind.u64.wrap (x15_1 * (Go.bits .and .u64 (ji10) 4294967295))) > (IntKind.u64.wrap ((IntKind.u64.wrap (4294967296 * x16_1)) + ((ji17) / 4294967296))))), (by first | rfl | (simp; done) | (simp only [← hji10, ← hji17] <;> (first | rfl | simp)) | (simp [*]; done)), H', ⟨by have := HK1.out; first | omega | exact Nat.le_refl _⟩, by repeat (first | exact Drawn0.refl _ | apply Drawn0.step)⟩
                    case rest =>
                      clear HC20
                      try clear c1
                      try clear c2
                      try clear p2
                      try clear c4
                      try clear c4b0
                      try clear c4b1
                      try clear c5
                      try clear c5b0
                      try clear c6
                      try clear c6b0
                      try clear c6b1
                      try clear c7
                      try clear c9
                      try clear c9b0
                      try clear c9b1
                      try clear c11
                      try clear c11b0
                      try clear c14
                      try clear c14b0
                      try clear c14b1
                      try clear c16
                      try clear c16b0
                      try clear c18
                      try clear c18b0
                      try clear c18b1
                      try clear c21
                      try clear c21b0
                      try clear p2
                      obtain ⟨kq, x78_19, rfl, HA, HJ19, ⟨mc19, rfl⟩⟩ := hcut
                      cases kq with
                      | zero => exact absurd HA.out (by simp [bits_Div64.j1])
                      | succ kj19 =>
                        have H := HA.out
                        clear HA
                        simp only [bits_Div64.j1] at H
                        by_cases c22 : x78_19 = true
                        · subst c22
                          have H1 : (if (IntKind.u64.wrap (x16_1 + ((ji10) / 4294967296))) ≥ 4294967296 then (bits_Div64.j2 kj19 ji10 ji8 ((ji10) / 4294967296) (Go.bits .and .u64 (ji10) 4294967295) (Go.bits .or .u64 (ji12) (ji15)) ((ji17) / 4294967296) (Go.bits .and .u64 (ji17) 4294967295) (IntKind.u64.wrap (x15_1 - 1))) else (bits_Div64.l0 kj19 ji10 ji8 ((ji10) / 4294967296) (Go.bits .and .u64 (ji10) 4294967295) (Go.bits .or .u64 (ji12) (ji15)) ((ji17) / 4294967296) (Go.bits .and .u64 (ji17) 4294967295) (IntKind.u64.wrap (x15_1 - 1)) (IntKind.u64.wrap (x16_1 + ((ji10) / 4294967296))))) = some (r1, r2) := by rw [if_pos rfl] at H; exact H
                          clear H
                          have H := H1
                          clear H1
                          by_cases c23 : (IntKind.u64.wrap (x16_1 + ((ji10) / 4294967296))) ≥ 4294967296
                          · rw [if_pos c23] at H
                            have c23b0 : decide (4294967296 ≤ (IntKind.u64.wrap (x16_1 + ((ji10) / 4294967296)))) = true := decide_eq_true c23
                            clear c23
                            (try simp only [c23b0])
                            have H' := Aside0.mk H
                            clear H
                            go_wp2
                            repeat (go_quiet (fail); try go_wp2)
                            go_meet
                            case rel => exact ⟨_, (IntKind.u64.wrap (x15_1 - 1)), (by first | rfl | (simp; done) | (simp [*]; done)), H', ⟨by have := HK1.out; have := HJ19.out; first | omega | exact Nat.le_refl _⟩, by repeat (first | exact Drawn0.refl _ | apply Drawn0.step)⟩
                          · rw [if_neg c23] at H
                            have c23b0 : decide (4294967296 ≤ (IntKind.u64.wrap (x16_1 + ((ji10) / 4294967296)))) = false := decide_eq_false c23
                            clear c23
                            (try simp only [c23b0])
                            have H' := Aside0.mk H
                            clear H
                            go_wp2
                            repeat (go_quiet (fail); try go_wp2)
                            go_roundg kj19
                            case measure => have := HK1.out; have := HJ19.out; omega
                            case rel => exact ⟨(IntKind.u64.wrap (x15_1 - 1)), (IntKind.u64.wrap (x16_1 + ((ji10) / 4294967296))), (by first | rfl | (simp; done) | (simp [*]; done)), (by first | rfl | (simp; done) | (simp only [← hji10] <;> (first | rfl | simp)) | (simp [*]; done)), H', ⟨by have := HK1.out; have := HJ19.out; omega⟩, by repeat (first | exact Drawn0.refl _ | apply Drawn0.step)⟩
                        · replace c22 := Bool.eq_false_iff.mpr c22
                          subst c22
                          have H1 : (bits_Div64.j2 kj19 ji10 ji8 ((ji10) / 4294967296) (Go.bits .and .u64 (ji10) 4294967295) (Go.bits .or .u64 (ji12) (ji15)) ((ji17) / 4294967296) (Go.bits .and .u64 (ji17) 4294967295) x15_1) = some (r1, r2) := by rw [if_neg (show ¬ (false = true) by decide)] at H; exact H
                          clear H
                          have H := H1
                          clear H1
                          have H' := Aside0.mk H
                          clear H
                          go_wp2
                          repeat (go_quiet (fail); try go_wp2)
                          go_meet
                          case rel => exact ⟨_, (x15_1), (by first | rfl | (simp; done) | (simp [*]; done)), H', ⟨by have := HK1.out; have := HJ19.out; first | omega | exact Nat.le_refl _⟩, by repeat (first | exact Drawn0.refl _ | apply Drawn0.step)⟩
              case rest =>
                clear HC19
                try clear c1
                try clear c2
                try clear p2
                try clear c4
                try clear c4b0
                try clear c4b1
                try clear c5
                try clear c5b0
                try clear c6
                try clear c6b0
                try clear c6b1
                try clear c7
                try clear c9
                try clear c9b0
                try clear c9b1
                try clear c11
                try clear c11b0
                try clear c14
                try clear c14b0
                try clear c14b1
                try clear c16
                try clear c16b0
                try clear c18
                try clear c18b0
                try clear c18b1
                try clear c19
                try clear c21
                try clear c21b0
                try clear c22
                try clear c23
                try clear c23b0
                try clear p2
                obtain ⟨kq, x15_18, rfl, HA, HJ18, ⟨mc18, rfl⟩⟩ := hcut
                cases kq with
                | zero => exact absurd HA.out (by simp [bits_Div64.j2])
                | succ kj18 =>
                  have H := HA.out
                  clear HA
                  simp only [bits_Div64.j2] at H
                  by_cases c24 : ((ji10) / 4294967296) = 0
                  · rw [if_pos c24] at H
                    exact absurd H (by simp)
                  · rw [if_neg c24] at H
                    have c24b0 : (((ji10) / 4294967296) == 0) = false := beq_eq_false_iff_ne.mpr c24
                    have c24b1 : (((ji10) / 4294967296) != 0) = true := bne_iff_ne.mpr c24
                    have H' := Aside0.mk H
                    clear H
                    go_wp2
                    repeat (go_quiet (fail); try go_wp2)
                    go_loopg [16, 18] kj18 (fun kq v16 v18 w' => ∃ (x16_2 : Int) (x18_2 : Int), v16 = .int .u64 x16_2 ∧ v18 = .int .u64 x18_2 ∧ Aside0 (bits_Div64.l1 kq ji10 ji8 ((ji10) / 4294967296) (Go.bits .and .u64 (ji10) 4294967295) (Go.bits .and .u64 (ji17) 4294967295) x15_18 x16_2 (IntKind.u64.wrap ((IntKind.u64.wrap ((IntKind.u64.wrap ((Go.bits .or .u64 (ji12) (ji15)) * 4294967296)) + ((ji17) / 4294967296))) - (IntKind.u64.wrap (x15_18 * ji10)))) x18_2 = some (r1, r2)) ∧ Aside0 (kq ≤ kj18) ∧ Drawn0 w w')
                    case atStart => exact ⟨(IntKind.u64.wrap ((IntKind.u64.wrap ((IntKind.u64.wrap ((IntKind.u64.wrap ((Go.bits .or .u64 (ji12) (ji15)) * 4294967296)) + ((ji17) / 4294967296))) - (IntKind.u64.wrap (x15_18 * ji10)))) - (IntKind.u64.wrap ((IntKind.u64.wrap (Int.tdiv (IntKind.u64.wrap ((IntKind.u64.wrap ((IntKind.u64.wrap ((Go.bits .or .u64 (ji12) (ji15)) * 4294967296)) + ((ji17) / 4294967296))) - (IntKind.u64.wrap (x15_18 * ji10)))) ((ji10) / 4294967296))) * ((ji10) / 4294967296))))), (IntKind.u64.wrap (Int.tdiv (IntKind.u64.wrap ((IntKind.u64.wrap ((IntKind.u64.wrap ((Go.bits .or .u64 (ji12) (ji15)) * 4294967296)) + ((ji17) / 4294967296))) - (IntKind.u64.wrap (x15_18 * ji10)))) ((ji10) / 4294967296))), (by first | rfl | (simp; done) | (simp only [← hji10, ← hji12, ← hji15, ← hji17] <;> (first | rfl | simp)) | (simp [*]; done)), (by first | rfl | (simp; done) | (simp only [← hji10, ← hji12, ← hji15, ← hji17] <;> (first | rfl | simp)) | (simp [*]; done)), H', ⟨Nat.le_refl _⟩, by repeat (first | exact Drawn0.refl _ | apply Drawn0.step)⟩
                    case round =>
                      clear H'
                      try clear c1
                      try clear c2
                      try clear p2
                      try clear c4
                      try clear c4b0
                      try clear c4b1
                      try clear c5
                      try clear c5b0
                      try clear c6
                      try clear c6b0
                      try clear c6b1
                      try clear c7
                      try clear c9
                      try clear c9b0
                      try clear c9b1
                      try clear c11
                      try clear c11b0
                      try clear c14
                      try clear c14b0
                      try clear c14b1
                      try clear c16
                      try clear c16b0
                      try clear c18
                      try clear c18b0
                      try clear c18b1
                      try clear c19
                      try clear c21
                      try clear c21b0
                      try clear c22
                      try clear c23
                      try clear c23b0
                      try clear c24
                      try clear c24b0
                      try clear c24b1
                      try clear p2
                      obtain ⟨x16_2, x18_2, rfl, rfl, HA, HK2, ⟨m2, rfl⟩⟩ := hrel
                      cases gk with
                      | zero => exact absurd HA.out (by simp [bits_Div64.l1])
                      | succ k2 =>
                        have H := HA.out
                        clear HA
                        simp only [bits_Div64.l1] at H
                        have HC25 := Aside0.mk H
                        clear H
                        go_upto_region 24 with (fail)
                        repeat (go_quiet (fail); go_upto_region 24 with (fail))
                        go_cut [113] (fun v113 wc => ∃ (kq : Nat) (x113_24 : Bool), v113 = .bool x113_24 ∧ Aside0 (bits_Div64.j4 kq ji10 ji8 ((ji10) / 4294967296) (Go.bits .and .u64 (ji10) 4294967295) (Go.bits .and .u64 (ji17) 4294967295) x15_18 x16_2 (IntKind.u64.wrap ((IntKind.u64.wrap ((IntKind.u64.wrap ((Go.bits .or .u64 (ji12) (ji15)) * 4294967296)) + ((ji17) / 4294967296))) - (IntKind.u64.wrap (x15_18 * ji10)))) x18_2 x113_24 = some (r1, r2)) ∧ Aside0 (kq ≤ k2) ∧ Drawn0 w wc)
                        case first =>
                          have H := HC25.out
                          clear HC25
                          by_cases c26 : x18_2 ≥ 4294967296
                          · rw [if_pos c26] at H
                            have c26b0 : decide (4294967296 ≤ x18_2) = true := decide_eq_true c26
                            clear c26
                            have H' := Aside0.mk H
                            clear H
                            go_wp2
                            repeat (go_quiet (fail); try go_wp2)
                            go_meet
                            case rel => exact ⟨_, (true), (by first | rfl | (simp; done) | (simp [*]; done)), H', ⟨by have := HJ18.out; have := HK2.out; first | omega | exact Nat.le_refl _⟩, by repeat (first | exact Drawn0.refl _ | apply Drawn0.step)⟩
                          · rw [if_neg c26] at H
                            have c26b0 : decide (4294967296 ≤ x18_2) = false := decide_eq_false c26
                            clear c26
                            have H' := Aside0.mk H
                            clear H
                            go_wp2
                            repeat (go_quiet (fail); try go_wp2)
                            go_meet
                            case rel => exact ⟨_, (decide ((IntKind.u64.wrap (x18_2 * (Go.bits .and .u64 (ji10) 4294967295))) > (IntKind.u64.wrap ((IntKind.u64.wrap (4294967296 * x16_2)) + (Go.bits .and .u64 (ji17) 4294967295))))), (by first | rfl | (simp; done) | (simp only [← hji10, ← hji17] <;> (first | rfl | simp)) | (simp [*]; done)), H', ⟨by have := HJ18.out; have := HK2.out; first | omega | exact Nat.le_refl _⟩, by repeat (first | exact Drawn0.refl _ | apply Drawn0.step)⟩
                        case rest =>
                          clear HC25
                          try clear c1
                          try clear c2
                          try clear p2
                          try clear c4
                          try clear c4b0
                          try clear c4b1
                          try clear c5
                          try clear c5b0
                          try clear c6
                          try clear c6b0
                          try clear c6b1
                          try clear c7
                          try clear c9
                          try clear c9b0
                          try clear c9b1
                          try clear c11
                          try clear c11b0
                          try clear c14
                          try clear c14b0
                          try clear c14b1
                          try clear c16
                          try clear c16b0
                          try clear c18
                          try clear c18b0
                          try clear c18b1
                          try clear c19
                          try clear c21
                          try clear c21b0
                          try clear c22
                          try clear c23
                          try clear c23b0
                          try clear c24
                          try clear c24b0
                          try clear c24b1
                          try clear c26
                          try clear c26b0
                          try clear p2
                          obtain ⟨kq, x113_24, rfl, HA, HJ24, ⟨mc24, rfl⟩⟩ := hcut
                          cases kq with
                          | zero => exact absurd HA.out (by simp [bits_Div64.j4])
                          | succ kj24 =>
                            have H := HA.out
                            clear HA
                            simp only [bits_Div64.j4] at H
                            by_cases c27 : x113_24 = true
                            · subst c27
                              have H1 : (if (IntKind.u64.wrap (x16_2 + ((ji10) / 4294967296))) ≥ 4294967296 then (if 0 ≤ ji8 then (some (IntKind.u64.wrap ((IntKind.u64.wrap (x15_18 * 4294967296)) + (IntKind.u64.wrap (x18_2 - 1))), shr .u64 (IntKind.u64.wrap ((IntKind.u64.wrap ((IntKind.u64.wrap ((IntKind.u64.wrap ((IntKind.u64.wrap ((IntKind.u64.wrap ((Go.bits .or .u64 (ji12) (ji15)) * 4294967296)) + ((ji17) / 4294967296))) - (IntKind.u64.wrap (x15_18 * ji10)))) * 4294967296)) + (Go.bits .and .u64 (ji17) 4294967295))) - (IntKind.u64.wrap ((IntKind.u64.wrap (x18_2 - 1)) * ji10)))) ji8)) else (none)) else (bits_Div64.l1 kj24 ji10 ji8 ((ji10) / 4294967296) (Go.bits .and .u64 (ji10) 4294967295) (Go.bits .and .u64 (ji17) 4294967295) x15_18 (IntKind.u64.wrap (x16_2 + ((ji10) / 4294967296))) (IntKind.u64.wrap ((IntKind.u64.wrap ((IntKind.u64.wrap ((Go.bits .or .u64 (ji12) (ji15)) * 4294967296)) + ((ji17) / 4294967296))) - (IntKind.u64.wrap (x15_18 * ji10)))) (IntKind.u64.wrap (x18_2 - 1)))) = some (r1, r2) := by rw [if_pos rfl] at H; exact H
                              clear H
                              have H := H1
                              clear H1
                              by_cases c28 : (IntKind.u64.wrap (x16_2 + ((ji10) / 4294967296))) ≥ 4294967296
                              · rw [if_pos c28] at H
                                have c28b0 : decide (4294967296 ≤ (IntKind.u64.wrap (x16_2 + ((ji10) / 4294967296)))) = true := decide_eq_true c28
                                clear c28
                                (try simp only [c28b0])
                                by_cases c29 : 0 ≤ ji8
                                · rw [if_pos c29] at H
                                  have c29b0 := eq_true c29
                                  have c29b1 : decide (0 ≤ ji8) = true := decide_eq_true c29
                                  clear c29
                                  obtain ⟨ji30, hji30⟩ : ∃ j_ : Int, (shr .u64 (IntKind.u64.wrap ((IntKind.u64.wrap ((IntKind.u64.wrap ((IntKind.u64.wrap ((IntKind.u64.wrap ((IntKind.u64.wrap ((Go.bits .or .u64 (ji12) (ji15)) * 4294967296)) + ((ji17) / 4294967296))) - (IntKind.u64.wrap (x15_18 * ji10)))) * 4294967296)) + (Go.bits .and .u64 (ji17) 4294967295))) - (IntKind.u64.wrap ((IntKind.u64.wrap (x18_2 - 1)) * ji10)))) ji8) = j_ := ⟨_, rfl⟩
                                  replace H : (some (IntKind.u64.wrap ((IntKind.u64.wrap (x15_18 * 4294967296)) + (IntKind.u64.wrap (x18_2 - 1))), ji30)) = some (r1, r2) := by first | (rw [hji30] at H; exact H) | (simp only [hji30] at H ⊢; exact H)
                                  have hji30_ : ((IntKind.u64.wrap ((IntKind.u64.wrap ((IntKind.u64.wrap ((IntKind.u64.wrap ((IntKind.u64.wrap ((IntKind.u64.wrap ((Go.bits .or .u64 (ji12) (ji15)) * 4294967296)) + ((ji17) / 4294967296))) - (IntKind.u64.wrap (x15_18 * ji10)))) * 4294967296)) + (Go.bits .and .u64 (ji17) 4294967295))) - (IntKind.u64.wrap ((IntKind.u64.wrap (x18_2 - 1)) * ji10)))) / 2 ^ min ji8.toNat 64) = ji30 := hji30
                                  have hji30z : ji8 ≤ 64 → ((IntKind.u64.wrap ((IntKind.u64.wrap ((IntKind.u64.wrap ((IntKind.u64.wrap ((IntKind.u64.wrap ((IntKind.u64.wrap ((Go.bits .or .u64 (ji12) (ji15)) * 4294967296)) + ((ji17) / 4294967296))) - (IntKind.u64.wrap (x15_18 * ji10)))) * 4294967296)) + (Go.bits .and .u64 (ji17) 4294967295))) - (IntKind.u64.wrap ((IntKind.u64.wrap (x18_2 - 1)) * ji10)))) / 2 ^ ji8.toNat) = ji30 := shr_small hji30
                                  simp only [Option.some.injEq, Prod.mk.injEq] at H
                                  obtain ⟨rfl, rfl⟩ := H
                                  go_wp2
                                  repeat (go_quiet (fail); try go_wp2)
                                  go_ret2
                                  exact ⟨by first | rfl | (simp; done) | (simp only [← hji8, ← hji10, ← hji12, ← hji13, ← hji15, ← hji17, ← hji30] <;> (first | rfl | simp)) | (simp [*]; done), by repeat (first | exact Drawn0.refl _ | apply Drawn0.step)⟩
                                · rw [if_neg c29] at H
                                  exact absurd H (by simp)
                              · rw [if_neg c28] at H
                                have c28b0 : decide (4294967296 ≤ (IntKind.u64.wrap (x16_2 + ((ji10) / 4294967296)))) = false := decide_eq_false c28
                                clear c28
                                (try simp only [c28b0])
                                have H' := Aside0.mk H
                                clear H
                                go_wp2
                                repeat (go_quiet (fail); try go_wp2)
                                go_roundg kj24
                                case measure => have := HJ18.out; have := HK2.out; have := HJ24.out; omega
                                case rel => exact ⟨(IntKind.u64.wrap (x16_2 + ((ji10) / 4294967296))), (IntKind.u64.wrap (x18_2 - 1)), (by first | rfl | (simp; done) | (simp only [← hji10] <;> (first | rfl | simp)) | (simp [*]; done)), (by first | rfl | (simp; done) | (simp [*]; done)), H', ⟨by have := HJ18.out; have := HK2.out; have := HJ24.out; omega⟩, by repeat (first | exact Drawn0.refl _ | apply Drawn0.step)⟩
                            · replace c27 := Bool.eq_false_iff.mpr c27
                              subst c27
                              have H1 : (if 0 ≤ ji8 then (some (IntKind.u64.wrap ((IntKind.u64.wrap (x15_18 * 4294967296)) + x18_2), shr .u64 (IntKind.u64.wrap ((IntKind.u64.wrap ((IntKind.u64.wrap ((IntKind.u64.wrap ((IntKind.u64.wrap ((IntKind.u64.wrap ((Go.bits .or .u64 (ji12) (ji15)) * 4294967296)) + ((ji17) / 4294967296))) - (IntKind.u64.wrap (x15_18 * ji10)))) * 4294967296)) + (Go.bits .and .u64 (ji17) 4294967295))) - (IntKind.u64.wrap (x18_2 * ji10)))) ji8)) else (none)) = some (r1, r2) := by rw [if_neg (show ¬ (false = true) by decide)] at H; exact H
                              clear H
                              have H := H1
                              clear H1
                              by_cases c31 : 0 ≤ ji8
                              · rw [if_pos c31] at H
                                have c31b0 := eq_true c31
                                have c31b1 : decide (0 ≤ ji8) = true := decide_eq_true c31
                                clear c31
                                obtain ⟨ji32, hji32⟩ : ∃ j_ : Int, (shr .u64 (IntKind.u64.wrap ((IntKind.u64.wrap ((IntKind.u64.wrap ((IntKind.u64.wrap ((IntKind.u64.wrap ((IntKind.u64.wrap ((Go.bits .or .u64 (ji12) (ji15)) * 4294967296)) + ((ji17) / 4294967296))) - (IntKind.u64.wrap (x15_18 * ji10)))) * 4294967296)) + (Go.bits .and .u64 (ji17) 4294967295))) - (IntKind.u64.wrap (x18_2 * ji10)))) ji8) = j_ := ⟨_, rfl⟩
                                replace H : (some (IntKind.u64.wrap ((IntKind.u64.wrap (x15_18 * 4294967296)) + x18_2), ji32)) = some (r1, r2) := by first | (rw [hji32] at H; exact H) | (simp only [hji32] at H ⊢; exact H)
                                have hji32_ : ((IntKind.u64.wrap ((IntKind.u64.wrap ((IntKind.u64.wrap ((IntKind.u64.wrap ((IntKind.u64.wrap ((IntKind.u64.wrap ((Go.bits .or .u64 (ji12) (ji15)) * 4294967296)) + ((ji17) / 4294967296))) - (IntKind.u64.wrap (x15_18 * ji10)))) * 4294967296)) + (Go.bits .and .u64 (ji17) 4294967295))) - (IntKind.u64.wrap (x18_2 * ji10)))) / 2 ^ min ji8.toNat 64) = ji32 := hji32
                                have hji32z : ji8 ≤ 64 → ((IntKind.u64.wrap ((IntKind.u64.wrap ((IntKind.u64.wrap ((IntKind.u64.wrap ((IntKind.u64.wrap ((IntKind.u64.wrap ((Go.bits .or .u64 (ji12) (ji15)) * 4294967296)) + ((ji17) / 4294967296))) - (IntKind.u64.wrap (x15_18 * ji10)))) * 4294967296)) + (Go.bits .and .u64 (ji17) 4294967295))) - (IntKind.u64.wrap (x18_2 * ji10)))) / 2 ^ ji8.toNat) = ji32 := shr_small hji32
                                simp only [Option.some.injEq, Prod.mk.injEq] at H
                                obtain ⟨rfl, rfl⟩ := H
                                go_wp2
                                repeat (go_quiet (fail); try go_wp2)
                                go_ret2
                                exact ⟨by first | rfl | (simp; done) | (simp only [← hji8, ← hji10, ← hji12, ← hji13, ← hji15, ← hji17, ← hji32] <;> (first | rfl | simp)) | (simp [*]; done), by repeat (first | exact Drawn0.refl _ | apply Drawn0.step)⟩
                              · rw [if_neg c31] at H
                                exact absurd H (by simp)
          · rw [if_neg c14] at H
            exact absurd H (by simp)
        · rw [if_neg c9] at H
          exact absurd H (by simp)
theorem d64_wr (x : Int) : IntKind.u64.wrap x = x % 18446744073709551616 := IntKind.wrap_u64 x
/-- The guess is not below the quotient: what one round of the correction says. -/
theorem d64_le_of (U y q1 : Int) (hy : 0 < y) (h : q1 * y ≤ U) : q1 ≤ U / y := (Int.le_ediv_iff_mul_le hy).2 h
theorem d64_lt_of (U y q1 : Int) (hy : 0 < y) (h : U < q1 * y) : U / y < q1 := (Int.ediv_lt_iff_lt_mul hy).2 h
theorem d64_split (q yn1 yn0 : Int) : q * (yn1 * 4294967296 + yn0) = q * yn1 * 4294967296 + q * yn0 := by grind
structure d64_Inv (y yn1 yn0 un32 un1 q1 rhat : Int) : Prop where
  hy : y = yn1 * 4294967296 + yn0
  h1 : 2147483648 ≤ yn1
  h1' : yn1 < 4294967296
  h0 : 0 ≤ yn0
  h0' : yn0 < 4294967296
  hu : 0 ≤ un32
  hu' : un32 < y
  hn : 0 ≤ un1
  hn' : un1 < 4294967296
  hr : 0 ≤ rhat
  hr' : rhat < 4294967296
  hq : q1 * yn1 + rhat = un32
  hle : (un32 * 4294967296 + un1) / y ≤ q1
  hub : q1 ≤ 4294967297
theorem d64_q_lt {y un32 un1 : Int} (hy : 0 < y) (hu : un32 < y) (hn : un1 < 4294967296) : (un32 * 4294967296 + un1) / y < 4294967296 := d64_lt_of _ _ _ hy (by omega)
theorem d64_q_nn {y un32 un1 : Int} (hy : 0 < y) (hu : 0 ≤ un32) (hn : 0 ≤ un1) : 0 ≤ (un32 * 4294967296 + un1) / y := Int.ediv_nonneg (by omega) (by omega)
theorem d64_mul_bd {a b A B : Int} (ha : 0 ≤ a) (hb : 0 ≤ b) (hA : a ≤ A) (hB : b ≤ B) : 0 ≤ a * b ∧ a * b ≤ A * B := ⟨Int.mul_nonneg ha hb, Int.mul_le_mul hA hB hb (by omega)⟩
/-- The d64_test says yes: one less is still enough. -/
theorem d64_down {y yn1 yn0 un32 un1 q1 rhat : Int} (I : d64_Inv y yn1 yn0 un32 un1 q1 rhat) (h : 4294967296 ≤ q1 ∨ 4294967296 * rhat + un1 < q1 * yn0) : (un32 * 4294967296 + un1) / y ≤ q1 - 1 := by
  obtain ⟨hy, h1, h1', h0, h0', hu, hu', hn, hn', hr, hr', hq, hle, hub⟩ := I
  rcases h with h | h
  · have := d64_q_lt (y := y) (un32 := un32) (un1 := un1) (by omega) hu' hn'
    omega
  · have e := d64_split q1 yn1 yn0
    have := d64_lt_of (un32 * 4294967296 + un1) y q1 (by omega) (by rw [hy, e]; omega)
    omega
/-- It says no: the guess is the quotient. -/
theorem d64_stop {y yn1 yn0 un32 un1 q1 rhat : Int} (I : d64_Inv y yn1 yn0 un32 un1 q1 rhat) (h : q1 * yn0 ≤ 4294967296 * rhat + un1) : (un32 * 4294967296 + un1) / y = q1 := by
  obtain ⟨hy, h1, h1', h0, h0', hu, hu', hn, hn', hr, hr', hq, hle, hub⟩ := I
  have e := d64_split q1 yn1 yn0
  have := d64_le_of (un32 * 4294967296 + un1) y q1 (by omega) (by rw [hy, e]; omega)
  omega
/-- The rest is too great: the guess, less one, is the quotient. -/
theorem d64_brk {y yn1 yn0 un32 un1 q1 rhat : Int} (I : d64_Inv y yn1 yn0 un32 un1 q1 rhat) (h : (un32 * 4294967296 + un1) / y ≤ q1 - 1) (hb : 4294967296 ≤ rhat + yn1) : (un32 * 4294967296 + un1) / y = q1 - 1 := by
  obtain ⟨hy, h1, h1', h0, h0', hu, hu', hn, hn', hr, hr', hq, hle, hub⟩ := I
  have e := d64_split (q1 - 1) yn1 yn0
  have e2 : (q1 - 1) * yn1 = q1 * yn1 - yn1 := by grind
  have hq0 := d64_q_nn (y := y) (un32 := un32) (un1 := un1) (by omega) hu hn
  have hm := (d64_mul_bd (a := q1 - 1) (b := yn0) (A := 4294967296) (B := 4294967295) (by omega) h0 (by omega) (by omega)).2
  have := d64_le_of (un32 * 4294967296 + un1) y (q1 - 1) (by omega) (by rw [hy, e, e2]; omega)
  omega
theorem d64_next {y yn1 yn0 un32 un1 q1 rhat : Int} (I : d64_Inv y yn1 yn0 un32 un1 q1 rhat) (h : (un32 * 4294967296 + un1) / y ≤ q1 - 1) (hb : rhat + yn1 < 4294967296) : d64_Inv y yn1 yn0 un32 un1 (q1 - 1) (rhat + yn1) := by
  obtain ⟨hy, h1, h1', h0, h0', hu, hu', hn, hn', hr, hr', hq, hle, hub⟩ := I
  exact ⟨hy, h1, h1', h0, h0', hu, hu', hn, hn', by omega, hb, by grind, h, by omega⟩
theorem d64_first {y yn1 yn0 un32 un1 : Int} (hy : y = yn1 * 4294967296 + yn0) (h1 : 2147483648 ≤ yn1) (h1' : yn1 < 4294967296) (h0 : 0 ≤ yn0) (h0' : yn0 < 4294967296) (hu : 0 ≤ un32) (hu' : un32 < y) (hn : 0 ≤ un1) (hn' : un1 < 4294967296) :
    d64_Inv y yn1 yn0 un32 un1 (un32 / yn1) (un32 % yn1) := by
  have a := Int.emod_nonneg un32 (b := yn1) (by omega)
  have b := Int.emod_lt_of_pos un32 (b := yn1) (by omega)
  have c := Int.mul_ediv_add_emod un32 yn1
  have c' : un32 / yn1 * yn1 = yn1 * (un32 / yn1) := Int.mul_comm _ _
  refine ⟨hy, h1, h1', h0, h0', hu, hu', hn, hn', a, by omega, by omega, ?_, ?_⟩
  · have hy0 : 0 < y := by omega
    have hq0 := d64_q_nn (y := y) (un32 := un32) (un1 := un1) hy0 hu hn
    generalize hq : (un32 * 4294967296 + un1) / y = q at *
    have h := Int.ediv_mul_le (un32 * 4294967296 + un1) (b := y) (by omega)
    rw [hq, hy, d64_split] at h
    have hz := Int.mul_nonneg hq0 h0
    exact (Int.le_ediv_iff_mul_le (by omega)).2 (by omega)
  · have : un32 / yn1 < 4294967298 := (Int.ediv_lt_iff_lt_mul (by omega)).2 (by omega)
    omega
/-- What d64_both loops' tests come to. -/
theorem d64_test {y yn1 yn0 un32 un1 q1 rhat : Int} (I : d64_Inv y yn1 yn0 un32 un1 q1 rhat) (hq : ¬ 4294967296 ≤ q1) :
    IntKind.u64.wrap (q1 * yn0) = q1 * yn0 ∧ IntKind.u64.wrap (IntKind.u64.wrap (4294967296 * rhat) + un1) = 4294967296 * rhat + un1 := by
  obtain ⟨hy, h1, h1', h0, h0', hu, hu', hn, hn', hr, hr', hqq, hle, hub⟩ := I
  have hq0 := d64_q_nn (y := y) (un32 := un32) (un1 := un1) (by omega) hu hn
  have hm := d64_mul_bd (a := q1) (b := yn0) (A := 4294967295) (B := 4294967295) (by omega) h0 (by omega) (by omega)
  simp only [d64_wr]
  omega
theorem d64_loop0 (K : Nat) (ans : Option (Int × Int)) {y s yn1 yn0 un32 un1 un0 : Int} (hans : ∀ k, K ≤ k → bits_Div64.j2 k y s yn1 yn0 un32 un1 un0 ((un32 * 4294967296 + un1) / y) = ans) :
    ∀ (n : Nat) (q1 rhat : Int) (k : Nat), d64_Inv y yn1 yn0 un32 un1 q1 rhat → 4294967296 - rhat ≤ n * 2147483648 → K + 2 * n + 2 ≤ k → bits_Div64.l0 k y s yn1 yn0 un32 un1 un0 q1 rhat = ans := by
  intro n
  induction n with
  | zero => intro q1 rhat k I hm; have := I.hr'; omega
  | succ n ih =>
    intro q1 rhat k I hm hk
    obtain ⟨k, rfl⟩ : ∃ m, k = m + 2 := ⟨k - 2, by omega⟩
    have hq0 := d64_q_nn (y := y) (un32 := un32) (un1 := un1) (by have := I.hy; have := I.h1; have := I.h0; omega) I.hu I.hn
    have hub := I.hub
    have hle := I.hle
    have hr := I.hr
    have hr' := I.hr'
    have h1 := I.h1
    have h1' := I.h1'
    have w1 : IntKind.u64.wrap (rhat + yn1) = rhat + yn1 := by rw [d64_wr]; omega
    have yes : (un32 * 4294967296 + un1) / y ≤ q1 - 1 → bits_Div64.j1 (k + 1) y s yn1 yn0 un32 un1 un0 q1 rhat true = ans := by
      intro h
      have w2 : IntKind.u64.wrap (q1 - 1) = q1 - 1 := by rw [d64_wr]; omega
      simp only [bits_Div64.j1, if_true]
      rw [w1, w2]
      by_cases c : rhat + yn1 ≥ 4294967296
      · rw [if_pos c, ← d64_brk I h c]
        exact hans k (by omega)
      · rw [if_neg c]
        exact ih (q1 - 1) (rhat + yn1) k (d64_next I h (by omega)) (by omega) (by omega)
    simp only [bits_Div64.l0]
    by_cases c : q1 ≥ 4294967296
    · rw [if_pos c]
      exact yes (d64_down I (.inl c))
    · rw [if_neg c, (d64_test I c).1, (d64_test I c).2]
      by_cases d : q1 * yn0 > 4294967296 * rhat + un1
      · rw [decide_eq_true d]
        exact yes (d64_down I (.inr d))
      · rw [decide_eq_false d]
        simp only [bits_Div64.j1, Bool.false_eq_true, if_false]
        rw [← d64_stop I (by omega)]
        exact hans k (by omega)
theorem d64_loop1 {y s yn1 yn0 un21 un0 : Int} (q1 : Int) (hs : 0 ≤ s) (hq1 : 0 ≤ q1) (hq1' : q1 < 4294967296) (hyb : y < 18446744073709551616) :
    ∀ (n : Nat) (q0 rhat : Int) (k : Nat), d64_Inv y yn1 yn0 un21 un0 q0 rhat → 4294967296 - rhat ≤ n * 2147483648 → 2 * n + 2 ≤ k →
      bits_Div64.l1 k y s yn1 yn0 un0 q1 rhat un21 q0 = some (q1 * 4294967296 + (un21 * 4294967296 + un0) / y, shr .u64 ((un21 * 4294967296 + un0) % y) s) := by
  intro n
  induction n with
  | zero => intro q1 rhat k I hm; have := I.hr'; omega
  | succ n ih =>
    intro q0 rhat k I hm hk
    obtain ⟨k, rfl⟩ : ∃ m, k = m + 2 := ⟨k - 2, by omega⟩
    have hy0 : 0 < y := by have := I.hy; have := I.h1; have := I.h0; omega
    have hq0 := d64_q_nn (y := y) (un32 := un21) (un1 := un0) hy0 I.hu I.hn
    have hql := d64_q_lt (y := y) (un32 := un21) (un1 := un0) hy0 I.hu' I.hn'
    have hub := I.hub
    have hle := I.hle
    have hr := I.hr
    have hr' := I.hr'
    have h1 := I.h1
    have h1' := I.h1'
    have w1 : IntKind.u64.wrap (rhat + yn1) = rhat + yn1 := by rw [d64_wr]; omega
    have e1 := Int.emod_nonneg (un21 * 4294967296 + un0) (b := y) (by omega)
    have e2 := Int.emod_lt_of_pos (un21 * 4294967296 + un0) hy0
    have e3 := Int.mul_ediv_add_emod (un21 * 4294967296 + un0) y
    have e4 : (un21 * 4294967296 + un0) / y * y = y * ((un21 * 4294967296 + un0) / y) := Int.mul_comm _ _
    have fin : IntKind.u64.wrap (IntKind.u64.wrap (q1 * 4294967296) + (un21 * 4294967296 + un0) / y) = q1 * 4294967296 + (un21 * 4294967296 + un0) / y := by
      simp only [d64_wr]; omega
    have fin2 : IntKind.u64.wrap (IntKind.u64.wrap (IntKind.u64.wrap (un21 * 4294967296) + un0) - IntKind.u64.wrap ((un21 * 4294967296 + un0) / y * y)) = (un21 * 4294967296 + un0) % y := by
      simp only [d64_wr]; omega
    have yes : (un21 * 4294967296 + un0) / y ≤ q0 - 1 → bits_Div64.j4 (k + 1) y s yn1 yn0 un0 q1 rhat un21 q0 true = some (q1 * 4294967296 + (un21 * 4294967296 + un0) / y, shr .u64 ((un21 * 4294967296 + un0) % y) s) := by
      intro h
      have w2 : IntKind.u64.wrap (q0 - 1) = q0 - 1 := by rw [d64_wr]; omega
      simp only [bits_Div64.j4, if_true]
      rw [w1, w2]
      by_cases c : rhat + yn1 ≥ 4294967296
      · rw [if_pos c, if_pos hs, ← d64_brk I h c, fin, fin2]
      · rw [if_neg c]
        exact ih (q0 - 1) (rhat + yn1) k (d64_next I h (by omega)) (by omega) (by omega)
    simp only [bits_Div64.l1]
    by_cases c : q0 ≥ 4294967296
    · rw [if_pos c]
      exact yes (d64_down I (.inl c))
    · rw [if_neg c, (d64_test I c).1, (d64_test I c).2]
      by_cases d : q0 * yn0 > 4294967296 * rhat + un0
      · rw [decide_eq_true d]
        exact yes (d64_down I (.inr d))
      · rw [decide_eq_false d]
        simp only [bits_Div64.j4, Bool.false_eq_true, if_false]
        rw [if_pos hs, ← d64_stop I (by omega), fin, fin2]
theorem d64_tdiv_nn {a b : Int} (h : 0 ≤ a) : Int.tdiv a b = a / b := Int.tdiv_eq_ediv_of_nonneg h
/-- Behind the normalizing shift: d64_both digits. -/
theorem d64_both {y s yn1 yn0 un32 un1 un0 : Int} (hy : y = yn1 * 4294967296 + yn0) (h1 : 2147483648 ≤ yn1) (h1' : yn1 < 4294967296) (h0 : 0 ≤ yn0) (h0' : yn0 < 4294967296) (hu : 0 ≤ un32) (hu' : un32 < y) (hn : 0 ≤ un1) (hn' : un1 < 4294967296) (hm : 0 ≤ un0) (hm' : un0 < 4294967296) (hs : 0 ≤ s) (k : Nat) (hk : 20 ≤ k) :
    bits_Div64.l0 k y s yn1 yn0 un32 un1 un0 (un32 / yn1) (un32 % yn1) = some ((un32 * 18446744073709551616 + un1 * 4294967296 + un0) / y, shr .u64 ((un32 * 18446744073709551616 + un1 * 4294967296 + un0) % y) s) := by
  have hy0 : 0 < y := by omega
  have hyb : y < 18446744073709551616 := by omega
  have f1 := d64_q_nn (y := y) (un32 := un32) (un1 := un1) hy0 hu hn
  have f2 := d64_q_lt (y := y) (un32 := un32) (un1 := un1) hy0 hu' hn'
  have e1 := Int.emod_nonneg (un32 * 4294967296 + un1) (b := y) (by omega)
  have e2 := Int.emod_lt_of_pos (un32 * 4294967296 + un1) hy0
  have e3 := Int.mul_ediv_add_emod (un32 * 4294967296 + un1) y
  have e4 : (un32 * 4294967296 + un1) / y * y = y * ((un32 * 4294967296 + un1) / y) := Int.mul_comm _ _
  refine d64_loop0 12 _ ?_ 2 _ _ k (d64_first hy h1 h1' h0 h0' hu hu' hn hn') (by have := Int.emod_nonneg un32 (b := yn1) (by omega); omega) (by omega)
  intro k hk
  obtain ⟨k, rfl⟩ : ∃ m, k = m + 1 := ⟨k - 1, by omega⟩
  simp only [bits_Div64.j2]
  rw [if_neg (by omega)]
  have g1 : IntKind.u64.wrap (IntKind.u64.wrap (IntKind.u64.wrap (un32 * 4294967296) + un1) - IntKind.u64.wrap ((un32 * 4294967296 + un1) / y * y)) = (un32 * 4294967296 + un1) % y := by
    simp only [d64_wr]; omega
  rw [g1, d64_tdiv_nn e1]
  generalize hr : (un32 * 4294967296 + un1) % y = r at *
  generalize hq : (un32 * 4294967296 + un1) / y = q at *
  have c := Int.mul_ediv_add_emod r yn1
  have c' : r / yn1 * yn1 = yn1 * (r / yn1) := Int.mul_comm _ _
  have a := Int.emod_nonneg r (b := yn1) (by omega)
  have b := Int.emod_lt_of_pos r (b := yn1) (by omega)
  have d0 : 0 ≤ r / yn1 := Int.ediv_nonneg e1 (by omega)
  have d1 : r / yn1 ≤ r := Int.ediv_le_self _ e1
  have g2 : IntKind.u64.wrap (r / yn1) = r / yn1 := by rw [d64_wr]; omega
  have g3 : IntKind.u64.wrap (r - IntKind.u64.wrap (r / yn1 * yn1)) = r % yn1 := by simp only [d64_wr]; omega
  rw [g2, g3]
  rw [d64_loop1 q hs f1 f2 hyb 2 _ _ k (d64_first hy h1 h1' h0 h0' e1 e2 hm hm') (by omega) (by omega)]
  have h5 : un32 * 18446744073709551616 + un1 * 4294967296 + un0 = (r * 4294967296 + un0) + (q * 4294967296) * y := by
    have : (q * 4294967296) * y = 4294967296 * (y * q) := by grind
    omega
  rw [h5, Int.add_mul_ediv_right _ _ (by omega), Int.add_mul_emod_self_right]
  rw [Int.add_comm]
theorem d64_and_low (a : Int) (h : 0 ≤ a) (h' : a < 18446744073709551616) : Go.bits .and .u64 a 4294967295 = a % 4294967296 := by
  obtain ⟨n, rfl⟩ := Int.eq_ofNat_of_zero_le h
  have h2 := bits_and_u64_nat n 4294967295 (by omega) (by omega)
  have e : n &&& 4294967295 = n % 4294967296 := Nat.and_two_pow_sub_one_eq_mod n 32
  rw [e] at h2
  rw [show ((4294967295 : Nat) : Int) = 4294967295 from rfl] at h2
  rw [h2]
  omega
theorem d64_or_add (a b S : Nat) (hb : b < 2 ^ S) (h : a * 2 ^ S + b < 18446744073709551616) : Go.bits .or .u64 ((a * 2 ^ S : Nat) : Int) (b : Int) = ((a * 2 ^ S + b : Nat) : Int) := by
  rw [bits_or_u64_nat _ _ (by omega) (by omega)]
  have e := Nat.shiftLeft_add_eq_or_of_lt hb a
  rw [Nat.shiftLeft_eq] at e
  rw [e]
theorem d64_pow_cast (S : Nat) : (2 : Int) ^ S = ((2 ^ S : Nat) : Int) := by simp
theorem d64_shl_nat (x S : Nat) (hS : S ≤ 64) : shl .u64 (x : Int) (S : Int) = ((x * 2 ^ S % 18446744073709551616 : Nat) : Int) := by
  unfold shl
  rw [Int.toNat_natCast, Nat.min_eq_left (by exact hS), d64_pow_cast, d64_wr]
  omega
theorem d64_shr_nat (x S : Nat) (hS : S ≤ 64) : shr .u64 (x : Int) (S : Int) = ((x / 2 ^ S : Nat) : Int) := by
  unfold shr
  rw [Int.toNat_natCast, Nat.min_eq_left (by exact hS), d64_pow_cast]
  omega
theorem d64_norm (y : Nat) (h0 : y ≠ 0) (h : y < 18446744073709551616) : 1 ≤ Lib.bitLen y ∧ Lib.bitLen y ≤ 64 ∧ 9223372036854775808 ≤ y * 2 ^ (64 - Lib.bitLen y) ∧ y * 2 ^ (64 - Lib.bitLen y) < 18446744073709551616 := by
  obtain ⟨a, b, c⟩ := Lib.bitLenAux_bounds 64 y h h0
  have d := Lib.bitLen_le y 64 (by omega) h
  change 1 ≤ Lib.bitLen y at a
  change 2 ^ (Lib.bitLen y - 1) ≤ y at b
  change y < 2 ^ Lib.bitLen y at c
  generalize Lib.bitLen y = L at *
  refine ⟨a, d, ?_, ?_⟩
  · have := Nat.mul_le_mul_right (2 ^ (64 - L)) b
    rw [← Nat.pow_add, show L - 1 + (64 - L) = 63 by omega] at this
    omega
  · have := Nat.mul_lt_mul_of_pos_right c (Nat.two_pow_pos (64 - L))
    rw [← Nat.pow_add, show L + (64 - L) = 64 by omega] at this
    omega
/-- math/bits.Div64 tells the quotient and the rest. -/
theorem bits_Div64.eq (hi lo y : Int) (h0 : 0 ≤ hi) (h1 : hi < y) (hy : y < 18446744073709551616) (hl : 0 ≤ lo) (hl' : lo < 18446744073709551616) (k : Nat) (hk : 20 ≤ k) :
    bits_Div64.f k hi lo y = some ((hi * 18446744073709551616 + lo) / y, (hi * 18446744073709551616 + lo) % y) := by
  unfold bits_Div64.f
  rw [if_neg (by omega), if_neg (by omega)]
  by_cases c : hi = 0
  · rw [if_pos c]
    subst c
    have a := Int.ediv_nonneg hl (show 0 ≤ y by omega)
    have b := Int.ediv_le_self y hl
    rw [d64_tdiv_nn hl, Int.tmod_eq_emod_of_nonneg hl, d64_wr, show (0 : Int) * 18446744073709551616 + lo = lo by omega, Int.emod_eq_of_lt a (by omega)]
  rw [if_neg c]
  obtain ⟨H, rfl⟩ := Int.eq_ofNat_of_zero_le h0
  obtain ⟨Lo, rfl⟩ := Int.eq_ofNat_of_zero_le hl
  obtain ⟨Y, rfl⟩ := Int.eq_ofNat_of_zero_le (show 0 ≤ y by omega)
  obtain ⟨n1, n2, n3, n4⟩ := d64_norm Y (by omega) (by omega)
  unfold bits_LeadingZeros64.f bits_Len64.f
  rw [if_pos (by omega), Int.toNat_natCast]
  simp only [Option.bind_some]
  generalize Lib.bitLen Y = L at *
  obtain ⟨S, hS, hS63⟩ : ∃ S : Nat, S = 64 - L ∧ S ≤ 63 := ⟨64 - L, rfl, by omega⟩
  have e1 : IntKind.u64.wrap (wrap64 (64 - (L : Int))) = (S : Int) := by rw [d64_wr]; unfold wrap64; omega
  have e2 : IntKind.u64.wrap (64 - (S : Int)) = ((64 - S : Nat) : Int) := by rw [d64_wr]; omega
  rw [e1, e2, if_pos (by omega), if_pos (by omega)]
  rw [← hS] at n3 n4
  have hHS : H * 2 ^ S + 2 ^ S ≤ Y * 2 ^ S := by
    have := Nat.mul_le_mul_right (2 ^ S) (show H + 1 ≤ Y by omega)
    rw [Nat.add_mul] at this
    omega
  have hp : 2 ^ (64 - S) * 2 ^ S = 18446744073709551616 := by rw [← Nat.pow_add, show 64 - S + S = 64 by omega]
  have hd : Lo * 2 ^ S / 18446744073709551616 = Lo / 2 ^ (64 - S) := by rw [← hp, Nat.mul_div_mul_right _ _ (Nat.two_pow_pos S)]
  have hpos := Nat.two_pow_pos S
  have hlow : Lo / 2 ^ (64 - S) < 2 ^ S := by
    rw [Nat.div_lt_iff_lt_mul (Nat.two_pow_pos _), Nat.mul_comm, hp]
    omega
  rw [d64_shl_nat Y S (by omega), d64_shl_nat H S (by omega), d64_shl_nat Lo S (by omega), d64_shr_nat Lo (64 - S) (by omega)]
  rw [Nat.mod_eq_of_lt n4, Nat.mod_eq_of_lt (show H * 2 ^ S < 18446744073709551616 by omega)]
  rw [d64_or_add H _ S hlow (by omega)]
  rw [d64_and_low _ (by omega) (by omega), d64_and_low _ (by omega) (by omega)]
  have hmod := Nat.div_add_mod (Lo * 2 ^ S) 18446744073709551616
  rw [hd] at hmod
  have key : (H * 2 ^ S + Lo / 2 ^ (64 - S)) * 18446744073709551616 + Lo * 2 ^ S % 18446744073709551616 = (H * 18446744073709551616 + Lo) * 2 ^ S := by
    have t1 : (H * 18446744073709551616 + Lo) * 2 ^ S = (H * 2 ^ S) * 18446744073709551616 + Lo * 2 ^ S := by grind
    omega
  generalize hP : 2 ^ S = P at *
  generalize hA : H * P + Lo / 2 ^ (64 - S) = un32 at *
  generalize hB : Lo * P % 18446744073709551616 = un10 at *
  have hun32 : un32 < Y * P := by omega
  have hun10 : un10 < 18446744073709551616 := by omega
  rw [if_neg (by omega)]
  have t0 : (0 : Int) ≤ (un32 : Int) := by omega
  rw [d64_tdiv_nn t0]
  have q0 : (0 : Int) ≤ (un32 : Int) / (((Y * P : Nat) : Int) / 4294967296) := Int.ediv_nonneg t0 (by omega)
  have q1 := Int.ediv_le_self (((Y * P : Nat) : Int) / 4294967296) t0
  have m1 := Int.mul_ediv_add_emod (un32 : Int) (((Y * P : Nat) : Int) / 4294967296)
  have m2 := Int.emod_nonneg (un32 : Int) (b := ((Y * P : Nat) : Int) / 4294967296) (by omega)
  have m3 := Int.emod_lt_of_pos (un32 : Int) (b := ((Y * P : Nat) : Int) / 4294967296) (by omega)
  have m4 : (un32 : Int) / (((Y * P : Nat) : Int) / 4294967296) * (((Y * P : Nat) : Int) / 4294967296) = (((Y * P : Nat) : Int) / 4294967296) * ((un32 : Int) / (((Y * P : Nat) : Int) / 4294967296)) := Int.mul_comm _ _
  have g2 : IntKind.u64.wrap ((un32 : Int) / (((Y * P : Nat) : Int) / 4294967296)) = (un32 : Int) / (((Y * P : Nat) : Int) / 4294967296) := by rw [d64_wr]; omega
  have g3 : IntKind.u64.wrap ((un32 : Int) - IntKind.u64.wrap ((un32 : Int) / (((Y * P : Nat) : Int) / 4294967296) * (((Y * P : Nat) : Int) / 4294967296))) = (un32 : Int) % (((Y * P : Nat) : Int) / 4294967296) := by simp only [d64_wr]; omega
  rw [g2, g3]
  rw [d64_both (by omega) (by omega) (by omega) (by omega) (by omega) (by omega) (by omega) (by omega) (by omega) (by omega) (by omega) (by omega) k hk]
  have key2 : (un32 : Int) * 18446744073709551616 + (un10 : Int) / 4294967296 * 4294967296 + (un10 : Int) % 4294967296 = ((H : Int) * 18446744073709551616 + (Lo : Int)) * (P : Int) := by
    have := congrArg (fun z : Nat => (z : Int)) key
    simp only [Int.natCast_add, Int.natCast_mul, show ((18446744073709551616 : Nat) : Int) = 18446744073709551616 from rfl] at this
    omega
  have hP0 : (0 : Int) < (P : Int) := by omega
  have r2 : ((H : Int) * 18446744073709551616 + (Lo : Int)) * (P : Int) % ((Y : Int) * (P : Int)) = ((H : Int) * 18446744073709551616 + (Lo : Int)) % (Y : Int) * (P : Int) := by
    rw [Int.mul_comm _ (P : Int), Int.mul_comm (Y : Int) (P : Int), Int.mul_emod_mul_of_pos _ _ hP0, Int.mul_comm]
  rw [key2, Int.natCast_mul, Int.mul_ediv_mul_of_pos_left _ _ hP0, r2]
  have f1 : shr .u64 (((H : Int) * 18446744073709551616 + (Lo : Int)) % (Y : Int) * (P : Int)) (S : Int) = ((H : Int) * 18446744073709551616 + (Lo : Int)) % (Y : Int) := by
    unfold shr
    rw [Int.toNat_natCast, Nat.min_eq_left (show S ≤ IntKind.u64.bits by show S ≤ 64; omega), d64_pow_cast, hP, Int.mul_ediv_cancel _ (by omega)]
  rw [f1]
set_option maxHeartbeats 4000000 in
set_option maxRecDepth 100000 in
theorem cents_MulDiv.bad (a0 a1 a2 a3 : Int) (w : World) (h : ¬ (mdFits a0 ∧ mdFits a1 ∧ mdFits a2 ∧ 1 ≤ a3 ∧ a3 ≤ 5)) :
    Calls Try.prog 53 #[.int .i64 a0, .int .i64 a1, .int .i64 a2, .int .i64 a3] w fun e w' => e = .returned (.tuple #[.int .i64 0, .int .i64 2]) ∧ w' = w := by
  rcases md_bad_cases a0 a1 a2 a3 h with h1 | h1 | ⟨⟨h1, h2⟩, h3⟩ | ⟨⟨h1, h2⟩, h3⟩ | ⟨⟨h1, h2⟩, ⟨h3, h4⟩, h5⟩ | ⟨⟨h1, h2⟩, ⟨h3, h4⟩, h5⟩ | ⟨⟨h1, h2⟩, ⟨h3, h4⟩, ⟨h5, h6⟩, h7⟩ | ⟨⟨h1, h2⟩, ⟨h3, h4⟩, ⟨h5, h6⟩, h7⟩
  all_goals
    clear h
    go_enter Try.func53, Try.ntmps53
    go_wp2
    go_ret2
    exact ⟨rfl, rfl⟩
theorem bits_Div64.walkp (p y : Nat) (h : p / 18446744073709551616 < y) (hy : y < 18446744073709551616) (w : World) :
    Calls Try.prog 72 #[.int .u64 ((p / 18446744073709551616 : Nat) : Int), .int .u64 ((p % 18446744073709551616 : Nat) : Int), .int .u64 (y : Int)] w fun e w' =>
      e = .returned (.tuple #[.int .u64 ((p / y : Nat) : Int), .int .u64 ((p % y : Nat) : Int)]) ∧ Drawn0 w w' := by
  have e := bits_Div64.eq ((p / 18446744073709551616 : Nat) : Int) ((p % 18446744073709551616 : Nat) : Int) (y : Int) (by omega) (by omega) (by omega) (by omega) (by omega) 20 (by omega)
  have e2 : ((p / 18446744073709551616 : Nat) : Int) * 18446744073709551616 + ((p % 18446744073709551616 : Nat) : Int) = (p : Int) := by omega
  rw [e2] at e
  exact bits_Div64.calls 20 _ _ _ _ _ w (by rw [e]; rfl)
def mdHalf (q r c : Int) : Bool := decide (c - r < r) || (decide (r = c - r) && decide (q % 2 = 1))
set_option maxHeartbeats 1000000 in
set_option maxRecDepth 100000 in
theorem cents_away1.half (q r c : Int) (b1 b2 : Nat) (w : World) (hm : w.cell? ⟨b1, 0, none⟩ = some (.int .i64 5)) (h0 : 0 ≤ q) (h1 : 0 ≤ r) (h2 : r < c) (h3 : c ≤ 1152921504606846976) :
    Calls Try.prog 97 #[.int .u64 q, .int .u64 r, .int .u64 c, .pointer (some ⟨b1, 0, none⟩), .pointer (some ⟨b2, 0, none⟩)] w fun e w' => e = .returned (.bool (mdHalf q r c)) ∧ w' = w := by
  by_cases g1 : c - r < r
  · have e : mdHalf q r c = true := by unfold mdHalf; rw [decide_eq_true g1]; rfl
    rw [e]
    go_enter Try.func97, Try.ntmps97
    go_wp2
    go_ret
    exact ⟨rfl, rfl⟩
  by_cases g2 : r = c - r
  · have f2 : (r == c - r) = true := beq_iff_eq.mpr g2
    by_cases g3 : q % 2 = 1
    · have f3 : (q % 2 == 1) = true := beq_iff_eq.mpr g3
      have e : mdHalf q r c = true := by unfold mdHalf; rw [decide_eq_true g2, decide_eq_true g3, decide_eq_false g1]; rfl
      rw [e]
      clear g2 g3 e
      go_enter Try.func97, Try.ntmps97
      go_wp2
      go_ret
      exact ⟨rfl, rfl⟩
    · have f3 : (q % 2 == 1) = false := beq_eq_false_iff_ne.mpr g3
      have e : mdHalf q r c = false := by unfold mdHalf; rw [decide_eq_true g2, decide_eq_false g3, decide_eq_false g1]; rfl
      rw [e]
      clear g2 g3 e
      go_enter Try.func97, Try.ntmps97
      go_wp2
      go_ret
      exact ⟨rfl, rfl⟩
  · have f2 : (r == c - r) = false := beq_eq_false_iff_ne.mpr g2
    have e : mdHalf q r c = false := by unfold mdHalf; rw [decide_eq_false g2, decide_eq_false g1]; rfl
    rw [e]
    clear e
    go_enter Try.func97, Try.ntmps97
    go_wp2
    go_ret
    exact ⟨rfl, rfl⟩
def mdSgn (q : Int) (b : Bool) : Int × Int := if q > 1152921504606846976 then (0, 3) else if b = true then (wrap64 (-(wrap64 q)), 0) else (wrap64 q, 0)
theorem md_sgn (q : Int) (b : Bool) : cents_signed.f q b = some ((mdSgn q b).1, (mdSgn q b).2) := by
  unfold cents_signed.f mdSgn
  repeat' split
  all_goals rfl
theorem md_sgn_eq (q : Int) (b : Bool) (h : 0 ≤ q) : mdSgn q b = if 1152921504606846976 < q then (0, 3) else (if b = true then -q else q, 0) := by
  unfold mdSgn
  by_cases c : q > 1152921504606846976
  · rw [if_pos c, if_pos c]
  · rw [if_neg c, if_neg c]
    cases b <;> simp [wrap64] <;> omega
set_option maxHeartbeats 4000000 in
set_option maxRecDepth 100000 in
theorem cents_MulDiv.m0 (a0 a1 a2 a3 : Int) (w : World) (h1 : -1152921504606846976 ≤ a0) (h2 : a0 ≤ 1152921504606846976) (h3 : -1152921504606846976 ≤ a1) (h4 : a1 ≤ 1152921504606846976)
    (h5 : -1152921504606846976 ≤ a2) (h6 : a2 ≤ 1152921504606846976) (hc : (a2 == 0) = false) (m1 : 1 ≤ a3) (m2 : a3 ≤ 5)
    (hh : a0.natAbs * a1.natAbs / 18446744073709551616 < a2.natAbs) (hq : (a0.natAbs : Int) * a1.natAbs / a2.natAbs ≤ 1152921504606846976) (hr : (a0.natAbs : Int) * a1.natAbs % a2.natAbs ≤ 0) :
    Calls Try.prog 53 #[.int .i64 a0, .int .i64 a1, .int .i64 a2, .int .i64 a3] w fun e w' => e = .returned (.tuple #[.int .i64 (mdSgn ((a0.natAbs : Int) * a1.natAbs / a2.natAbs) (mdBelow a0 a1 a2)).1, .int .i64 (mdSgn ((a0.natAbs : Int) * a1.natAbs / a2.natAbs) (mdBelow a0 a1 a2)).2]) ∧ Below w.heap.size w w' := by
  have hmf : ∀ (fn : Fn) (first cap : Array Value) (w : World), (Instr.makeFunc fn first cap).run Try.prog w = .ok (.func fn first cap) w := fun _ _ _ _ => rfl
  go_enter Try.func53, Try.ntmps53
  go_wp2_with (first | (go_at_call 71; refine (cents_size.walk _ _ (by omega) (by omega)).mono ?_; rintro e w' ⟨rfl, rfl⟩) | (go_at_call 70; refine (bits_Mul64.walk _ _ (by omega) (by omega) _).mono ?_; rintro e w' ⟨rfl, rfl⟩) | (go_at_call 72; refine (bits_Div64.walkp _ _ hh (by omega) _).mono ?_; rintro e w1 ⟨rfl, hd⟩) | (go_at_call 74; refine (cents_signed.calls _ _ _ _ _ (md_sgn _ _)).mono ?_; rintro e w2 ⟨rfl, hd2⟩) | (go_at_call 45; go_in) | (go_at_call 73; go_in))
  go_ret2
  exact ⟨rfl, below_then hd.below hd.below.size hd2.below⟩
set_option maxHeartbeats 4000000 in
set_option maxRecDepth 100000 in
theorem cents_MulDiv.o1 (a0 a1 a2 a3 : Int) (w : World) (h1 : -1152921504606846976 ≤ a0) (h2 : a0 ≤ 1152921504606846976) (h3 : -1152921504606846976 ≤ a1) (h4 : a1 ≤ 1152921504606846976)
    (h5 : -1152921504606846976 ≤ a2) (h6 : a2 ≤ 1152921504606846976) (hc : (a2 == 0) = false) (m1 : 1 ≤ a3) (m2 : a3 ≤ 5)
    (hh : (a2.natAbs : Int) ≤ (a0.natAbs : Int) * a1.natAbs / 18446744073709551616) :
    Calls Try.prog 53 #[.int .i64 a0, .int .i64 a1, .int .i64 a2, .int .i64 a3] w fun e w' => e = .returned (.tuple #[.int .i64 0, .int .i64 3]) ∧ Below w.heap.size w w' := by
  go_enter Try.func53, Try.ntmps53
  go_wp2_with (first | (go_at_call 71; refine (cents_size.walk _ _ (by omega) (by omega)).mono ?_; rintro e w' ⟨rfl, rfl⟩) | (go_at_call 70; refine (bits_Mul64.walk _ _ (by omega) (by omega) _).mono ?_; rintro e w' ⟨rfl, rfl⟩) | (go_at_call 72; refine (bits_Div64.walkp _ _ hh (by omega) _).mono ?_; rintro e w1 ⟨rfl, hd⟩) | (go_at_call 74; refine (cents_signed.calls _ _ _ _ _ (md_sgn _ _)).mono ?_; rintro e w2 ⟨rfl, hd2⟩) | (go_at_call 45; go_in) | (go_at_call 73; go_in))
  go_ret2
  exact ⟨rfl, Below.refl _ _⟩
set_option maxHeartbeats 4000000 in
set_option maxRecDepth 100000 in
theorem cents_MulDiv.o2 (a0 a1 a2 a3 : Int) (w : World) (h1 : -1152921504606846976 ≤ a0) (h2 : a0 ≤ 1152921504606846976) (h3 : -1152921504606846976 ≤ a1) (h4 : a1 ≤ 1152921504606846976)
    (h5 : -1152921504606846976 ≤ a2) (h6 : a2 ≤ 1152921504606846976) (hc : (a2 == 0) = false) (m1 : 1 ≤ a3) (m2 : a3 ≤ 5)
    (hh : a0.natAbs * a1.natAbs / 18446744073709551616 < a2.natAbs) (hq : 1152921504606846976 < (a0.natAbs : Int) * a1.natAbs / a2.natAbs) :
    Calls Try.prog 53 #[.int .i64 a0, .int .i64 a1, .int .i64 a2, .int .i64 a3] w fun e w' => e = .returned (.tuple #[.int .i64 0, .int .i64 3]) ∧ Below w.heap.size w w' := by
  go_enter Try.func53, Try.ntmps53
  go_wp2_with (first | (go_at_call 71; refine (cents_size.walk _ _ (by omega) (by omega)).mono ?_; rintro e w' ⟨rfl, rfl⟩) | (go_at_call 70; refine (bits_Mul64.walk _ _ (by omega) (by omega) _).mono ?_; rintro e w' ⟨rfl, rfl⟩) | (go_at_call 72; refine (bits_Div64.walkp _ _ hh (by omega) _).mono ?_; rintro e w1 ⟨rfl, hd⟩) | (go_at_call 74; refine (cents_signed.calls _ _ _ _ _ (md_sgn _ _)).mono ?_; rintro e w2 ⟨rfl, hd2⟩) | (go_at_call 45; go_in) | (go_at_call 73; go_in))
  go_ret2
  exact ⟨rfl, hd.below⟩
set_option maxHeartbeats 4000000 in
set_option maxRecDepth 100000 in
theorem cents_MulDiv.z (a0 a1 a2 a3 : Int) (w : World) (h1 : -1152921504606846976 ≤ a0) (h2 : a0 ≤ 1152921504606846976) (h3 : -1152921504606846976 ≤ a1) (h4 : a1 ≤ 1152921504606846976)
    (h5 : -1152921504606846976 ≤ a2) (h6 : a2 ≤ 1152921504606846976) (hc : (a2 == 0) = true) (m1 : 1 ≤ a3) (m2 : a3 ≤ 5) :
    Calls Try.prog 53 #[.int .i64 a0, .int .i64 a1, .int .i64 a2, .int .i64 a3] w fun e w' => e = .returned (.tuple #[.int .i64 0, .int .i64 4]) ∧ Below w.heap.size w w' := by
  go_enter Try.func53, Try.ntmps53
  go_wp2_with (go_at_call 45; go_in)
  go_ret2
  exact ⟨rfl, Below.refl _ _⟩
theorem md_end {w w1 w2 : World} {o1 o2 : Obj} (hd : Drawn0 w w1) (hd2 : Drawn0 ((w1.alloc o1).alloc o2) w2) : Below w.heap.size w w2 :=
  below_then (below_alloc (below_alloc hd.below _) _) (Nat.le_trans hd.below.size (by simp; omega)) hd2.below
set_option maxHeartbeats 4000000 in
set_option maxRecDepth 100000 in
theorem cents_MulDiv.r1 (a0 a1 a2 : Int) (w : World) (h1 : -1152921504606846976 ≤ a0) (h2 : a0 ≤ 1152921504606846976) (h3 : -1152921504606846976 ≤ a1) (h4 : a1 ≤ 1152921504606846976)
    (h5 : -1152921504606846976 ≤ a2) (h6 : a2 ≤ 1152921504606846976) (hc : (a2 == 0) = false)
    (hh : a0.natAbs * a1.natAbs / 18446744073709551616 < a2.natAbs) (hq : (a0.natAbs : Int) * a1.natAbs / a2.natAbs ≤ 1152921504606846976) (hr : 0 < (a0.natAbs : Int) * a1.natAbs % a2.natAbs) :
    Calls Try.prog 53 #[.int .i64 a0, .int .i64 a1, .int .i64 a2, .int .i64 1] w fun e w' => e = .returned (.tuple #[.int .i64 (mdSgn ((a0.natAbs : Int) * a1.natAbs / a2.natAbs) (mdBelow a0 a1 a2)).1, .int .i64 (mdSgn ((a0.natAbs : Int) * a1.natAbs / a2.natAbs) (mdBelow a0 a1 a2)).2]) ∧ Below w.heap.size w w' := by
  have hmf : ∀ (fn : Fn) (first cap : Array Value) (w : World), (Instr.makeFunc fn first cap).run Try.prog w = .ok (.func fn first cap) w := fun _ _ _ _ => rfl
  go_enter Try.func53, Try.ntmps53
  go_wp2_with (first | (go_at_call 71; refine (cents_size.walk _ _ (by omega) (by omega)).mono ?_; rintro e w' ⟨rfl, rfl⟩) | (go_at_call 70; refine (bits_Mul64.walk _ _ (by omega) (by omega) _).mono ?_; rintro e w' ⟨rfl, rfl⟩) | (go_at_call 72; refine (bits_Div64.walkp _ _ hh (by omega) _).mono ?_; rintro e w1 ⟨rfl, hd⟩) | (go_at_call 74; refine (cents_signed.calls _ _ _ _ _ (md_sgn _ _)).mono ?_; rintro e w2 ⟨rfl, hd2⟩) | (go_at_call 45; go_in) | (go_at_call 73; go_in) | (go_at_call 97; go_in))
  go_ret2
  exact ⟨rfl, md_end hd hd2⟩
set_option maxHeartbeats 4000000 in
set_option maxRecDepth 100000 in
theorem cents_MulDiv.r2 (a0 a1 a2 : Int) (w : World) (h1 : -1152921504606846976 ≤ a0) (h2 : a0 ≤ 1152921504606846976) (h3 : -1152921504606846976 ≤ a1) (h4 : a1 ≤ 1152921504606846976)
    (h5 : -1152921504606846976 ≤ a2) (h6 : a2 ≤ 1152921504606846976) (hc : (a2 == 0) = false)
    (hh : a0.natAbs * a1.natAbs / 18446744073709551616 < a2.natAbs) (hq : (a0.natAbs : Int) * a1.natAbs / a2.natAbs ≤ 1152921504606846976) (hr : 0 < (a0.natAbs : Int) * a1.natAbs % a2.natAbs) :
    Calls Try.prog 53 #[.int .i64 a0, .int .i64 a1, .int .i64 a2, .int .i64 2] w fun e w' => e = .returned (.tuple #[.int .i64 (mdSgn ((a0.natAbs : Int) * a1.natAbs / a2.natAbs + 1) (mdBelow a0 a1 a2)).1, .int .i64 (mdSgn ((a0.natAbs : Int) * a1.natAbs / a2.natAbs + 1) (mdBelow a0 a1 a2)).2]) ∧ Below w.heap.size w w' := by
  have hmf : ∀ (fn : Fn) (first cap : Array Value) (w : World), (Instr.makeFunc fn first cap).run Try.prog w = .ok (.func fn first cap) w := fun _ _ _ _ => rfl
  have hw : IntKind.u64.wrap ((a0.natAbs : Int) * a1.natAbs / a2.natAbs + 1) = (a0.natAbs : Int) * a1.natAbs / a2.natAbs + 1 := by
    have : 0 ≤ (a0.natAbs : Int) * a1.natAbs / a2.natAbs := Int.ediv_nonneg (Int.mul_nonneg (by omega) (by omega)) (by omega)
    rw [IntKind.wrap_u64]; omega
  go_enter Try.func53, Try.ntmps53
  go_wp2_with (first | (go_at_call 71; refine (cents_size.walk _ _ (by omega) (by omega)).mono ?_; rintro e w' ⟨rfl, rfl⟩) | (go_at_call 70; refine (bits_Mul64.walk _ _ (by omega) (by omega) _).mono ?_; rintro e w' ⟨rfl, rfl⟩) | (go_at_call 72; refine (bits_Div64.walkp _ _ hh (by omega) _).mono ?_; rintro e w1 ⟨rfl, hd⟩) | (go_at_call 74; refine (cents_signed.calls _ _ _ _ _ (md_sgn _ _)).mono ?_; rintro e w2 ⟨rfl, hd2⟩) | (go_at_call 45; go_in) | (go_at_call 73; go_in) | (go_at_call 97; go_in))
  go_ret2
  exact ⟨rfl, md_end hd hd2⟩
set_option maxHeartbeats 4000000 in
set_option maxRecDepth 100000 in
theorem cents_MulDiv.r3t (a0 a1 a2 : Int) (w : World) (h1 : -1152921504606846976 ≤ a0) (h2 : a0 ≤ 1152921504606846976) (h3 : -1152921504606846976 ≤ a1) (h4 : a1 ≤ 1152921504606846976)
    (h5 : -1152921504606846976 ≤ a2) (h6 : a2 ≤ 1152921504606846976) (hc : (a2 == 0) = false) (fb : (!((!(decide (a0 < 0) == decide (a1 < 0))) == decide (a2 < 0))) = true)
    (hh : a0.natAbs * a1.natAbs / 18446744073709551616 < a2.natAbs) (hq : (a0.natAbs : Int) * a1.natAbs / a2.natAbs ≤ 1152921504606846976) (hr : 0 < (a0.natAbs : Int) * a1.natAbs % a2.natAbs) :
    Calls Try.prog 53 #[.int .i64 a0, .int .i64 a1, .int .i64 a2, .int .i64 3] w fun e w' => e = .returned (.tuple #[.int .i64 (mdSgn ((a0.natAbs : Int) * a1.natAbs / a2.natAbs + 1) true).1, .int .i64 (mdSgn ((a0.natAbs : Int) * a1.natAbs / a2.natAbs + 1) true).2]) ∧ Below w.heap.size w w' := by
  have hmf : ∀ (fn : Fn) (first cap : Array Value) (w : World), (Instr.makeFunc fn first cap).run Try.prog w = .ok (.func fn first cap) w := fun _ _ _ _ => rfl
  have hw : IntKind.u64.wrap ((a0.natAbs : Int) * a1.natAbs / a2.natAbs + 1) = (a0.natAbs : Int) * a1.natAbs / a2.natAbs + 1 := by
    have : 0 ≤ (a0.natAbs : Int) * a1.natAbs / a2.natAbs := Int.ediv_nonneg (Int.mul_nonneg (by omega) (by omega)) (by omega)
    rw [IntKind.wrap_u64]; omega
  go_enter Try.func53, Try.ntmps53
  go_wp2_with (first | (go_at_call 71; refine (cents_size.walk _ _ (by omega) (by omega)).mono ?_; rintro e w' ⟨rfl, rfl⟩) | (go_at_call 70; refine (bits_Mul64.walk _ _ (by omega) (by omega) _).mono ?_; rintro e w' ⟨rfl, rfl⟩) | (go_at_call 72; refine (bits_Div64.walkp _ _ hh (by omega) _).mono ?_; rintro e w1 ⟨rfl, hd⟩) | (go_at_call 74; refine (cents_signed.calls _ _ _ _ _ (md_sgn _ _)).mono ?_; rintro e w2 ⟨rfl, hd2⟩) | (go_at_call 45; go_in) | (go_at_call 73; go_in) | (go_at_call 97; go_in))
  go_ret2
  exact ⟨rfl, md_end hd hd2⟩
set_option maxHeartbeats 4000000 in
set_option maxRecDepth 100000 in
theorem cents_MulDiv.r3f (a0 a1 a2 : Int) (w : World) (h1 : -1152921504606846976 ≤ a0) (h2 : a0 ≤ 1152921504606846976) (h3 : -1152921504606846976 ≤ a1) (h4 : a1 ≤ 1152921504606846976)
    (h5 : -1152921504606846976 ≤ a2) (h6 : a2 ≤ 1152921504606846976) (hc : (a2 == 0) = false) (fb : (!((!(decide (a0 < 0) == decide (a1 < 0))) == decide (a2 < 0))) = false)
    (hh : a0.natAbs * a1.natAbs / 18446744073709551616 < a2.natAbs) (hq : (a0.natAbs : Int) * a1.natAbs / a2.natAbs ≤ 1152921504606846976) (hr : 0 < (a0.natAbs : Int) * a1.natAbs % a2.natAbs) :
    Calls Try.prog 53 #[.int .i64 a0, .int .i64 a1, .int .i64 a2, .int .i64 3] w fun e w' => e = .returned (.tuple #[.int .i64 (mdSgn ((a0.natAbs : Int) * a1.natAbs / a2.natAbs) false).1, .int .i64 (mdSgn ((a0.natAbs : Int) * a1.natAbs / a2.natAbs) false).2]) ∧ Below w.heap.size w w' := by
  have hmf : ∀ (fn : Fn) (first cap : Array Value) (w : World), (Instr.makeFunc fn first cap).run Try.prog w = .ok (.func fn first cap) w := fun _ _ _ _ => rfl
  go_enter Try.func53, Try.ntmps53
  go_wp2_with (first | (go_at_call 71; refine (cents_size.walk _ _ (by omega) (by omega)).mono ?_; rintro e w' ⟨rfl, rfl⟩) | (go_at_call 70; refine (bits_Mul64.walk _ _ (by omega) (by omega) _).mono ?_; rintro e w' ⟨rfl, rfl⟩) | (go_at_call 72; refine (bits_Div64.walkp _ _ hh (by omega) _).mono ?_; rintro e w1 ⟨rfl, hd⟩) | (go_at_call 74; refine (cents_signed.calls _ _ _ _ _ (md_sgn _ _)).mono ?_; rintro e w2 ⟨rfl, hd2⟩) | (go_at_call 45; go_in) | (go_at_call 73; go_in) | (go_at_call 97; go_in))
  go_ret2
  exact ⟨rfl, md_end hd hd2⟩
set_option maxHeartbeats 4000000 in
set_option maxRecDepth 100000 in
theorem cents_MulDiv.r4t (a0 a1 a2 : Int) (w : World) (h1 : -1152921504606846976 ≤ a0) (h2 : a0 ≤ 1152921504606846976) (h3 : -1152921504606846976 ≤ a1) (h4 : a1 ≤ 1152921504606846976)
    (h5 : -1152921504606846976 ≤ a2) (h6 : a2 ≤ 1152921504606846976) (hc : (a2 == 0) = false) (fb : (!((!(decide (a0 < 0) == decide (a1 < 0))) == decide (a2 < 0))) = true)
    (hh : a0.natAbs * a1.natAbs / 18446744073709551616 < a2.natAbs) (hq : (a0.natAbs : Int) * a1.natAbs / a2.natAbs ≤ 1152921504606846976) (hr : 0 < (a0.natAbs : Int) * a1.natAbs % a2.natAbs) :
    Calls Try.prog 53 #[.int .i64 a0, .int .i64 a1, .int .i64 a2, .int .i64 4] w fun e w' => e = .returned (.tuple #[.int .i64 (mdSgn ((a0.natAbs : Int) * a1.natAbs / a2.natAbs) true).1, .int .i64 (mdSgn ((a0.natAbs : Int) * a1.natAbs / a2.natAbs) true).2]) ∧ Below w.heap.size w w' := by
  have hmf : ∀ (fn : Fn) (first cap : Array Value) (w : World), (Instr.makeFunc fn first cap).run Try.prog w = .ok (.func fn first cap) w := fun _ _ _ _ => rfl
  go_enter Try.func53, Try.ntmps53
  go_wp2_with (first | (go_at_call 71; refine (cents_size.walk _ _ (by omega) (by omega)).mono ?_; rintro e w' ⟨rfl, rfl⟩) | (go_at_call 70; refine (bits_Mul64.walk _ _ (by omega) (by omega) _).mono ?_; rintro e w' ⟨rfl, rfl⟩) | (go_at_call 72; refine (bits_Div64.walkp _ _ hh (by omega) _).mono ?_; rintro e w1 ⟨rfl, hd⟩) | (go_at_call 74; refine (cents_signed.calls _ _ _ _ _ (md_sgn _ _)).mono ?_; rintro e w2 ⟨rfl, hd2⟩) | (go_at_call 45; go_in) | (go_at_call 73; go_in) | (go_at_call 97; go_in))
  go_ret2
  exact ⟨rfl, md_end hd hd2⟩
set_option maxHeartbeats 4000000 in
set_option maxRecDepth 100000 in
theorem cents_MulDiv.r4f (a0 a1 a2 : Int) (w : World) (h1 : -1152921504606846976 ≤ a0) (h2 : a0 ≤ 1152921504606846976) (h3 : -1152921504606846976 ≤ a1) (h4 : a1 ≤ 1152921504606846976)
    (h5 : -1152921504606846976 ≤ a2) (h6 : a2 ≤ 1152921504606846976) (hc : (a2 == 0) = false) (fb : (!((!(decide (a0 < 0) == decide (a1 < 0))) == decide (a2 < 0))) = false)
    (hh : a0.natAbs * a1.natAbs / 18446744073709551616 < a2.natAbs) (hq : (a0.natAbs : Int) * a1.natAbs / a2.natAbs ≤ 1152921504606846976) (hr : 0 < (a0.natAbs : Int) * a1.natAbs % a2.natAbs) :
    Calls Try.prog 53 #[.int .i64 a0, .int .i64 a1, .int .i64 a2, .int .i64 4] w fun e w' => e = .returned (.tuple #[.int .i64 (mdSgn ((a0.natAbs : Int) * a1.natAbs / a2.natAbs + 1) false).1, .int .i64 (mdSgn ((a0.natAbs : Int) * a1.natAbs / a2.natAbs + 1) false).2]) ∧ Below w.heap.size w w' := by
  have hmf : ∀ (fn : Fn) (first cap : Array Value) (w : World), (Instr.makeFunc fn first cap).run Try.prog w = .ok (.func fn first cap) w := fun _ _ _ _ => rfl
  have hw : IntKind.u64.wrap ((a0.natAbs : Int) * a1.natAbs / a2.natAbs + 1) = (a0.natAbs : Int) * a1.natAbs / a2.natAbs + 1 := by
    have : 0 ≤ (a0.natAbs : Int) * a1.natAbs / a2.natAbs := Int.ediv_nonneg (Int.mul_nonneg (by omega) (by omega)) (by omega)
    rw [IntKind.wrap_u64]; omega
  go_enter Try.func53, Try.ntmps53
  go_wp2_with (first | (go_at_call 71; refine (cents_size.walk _ _ (by omega) (by omega)).mono ?_; rintro e w' ⟨rfl, rfl⟩) | (go_at_call 70; refine (bits_Mul64.walk _ _ (by omega) (by omega) _).mono ?_; rintro e w' ⟨rfl, rfl⟩) | (go_at_call 72; refine (bits_Div64.walkp _ _ hh (by omega) _).mono ?_; rintro e w1 ⟨rfl, hd⟩) | (go_at_call 74; refine (cents_signed.calls _ _ _ _ _ (md_sgn _ _)).mono ?_; rintro e w2 ⟨rfl, hd2⟩) | (go_at_call 45; go_in) | (go_at_call 73; go_in) | (go_at_call 97; go_in))
  go_ret2
  exact ⟨rfl, md_end hd hd2⟩
set_option maxHeartbeats 4000000 in
set_option maxRecDepth 100000 in
theorem cents_MulDiv.r5 (a0 a1 a2 : Int) (w : World) (h1 : -1152921504606846976 ≤ a0) (h2 : a0 ≤ 1152921504606846976) (h3 : -1152921504606846976 ≤ a1) (h4 : a1 ≤ 1152921504606846976)
    (h5 : -1152921504606846976 ≤ a2) (h6 : a2 ≤ 1152921504606846976) (hc : (a2 == 0) = false) (hb : Bool) (hhalf : Aside0 (mdHalf ((a0.natAbs : Int) * a1.natAbs / a2.natAbs) ((a0.natAbs : Int) * a1.natAbs % a2.natAbs) a2.natAbs = hb))
    (hh : a0.natAbs * a1.natAbs / 18446744073709551616 < a2.natAbs) (hq : (a0.natAbs : Int) * a1.natAbs / a2.natAbs ≤ 1152921504606846976) (hr : 0 < (a0.natAbs : Int) * a1.natAbs % a2.natAbs) :
    Calls Try.prog 53 #[.int .i64 a0, .int .i64 a1, .int .i64 a2, .int .i64 5] w fun e w' => e = .returned (.tuple #[.int .i64 (mdSgn (if hb = true then (a0.natAbs : Int) * a1.natAbs / a2.natAbs + 1 else (a0.natAbs : Int) * a1.natAbs / a2.natAbs) (mdBelow a0 a1 a2)).1, .int .i64 (mdSgn (if hb = true then (a0.natAbs : Int) * a1.natAbs / a2.natAbs + 1 else (a0.natAbs : Int) * a1.natAbs / a2.natAbs) (mdBelow a0 a1 a2)).2]) ∧ Below w.heap.size w w' := by
  have hmf : ∀ (fn : Fn) (first cap : Array Value) (w : World), (Instr.makeFunc fn first cap).run Try.prog w = .ok (.func fn first cap) w := fun _ _ _ _ => rfl
  have hw : IntKind.u64.wrap ((a0.natAbs : Int) * a1.natAbs / a2.natAbs + 1) = (a0.natAbs : Int) * a1.natAbs / a2.natAbs + 1 := by
    have : 0 ≤ (a0.natAbs : Int) * a1.natAbs / a2.natAbs := Int.ediv_nonneg (Int.mul_nonneg (by omega) (by omega)) (by omega)
    rw [IntKind.wrap_u64]; omega
  have hq0 : 0 ≤ (a0.natAbs : Int) * a1.natAbs / a2.natAbs := Int.ediv_nonneg (Int.mul_nonneg (by omega) (by omega)) (by omega)
  have hrc : (a0.natAbs : Int) * a1.natAbs % a2.natAbs < a2.natAbs := Int.emod_lt_of_pos _ (by omega)
  go_enter Try.func53, Try.ntmps53
  go_wp2_with (first | (go_at_call 71; refine (cents_size.walk _ _ (by omega) (by omega)).mono ?_; rintro e w' ⟨rfl, rfl⟩) | (go_at_call 70; refine (bits_Mul64.walk _ _ (by omega) (by omega) _).mono ?_; rintro e w' ⟨rfl, rfl⟩) | (go_at_call 72; refine (bits_Div64.walkp _ _ hh (by omega) _).mono ?_; rintro e w1 ⟨rfl, hd⟩) | (go_at_call 74; refine (cents_signed.calls _ _ _ _ _ (md_sgn _ _)).mono ?_; rintro e w2 ⟨rfl, hd2⟩) | (go_at_call 45; go_in) | (go_at_call 73; go_in))
  refine (cents_away1.half _ _ _ _ _ _ (by go_simp) (by omega) (by omega) (by omega) (by omega)).mono ?_
  rw [hhalf.out]
  rintro e w' ⟨rfl, rfl⟩
  cases hb
  · go_wp2_with (go_at_call 74; refine (cents_signed.calls _ _ _ _ _ (md_sgn _ _)).mono ?_; rintro e w2 ⟨rfl, hd2⟩)
    go_ret2
    exact ⟨rfl, md_end hd hd2⟩
  · go_wp2_with (go_at_call 74; refine (cents_signed.calls _ _ _ _ _ (md_sgn _ _)).mono ?_; rintro e w2 ⟨rfl, hd2⟩)
    go_ret2
    exact ⟨rfl, md_end hd hd2⟩
theorem md_calc {a b c mode : Int} (q : Int) (h : mdQ a b c mode = q) (h0 : 0 ≤ q) : mdSgn q (mdBelow a b c) = mdRes a b c mode := by
  unfold mdRes
  rw [h, md_sgn_eq q _ h0]
def cents_MulDiv.f (a0 a1 a2 a3 : Int) : Option (Int × Int) :=
  if mdFits a0 ∧ mdFits a1 ∧ mdFits a2 ∧ 1 ≤ a3 ∧ a3 ≤ 5 then
    if a2 = 0 then some (0, 4) else some (mdRes a0 a1 a2 a3)
  else some (0, 2)
theorem cents_MulDiv.res (a0 a1 a2 a3 : Int) (w : World) (h1 : -1152921504606846976 ≤ a0) (h2 : a0 ≤ 1152921504606846976) (h3 : -1152921504606846976 ≤ a1) (h4 : a1 ≤ 1152921504606846976)
    (h5 : -1152921504606846976 ≤ a2) (h6 : a2 ≤ 1152921504606846976) (hc : (a2 == 0) = false) (m1 : 1 ≤ a3) (m2 : a3 ≤ 5) :
    Calls Try.prog 53 #[.int .i64 a0, .int .i64 a1, .int .i64 a2, .int .i64 a3] w fun e w' => e = .returned (.tuple #[.int .i64 (mdRes a0 a1 a2 a3).1, .int .i64 (mdRes a0 a1 a2 a3).2]) ∧ Below w.heap.size w w' := by
  have hc' : a2 ≠ 0 := by simpa using hc
  have hq0 : 0 ≤ (a0.natAbs : Int) * a1.natAbs / a2.natAbs := Int.ediv_nonneg (Int.mul_nonneg (by omega) (by omega)) (by omega)
  by_cases hh : a0.natAbs * a1.natAbs / 18446744073709551616 < a2.natAbs
  · by_cases hq : (a0.natAbs : Int) * a1.natAbs / a2.natAbs ≤ 1152921504606846976
    · by_cases hr : 0 < (a0.natAbs : Int) * a1.natAbs % a2.natAbs
      · have up : mdAway a3 (mdBelow a0 a1 a2) ((a0.natAbs : Int) * a1.natAbs / a2.natAbs) ((a0.natAbs : Int) * a1.natAbs % a2.natAbs) a2.natAbs = true → mdQ a0 a1 a2 a3 = (a0.natAbs : Int) * a1.natAbs / a2.natAbs + 1 := fun h => by unfold mdQ; rw [if_pos ⟨hr, h⟩]
        have dn : mdAway a3 (mdBelow a0 a1 a2) ((a0.natAbs : Int) * a1.natAbs / a2.natAbs) ((a0.natAbs : Int) * a1.natAbs % a2.natAbs) a2.natAbs = false → mdQ a0 a1 a2 a3 = (a0.natAbs : Int) * a1.natAbs / a2.natAbs := fun h => by unfold mdQ; rw [if_neg (fun h' => by rw [h] at h'; cases h'.2)]
        obtain rfl | rfl | rfl | rfl | rfl : a3 = 1 ∨ a3 = 2 ∨ a3 = 3 ∨ a3 = 4 ∨ a3 = 5 := by omega
        · rw [← md_calc _ (dn (by unfold mdAway; rfl)) hq0]
          exact cents_MulDiv.r1 a0 a1 a2 w h1 h2 h3 h4 h5 h6 hc hh hq hr
        · rw [← md_calc _ (up (by unfold mdAway; rfl)) (by omega)]
          exact cents_MulDiv.r2 a0 a1 a2 w h1 h2 h3 h4 h5 h6 hc hh hq hr
        · cases fb : mdBelow a0 a1 a2
          · rw [← md_calc _ (dn (by unfold mdAway; rw [fb]; rfl)) hq0, fb]
            exact cents_MulDiv.r3f a0 a1 a2 w h1 h2 h3 h4 h5 h6 hc fb hh hq hr
          · rw [← md_calc _ (up (by unfold mdAway; rw [fb]; rfl)) (by omega), fb]
            exact cents_MulDiv.r3t a0 a1 a2 w h1 h2 h3 h4 h5 h6 hc fb hh hq hr
        · cases fb : mdBelow a0 a1 a2
          · rw [← md_calc _ (up (by unfold mdAway; rw [fb]; rfl)) (by omega), fb]
            exact cents_MulDiv.r4f a0 a1 a2 w h1 h2 h3 h4 h5 h6 hc fb hh hq hr
          · rw [← md_calc _ (dn (by unfold mdAway; rw [fb]; rfl)) hq0, fb]
            exact cents_MulDiv.r4t a0 a1 a2 w h1 h2 h3 h4 h5 h6 hc fb hh hq hr
        · cases hb : mdHalf ((a0.natAbs : Int) * a1.natAbs / a2.natAbs) ((a0.natAbs : Int) * a1.natAbs % a2.natAbs) a2.natAbs
          · rw [← md_calc _ (dn (by unfold mdAway; exact hb)) hq0]
            exact cents_MulDiv.r5 a0 a1 a2 w h1 h2 h3 h4 h5 h6 hc false (Aside0.mk hb) hh hq hr
          · rw [← md_calc _ (up (by unfold mdAway; exact hb)) (by omega)]
            exact cents_MulDiv.r5 a0 a1 a2 w h1 h2 h3 h4 h5 h6 hc true (Aside0.mk hb) hh hq hr
      · have e : mdQ a0 a1 a2 a3 = (a0.natAbs : Int) * a1.natAbs / a2.natAbs := by unfold mdQ; rw [if_neg (fun h => hr h.1)]
        rw [← md_calc _ e hq0]
        exact cents_MulDiv.m0 a0 a1 a2 a3 w h1 h2 h3 h4 h5 h6 hc m1 m2 hh hq (by omega)
    · have e : mdRes a0 a1 a2 a3 = (0, 3) := by unfold mdRes; rw [if_pos (by unfold mdQ; split <;> omega)]
      rw [e]
      exact cents_MulDiv.o2 a0 a1 a2 a3 w h1 h2 h3 h4 h5 h6 hc m1 m2 hh (by omega)
  · have hbig : 1152921504606846976 < (a0.natAbs : Int) * a1.natAbs / a2.natAbs := by
      have h7 : a2.natAbs * 18446744073709551616 ≤ a0.natAbs * a1.natAbs := (Nat.le_div_iff_mul_le (by omega)).1 (by omega)
      have h8 : 18446744073709551616 ≤ a0.natAbs * a1.natAbs / a2.natAbs := (Nat.le_div_iff_mul_le (by omega)).2 (by rw [Nat.mul_comm]; exact h7)
      have h9 : ((a0.natAbs * a1.natAbs / a2.natAbs : Nat) : Int) = (a0.natAbs : Int) * a1.natAbs / a2.natAbs := by simp
      omega
    have e : mdRes a0 a1 a2 a3 = (0, 3) := by unfold mdRes; rw [if_pos (by unfold mdQ; split <;> omega)]
    rw [e]
    have h9 : ((a0.natAbs * a1.natAbs : Nat) : Int) = (a0.natAbs : Int) * a1.natAbs := Int.natCast_mul _ _
    exact cents_MulDiv.o1 a0 a1 a2 a3 w h1 h2 h3 h4 h5 h6 hc m1 m2 (by omega)
theorem cents_MulDiv.calls (a0 a1 a2 a3 r1 r2 : Int) (w : World) (h : cents_MulDiv.f a0 a1 a2 a3 = some (r1, r2)) :
    Calls Try.prog 53 #[.int .i64 a0, .int .i64 a1, .int .i64 a2, .int .i64 a3] w fun e w' => e = .returned (.tuple #[.int .i64 r1, .int .i64 r2]) ∧ Below w.heap.size w w' := by
  unfold cents_MulDiv.f at h
  by_cases c : mdFits a0 ∧ mdFits a1 ∧ mdFits a2 ∧ 1 ≤ a3 ∧ a3 ≤ 5
  · rw [if_pos c] at h
    obtain ⟨⟨c1, c2⟩, ⟨c3, c4⟩, ⟨c5, c6⟩, c7, c8⟩ := c
    by_cases d : a2 = 0
    · rw [if_pos d] at h
      have h' := Option.some.inj h
      simp only [Prod.mk.injEq] at h'
      obtain ⟨rfl, rfl⟩ := h'
      exact cents_MulDiv.z a0 a1 a2 a3 w c1 c2 c3 c4 c5 c6 (by simpa using d) c7 c8
    · rw [if_neg d] at h
      have h' := Option.some.inj h
      have e1 : (mdRes a0 a1 a2 a3).1 = r1 := by rw [h']
      have e2 : (mdRes a0 a1 a2 a3).2 = r2 := by rw [h']
      rw [← e1, ← e2]
      exact cents_MulDiv.res a0 a1 a2 a3 w c1 c2 c3 c4 c5 c6 (by simpa using d) c7 c8
  · rw [if_neg c] at h
    have h' := Option.some.inj h
    simp only [Prod.mk.injEq] at h'
    obtain ⟨rfl, rfl⟩ := h'
    refine (cents_MulDiv.bad a0 a1 a2 a3 w c).mono ?_
    rintro e w' ⟨rfl, rfl⟩
    exact ⟨rfl, Below.refl _ _⟩
def rate_Convert.f (k : Nat) (l0 : List (S87)) (a1 : Int) (a2 : Int) (a3 : Int) (a4 : Int) : Option (Int × Int) := (rate_Check.f k l0).bind fun t132 => (if t132 = 0 then (if a2 < 0 then (some (0, 25)) else (if a2 ≥ (l0.length : Int) then (some (0, 25)) else (if a3 < 0 then (some (0, 25)) else (if a3 ≥ (l0.length : Int) then (some (0, 25)) else (if 0 ≤ a2 then (if a2 < (l0.length : Int) then (if 0 ≤ a3 then (if a3 < (l0.length : Int) then ((cents_MulDiv.f a1 ((rd_T87 l0 a2).f1) ((rd_T87 l0 a3).f1) a4).bind fun bt135 => (some (bt135.1, bt135.2))) else (none)) else (none)) else (none)) else (none)))))) else (some (0, t132)))
theorem rate_Convert.mono : ∀ a0 a1 a2 a3 a4 k, LeO (rate_Convert.f k a0 a1 a2 a3 a4) (rate_Convert.f (k + 1) a0 a1 a2 a3 a4) := by
  intro a0 a1 a2 a3 a4 k
  unfold rate_Convert.f
  repeat' first
      | (with_reducible exact rate_Check.mono _ _)
      | (with_reducible exact LeO.refl _)
      | (with_reducible exact LeO.none _)
      | (with_reducible refine LeO.ite ?_ ?_)
      | (with_reducible refine LeO.bind ?_ (fun _ => ?_))
      | exact rate_Check.mono _ _
      | exact LeO.none _
      | refine LeO.ite ?_ ?_
      | refine LeO.bind ?_ (fun _ => ?_)
def rate_Convert.T6 : Bool × List (List Nat × List Nat) := (true, [([], []), ([], []), ([], []), ([1, 2], [1, 2]), ([3], [3]), ([4], [4]), ([], []), ([], []), ([6, 7], [6, 7]), ([8], [8]), ([9], [9]), ([], []), ([0, 5, 10, 11], [0, 5, 10, 11]), ([12], [12]), ([12], [12]), ([13, 12, 0, 1, 2, 3, 4, 5, 6, 7, 8, 9, 10, 11, 12, 13, 14], [13]), ([14, 15, 0, 1, 2, 3, 4, 5, 6, 7, 8, 9, 10, 11, 12, 13, 14, 15], [14])])
def rate_Convert.B6 : List Nat := [0, 0, 0, 6, 14, 30, 0, 0, 192, 448, 960, 0, 4095, 8191, 8191, 32767, 65535]
theorem rate_Convert.tab6 : rtab .any (opsOf Try.f19 6) = rate_Convert.T6 := by kernel_rfl
theorem rate_Convert.bits6 : waitsOk rate_Convert.T6.2 rate_Convert.B6 = true := by kernel_rfl
set_option maxHeartbeats 8000000 in
set_option maxRecDepth 100000 in
theorem rate_Convert.calls (k : Nat) (A0 : Option Addr) (c0 : Nat) (l0 : List (S87)) (a1 : Int) (a2 : Int) (a3 : Int) (a4 : Int) (r1 : Int) (r2 : Int) (w : World) (hr0 : Kd.C k87 w A0 l0.length l0) (hc0 : l0.length ≤ c0) (h : rate_Convert.f k l0 a1 a2 a3 a4 = some (r1, r2)) :
    Calls Try.prog 19 #[.slice A0 l0.length c0, .int .i64 a1, .int .i64 a2, .int .i64 a3, .int .i64 a4] w fun e w' => e = .returned (.tuple #[.int .i64 r1, .int .i64 r2]) ∧ Below w.heap.size w w' := by
  have HR0 := Aside0.mk hr0
  have HC0 := Aside0.mk hc0
  clear hr0 hc0
  have HB := Aside0.mk (Below.refl w.heap.size w)
  have H : ((rate_Check.f k l0).bind fun t132 => (if t132 = 0 then (if a2 < 0 then (some (0, 25)) else (if a2 ≥ (l0.length : Int) then (some (0, 25)) else (if a3 < 0 then (some (0, 25)) else (if a3 ≥ (l0.length : Int) then (some (0, 25)) else (if 0 ≤ a2 then (if a2 < (l0.length : Int) then (if 0 ≤ a3 then (if a3 < (l0.length : Int) then ((cents_MulDiv.f a1 ((rd_T87 l0 a2).f1) ((rd_T87 l0 a3).f1) a4).bind fun bt135 => (some (bt135.1, bt135.2))) else (none)) else (none)) else (none)) else (none)))))) else (some (0, t132)))) = some (r1, r2) := h
  clear h
  replace H := Option.bind_eq_some_iff.mp H
  obtain ⟨t132, A60, H⟩ := H
  replace H : (if t132 = 0 then (if a2 < 0 then (some (0, 25)) else (if a2 ≥ (l0.length : Int) then (some (0, 25)) else (if a3 < 0 then (some (0, 25)) else (if a3 ≥ (l0.length : Int) then (some (0, 25)) else (if 0 ≤ a2 then (if a2 < (l0.length : Int) then (if 0 ≤ a3 then (if a3 < (l0.length : Int) then ((cents_MulDiv.f a1 ((rd_T87 l0 a2).f1) ((rd_T87 l0 a3).f1) a4).bind fun bt135 => (some (bt135.1, bt135.2))) else (none)) else (none)) else (none)) else (none)))))) else (some (0, t132))) = some (r1, r2) := H
  have A6 := Aside0.mk A60
  clear A60
  go_enter Try.func19, Try.ntmps19
  go_upto_if 15 with (first | ((with_reducible refine gate_callee (f := 16) rfl ?_); refine goesL_ (some 13) rfl rfl Try.func16 (by kernel_rfl) rfl #[.slice A0 l0.length c0] rfl (by (try simp only [List.map_toArray, List.map_cons, List.map_nil]); first | done | rfl | (simp only [List.length_drop, List.length_take]; rfl)) ?_; (with_reducible refine (rate_Check.calls k _ _ l0 t132 _ ?side1 ?side2 A6.out).mono ?_); (case side1 => repeat (first | exact HR0.out | (with_reducible refine Kd.C_alloc ?_ _) | (with_reducible refine Kd.C_drewN ?_ _) | (with_reducible refine Kd.C_drew ?_))); (case side2 => exact HC0.out); rintro e w7 ⟨rfl, hb⟩; refine ⟨_, rfl, ?_⟩; have n0_ := Aside0.mk (below_step (by repeat (first | (with_reducible first | exact HB.out | apply below_alloc | apply pw_below_drewN | apply below_drew1) | exact HB.out)) hb); clear HB; have HB := n0_; clear n0_; (try clear hb); (try clear hb2); (try clear hk); (try clear hi)))
  (try simp only [Act.put, List.setIfInBounds_toArray, List.set_cons_zero, List.set_cons_succ])
  by_cases c8 : t132 = 0
  · rw [if_pos c8] at H
    have c8b0 : (t132 == 0) = true := beq_iff_eq.mpr c8
    have c8b1 : (t132 != 0) = false := bne_eq_false_iff_eq.mpr c8
    clear c8
    (try simp only [c8b0, c8b1])
    by_cases c9 : a2 < 0
    · rw [if_pos c9] at H
      have c9b0 : decide (a2 < 0) = true := decide_eq_true c9
      clear c9
      simp only [Option.some.injEq, Prod.mk.injEq] at H
      obtain ⟨rfl, rfl⟩ := H
      go_wp2
      go_ret2
      exact ⟨by first | rfl | (simp [errW_none, errW_some] <;> rfl) | (simp [*, errW_none, errW_some] <;> rfl), by repeat (first | (with_reducible first | exact HB.out | apply below_alloc | apply pw_below_drewN | apply below_drew1) | exact HB.out)⟩
    · rw [if_neg c9] at H
      have c9b0 : decide (a2 < 0) = false := decide_eq_false c9
      clear c9
      by_cases c10 : a2 ≥ (l0.length : Int)
      · rw [if_pos c10] at H
        have c10b0 : decide ((l0.length : Int) ≤ a2) = true := decide_eq_true c10
        clear c10
        simp only [Option.some.injEq, Prod.mk.injEq] at H
        obtain ⟨rfl, rfl⟩ := H
        go_wp2
        go_ret2
        exact ⟨by first | rfl | (simp [errW_none, errW_some] <;> rfl) | (simp [*, errW_none, errW_some] <;> rfl), by repeat (first | (with_reducible first | exact HB.out | apply below_alloc | apply pw_below_drewN | apply below_drew1) | exact HB.out)⟩
      · rw [if_neg c10] at H
        have c10b0 : decide ((l0.length : Int) ≤ a2) = false := decide_eq_false c10
        clear c10
        by_cases c11 : a3 < 0
        · rw [if_pos c11] at H
          have c11b0 : decide (a3 < 0) = true := decide_eq_true c11
          clear c11
          simp only [Option.some.injEq, Prod.mk.injEq] at H
          obtain ⟨rfl, rfl⟩ := H
          go_wp2
          go_ret2
          exact ⟨by first | rfl | (simp [errW_none, errW_some] <;> rfl) | (simp [*, errW_none, errW_some] <;> rfl), by repeat (first | (with_reducible first | exact HB.out | apply below_alloc | apply pw_below_drewN | apply below_drew1) | exact HB.out)⟩
        · rw [if_neg c11] at H
          have c11b0 : decide (a3 < 0) = false := decide_eq_false c11
          clear c11
          by_cases c12 : a3 ≥ (l0.length : Int)
          · rw [if_pos c12] at H
            have c12b0 : decide ((l0.length : Int) ≤ a3) = true := decide_eq_true c12
            clear c12
            (try simp only [c12b0])
            simp only [Option.some.injEq, Prod.mk.injEq] at H
            obtain ⟨rfl, rfl⟩ := H
            go_wp2
            go_ret2
            exact ⟨by first | rfl | (simp [errW_none, errW_some] <;> rfl) | (simp [*, errW_none, errW_some] <;> rfl), by repeat (first | (with_reducible first | exact HB.out | apply below_alloc | apply pw_below_drewN | apply below_drew1) | exact HB.out)⟩
          · rw [if_neg c12] at H
            have c12b0 : decide ((l0.length : Int) ≤ a3) = false := decide_eq_false c12
            clear c12
            (try simp only [c12b0])
            by_cases c13 : 0 ≤ a2
            · rw [if_pos c13] at H
              have c13b0 : decide (0 ≤ a2) = true := decide_eq_true c13
              clear c13
              by_cases c14 : a2 < (l0.length : Int)
              · rw [if_pos c14] at H
                have c14b0 : decide (a2 < (l0.length : Int)) = true := decide_eq_true c14
                clear c14
                by_cases c15 : 0 ≤ a3
                · rw [if_pos c15] at H
                  have c15b0 : decide (0 ≤ a3) = true := decide_eq_true c15
                  clear c15
                  by_cases c16 : a3 < (l0.length : Int)
                  · rw [if_pos c16] at H
                    have c16b0 : decide (a3 < (l0.length : Int)) = true := decide_eq_true c16
                    clear c16
                    replace H := Option.bind_eq_some_iff.mp H
                    obtain ⟨⟨t135, t136⟩, A170, H⟩ := H
                    replace H : (some (t135, t136)) = some (r1, r2) := H
                    have A17 := Aside0.mk A170
                    clear A170
                    simp only [Option.some.injEq, Prod.mk.injEq] at H
                    obtain ⟨rfl, rfl⟩ := H
                    try go_wp2
                    have n0_ := Aside0.mk (below_drew1 HB.out)
                    clear HB
                    have HB := n0_
                    clear n0_
                    have p133 : 0 ≤ (a2 : Int) := of_decide_eq_true (by first | (with_reducible assumption) | assumption)
                    have q133 : a2 < (l0.length : Int) := of_decide_eq_true (by first | (with_reducible assumption) | assumption)
                    obtain ⟨ad133, e133, hx133_0, hx133_1⟩ := at_T87 HR0.out a2 p133 q133
                    have hw133_1 := hx133_1
                    have hw133_0 := hx133_0
                    cases e133
                    replace hx133_0 := (HB.out.cell (World.block_lt_of_cell? w _ hx133_0)).trans hx133_0
                    replace hx133_1 := (HB.out.cell (World.block_lt_of_cell? w _ hx133_1)).trans hx133_1
                    replace p133 := eq_true p133
                    replace q133 := eq_true q133
                    have p134 : 0 ≤ (a3 : Int) := of_decide_eq_true (by first | (with_reducible assumption) | assumption)
                    have q134 : a3 < (l0.length : Int) := of_decide_eq_true (by first | (with_reducible assumption) | assumption)
                    obtain ⟨ad134, e134, hx134_0, hx134_1⟩ := at_T87 HR0.out a3 p134 q134
                    have hw134_1 := hx134_1
                    have hw134_0 := hx134_0
                    obtain rfl : ad133 = ad134 := (by injection e134)
                    replace hx134_0 := (HB.out.cell (World.block_lt_of_cell? w _ hx134_0)).trans hx134_0
                    replace hx134_1 := (HB.out.cell (World.block_lt_of_cell? w _ hx134_1)).trans hx134_1
                    replace p134 := eq_true p134
                    replace q134 := eq_true q134
                    refine start_ (n := 17) (S := fun w' => w'.cell? (ad133.add ((a2).toNat * 2)) = some (.string ((rd_T87 l0 a2).f0)) ∧ w'.cell? ⟨(ad133.add ((a2).toNat * 2)).block, (ad133.add ((a2).toNat * 2)).off + 1, none⟩ = some (.int .i64 ((rd_T87 l0 a2).f1)) ∧ w'.cell? (ad133.add ((a3).toNat * 2)) = some (.string ((rd_T87 l0 a3).f0)) ∧ w'.cell? ⟨(ad133.add ((a3).toNat * 2)).block, (ad133.add ((a3).toNat * 2)).off + 1, none⟩ = some (.int .i64 ((rd_T87 l0 a3).f1))) (ds := []) #[false, false, false, false, false, false, false, false, false, false, false, false, false, false, false, false, false] (by kernel_rfl) rfl rfl ⟨((HB.out.cell (World.block_lt_of_cell? w _ hw133_0)).trans hw133_0), ((HB.out.cell (World.block_lt_of_cell? w _ hw133_1)).trans hw133_1), ((HB.out.cell (World.block_lt_of_cell? w _ hw134_0)).trans hw134_0), ((HB.out.cell (World.block_lt_of_cell? w _ hw134_1)).trans hw134_1)⟩ (fun hHeld => ?_); refine with_tabW rate_Convert.tab6 rate_Convert.bits6 (fun HT_ HW_ => ?_)
                    generalize w7.drew = w18 at HB hx133_0 hx133_1 hx134_0 hx134_1 hHeld ⊢
                    refine pure_ (i := 0) (N := some 35) (v := ?_) (a' := ?_) #[true, false, false, false, false, false, false, false, false, false, false, false, false, false, false, false, false] rfl rfl (any_of HT_.out (by kernel_rfl)) (fun _ _ _ h => h) (Or.inl ⟨by rfl, ?_⟩) ?_ ?_
                    rotate_left
                    · intro w'
                      go_simp
                      with_reducible rfl
                    rotate_left
                    · simp only [Act.put, List.setIfInBounds_toArray, List.set_cons_zero, List.set_cons_succ, i64_w, i32_w]
                      rfl
                    refine pure_ (i := 1) (N := some 36) (v := ?_) (a' := ?_) #[true, true, false, false, false, false, false, false, false, false, false, false, false, false, false, false, false] rfl rfl (any_of HT_.out (by kernel_rfl)) (fun _ _ _ h => h) (Or.inl ⟨by rfl, ?_⟩) ?_ ?_
                    rotate_left
                    · intro w'
                      go_simp
                      with_reducible rfl
                    rotate_left
                    · simp only [Act.put, List.setIfInBounds_toArray, List.set_cons_zero, List.set_cons_succ, i64_w, i32_w]
                      rfl
                    refine pure_ (i := 2) (N := some 37) (v := ?_) (a' := ?_) #[true, true, true, false, false, false, false, false, false, false, false, false, false, false, false, false, false] rfl rfl (any_of HT_.out (by kernel_rfl)) (fun _ _ _ h => h) (Or.inl ⟨by rfl, ?_⟩) ?_ ?_
                    rotate_left
                    · intro w'
                      go_simp
                      with_reducible rfl
                    rotate_left
                    · simp only [Act.put, List.setIfInBounds_toArray, List.set_cons_zero, List.set_cons_succ, i64_w, i32_w]
                      rfl
                    refine pure_ (i := 3) (N := some 38) (v := ?_) (a' := ?_) #[true, true, true, true, false, false, false, false, false, false, false, false, false, false, false, false, false] rfl rfl (any_of HT_.out (by kernel_rfl)) (fun _ _ _ h => h) (Or.inl ⟨by rfl, ?_⟩) ?_ ?_
                    rotate_left
                    · intro w'
                      go_simp
                      with_reducible rfl
                    rotate_left
                    · simp only [Act.put, List.setIfInBounds_toArray, List.set_cons_zero, List.set_cons_succ, i64_w, i32_w]
                      rfl
                    refine pure_ (i := 4) (N := some 39) (v := ?_) (a' := ?_) #[true, true, true, true, true, false, false, false, false, false, false, false, false, false, false, false, false] rfl rfl (any_of HT_.out (by kernel_rfl)) (fun _ _ _ h => h) (Or.inl ⟨by rfl, ?_⟩) ?_ ?_
                    rotate_left
                    · intro w'
                      go_simp
                      with_reducible rfl
                    rotate_left
                    · simp only [Act.put, List.setIfInBounds_toArray, List.set_cons_zero, List.set_cons_succ, i64_w, i32_w]
                      rfl
                    refine pure_ (i := 6) (N := some 41) (v := ?_) (a' := ?_) #[true, true, true, true, true, false, true, false, false, false, false, false, false, false, false, false, false] rfl rfl (any_of HT_.out (by kernel_rfl)) (fun _ _ _ h => h) (Or.inl ⟨by rfl, ?_⟩) ?_ ?_
                    rotate_left
                    · intro w'
                      go_simp
                      with_reducible rfl
                    rotate_left
                    · simp only [Act.put, List.setIfInBounds_toArray, List.set_cons_zero, List.set_cons_succ, i64_w, i32_w]
                      rfl
                    refine pure_ (i := 7) (N := some 42) (v := ?_) (a' := ?_) #[true, true, true, true, true, false, true, true, false, false, false, false, false, false, false, false, false] rfl rfl (any_of HT_.out (by kernel_rfl)) (fun _ _ _ h => h) (Or.inl ⟨by rfl, ?_⟩) ?_ ?_
                    rotate_left
                    · intro w'
                      go_simp
                      with_reducible rfl
                    rotate_left
                    · simp only [Act.put, List.setIfInBounds_toArray, List.set_cons_zero, List.set_cons_succ, i64_w, i32_w]
                      rfl
                    refine pure_ (i := 8) (N := some 43) (v := ?_) (a' := ?_) #[true, true, true, true, true, false, true, true, true, false, false, false, false, false, false, false, false] rfl rfl (any_of HT_.out (by kernel_rfl)) (fun _ _ _ h => h) (Or.inl ⟨by rfl, ?_⟩) ?_ ?_
                    rotate_left
                    · intro w'
                      go_simp
                      with_reducible rfl
                    rotate_left
                    · simp only [Act.put, List.setIfInBounds_toArray, List.set_cons_zero, List.set_cons_succ, i64_w, i32_w]
                      rfl
                    refine pure_ (i := 9) (N := some 44) (v := ?_) (a' := ?_) #[true, true, true, true, true, false, true, true, true, true, false, false, false, false, false, false, false] rfl rfl (any_of HT_.out (by kernel_rfl)) (fun _ _ _ h => h) (Or.inl ⟨by rfl, ?_⟩) ?_ ?_
                    rotate_left
                    · intro w'
                      go_simp
                      with_reducible rfl
                    rotate_left
                    · simp only [Act.put, List.setIfInBounds_toArray, List.set_cons_zero, List.set_cons_succ, i64_w, i32_w]
                      rfl
                    refine pure_ (i := 11) (N := some 46) (v := ?_) (a' := ?_) #[true, true, true, true, true, false, true, true, true, true, false, true, false, false, false, false, false] rfl rfl (any_of HT_.out (by kernel_rfl)) (fun _ _ _ h => h) (Or.inl ⟨by rfl, ?_⟩) ?_ ?_
                    rotate_left
                    · intro w'
                      go_simp
                      with_reducible rfl
                    rotate_left
                    · simp only [Act.put, List.setIfInBounds_toArray, List.set_cons_zero, List.set_cons_succ, i64_w, i32_w]
                      rfl
                    refine take_ (i := 5) (N := some 40) (v := ?_) (a' := ?_) #[true, true, true, true, true, true, true, true, true, true, false, true, false, false, false, false, false] rfl rfl (take_ofW HT_.out HW_.out (by kernel_rfl)) (fun _ _ _ h => h) (Or.inl ⟨by rfl, ?_⟩) hHeld ?_ ?_
                    rotate_left
                    · rintro w' ⟨s0, s1, s2, s3⟩
                      go_simp
                      with_reducible rfl
                    rotate_left
                    · simp only [Act.put, List.setIfInBounds_toArray, List.set_cons_zero, List.set_cons_succ, i64_w, i32_w]
                      rfl
                    refine take_ (i := 10) (N := some 45) (v := ?_) (a' := ?_) #[true, true, true, true, true, true, true, true, true, true, true, true, false, false, false, false, false] rfl rfl (take_ofW HT_.out HW_.out (by kernel_rfl)) (fun _ _ _ h => h) (Or.inl ⟨by rfl, ?_⟩) hHeld ?_ ?_
                    rotate_left
                    · rintro w' ⟨s0, s1, s2, s3⟩
                      go_simp
                      with_reducible rfl
                    rotate_left
                    · simp only [Act.put, List.setIfInBounds_toArray, List.set_cons_zero, List.set_cons_succ, i64_w, i32_w]
                      rfl
                    refine one_ (i := 12) (N := some 47) #[true, true, true, true, true, true, true, true, true, true, true, true, true, false, false, false, false] rfl rfl (one_of HT_.out (by kernel_rfl)) (by decide) (fun K hK => ?_)
                    refine goes_ Try.func53 (by kernel_rfl) rfl #[.int .i64 a1, .int .i64 ((rd_T87 l0 a2).f1), .int .i64 ((rd_T87 l0 a3).f1), .int .i64 a4] (by rfl) rfl rfl (by (try simp only [List.map_toArray, List.map_cons, List.map_nil]); first | done | rfl | (simp only [List.length_drop, List.length_take]; rfl)) ?_
                    with_reducible refine (cents_MulDiv.calls a1 ((rd_T87 l0 a2).f1) ((rd_T87 l0 a3).f1) a4 t135 t136 _ A17.out).mono ?_
                    rintro e w19 ⟨rfl, hb⟩
                    refine ⟨_, rfl, ?_⟩
                    have n0_ := Aside0.mk (below_step (by repeat (first | (with_reducible first | exact HB.out | apply below_alloc | apply pw_below_drewN | apply below_drew1) | exact HB.out)) hb)
                    clear HB
                    have HB := n0_
                    clear n0_
                    (try clear hb)
                    (try clear hb2)
                    (try clear hk)
                    (try clear hi)
                    refine hK.out _ _ ⟨((HB.out.cell (World.block_lt_of_cell? w _ hw133_0)).trans hw133_0), ((HB.out.cell (World.block_lt_of_cell? w _ hw133_1)).trans hw133_1), ((HB.out.cell (World.block_lt_of_cell? w _ hw134_0)).trans hw134_0), ((HB.out.cell (World.block_lt_of_cell? w _ hw134_1)).trans hw134_1)⟩ (fun hHeld => ?_)
                    clear hK K
                    refine norm_ (a' := ?_) ?_ ?_
                    rotate_left
                    · show Act.put _ (some 47) _ = _
                      simp only [Act.put, List.setIfInBounds_toArray, List.set_cons_zero, List.set_cons_succ, i64_w, i32_w]
                      rfl
                    refine pure_ (i := 13) (N := some 48) (v := ?_) (a' := ?_) #[true, true, true, true, true, true, true, true, true, true, true, true, true, true, false, false, false] rfl rfl (any_of HT_.out (by kernel_rfl)) (fun _ _ _ h => h) (Or.inl ⟨by rfl, ?_⟩) ?_ ?_
                    rotate_left
                    · intro w'
                      go_simp
                      with_reducible rfl
                    rotate_left
                    · simp only [Act.put, List.setIfInBounds_toArray, List.set_cons_zero, List.set_cons_succ, i64_w, i32_w]
                      rfl
                    refine pure_ (i := 14) (N := some 49) (v := ?_) (a' := ?_) #[true, true, true, true, true, true, true, true, true, true, true, true, true, true, true, false, false] rfl rfl (any_of HT_.out (by kernel_rfl)) (fun _ _ _ h => h) (Or.inl ⟨by rfl, ?_⟩) ?_ ?_
                    rotate_left
                    · intro w'
                      go_simp
                      with_reducible rfl
                    rotate_left
                    · simp only [Act.put, List.setIfInBounds_toArray, List.set_cons_zero, List.set_cons_succ, i64_w, i32_w]
                      rfl
                    refine pure_ (i := 15) (N := some 10) (v := ?_) (a' := ?_) #[true, true, true, true, true, true, true, true, true, true, true, true, true, true, true, true, false] rfl rfl (any_of HT_.out (by kernel_rfl)) (fun _ _ _ h => h) (Or.inl ⟨by rfl, ?_⟩) ?_ ?_
                    rotate_left
                    · intro w'
                      go_simp
                      with_reducible rfl
                    rotate_left
                    · simp only [Act.put, List.setIfInBounds_toArray, List.set_cons_zero, List.set_cons_succ, i64_w, i32_w]
                      rfl
                    refine pure_ (i := 16) (N := some 11) (v := ?_) (a' := ?_) #[true, true, true, true, true, true, true, true, true, true, true, true, true, true, true, true, true] rfl rfl (any_of HT_.out (by kernel_rfl)) (fun _ _ _ h => h) (Or.inl ⟨by rfl, ?_⟩) ?_ ?_
                    rotate_left
                    · intro w'
                      go_simp
                      with_reducible rfl
                    rotate_left
                    · simp only [Act.put, List.setIfInBounds_toArray, List.set_cons_zero, List.set_cons_succ, i64_w, i32_w]
                      rfl
                    refine done_ (done_of HT_.out (by kernel_rfl)) ?_
                    try go_wp2
                    go_ret2
                    exact ⟨by first | rfl | (simp [errW_none, errW_some] <;> rfl) | (simp [*, errW_none, errW_some] <;> rfl), by repeat (first | (with_reducible first | exact HB.out | apply below_alloc | apply pw_below_drewN | apply below_drew1) | exact HB.out)⟩
                  · rw [if_neg c16] at H
                    exact absurd H (by simp)
                · rw [if_neg c15] at H
                  exact absurd H (by simp)
              · rw [if_neg c14] at H
                exact absurd H (by simp)
            · rw [if_neg c13] at H
              exact absurd H (by simp)
  · rw [if_neg c8] at H
    have c8b0 : (t132 == 0) = false := beq_eq_false_iff_ne.mpr c8
    have c8b1 : (t132 != 0) = true := bne_iff_ne.mpr c8
    (try simp only [c8b0, c8b1])
    simp only [Option.some.injEq, Prod.mk.injEq] at H
    obtain ⟨rfl, rfl⟩ := H
    go_wp2
    go_ret2
    exact ⟨by first | rfl | (simp [errW_none, errW_some] <;> rfl) | (simp [*, errW_none, errW_some] <;> rfl), by repeat (first | (with_reducible first | exact HB.out | apply below_alloc | apply pw_below_drewN | apply below_drew1) | exact HB.out)⟩
def rate_Cross.f (k : Nat) (l0 : List (S87)) (a1 : Int) (a2 : Int) : Option (Int × Int) := (rate_Convert.f k l0 1000000 a1 a2 5).bind fun bt137 => (some (bt137.1, bt137.2))
theorem rate_Cross.mono : ∀ a0 a1 a2 k, LeO (rate_Cross.f k a0 a1 a2) (rate_Cross.f (k + 1) a0 a1 a2) := by
  intro a0 a1 a2 k
  unfold rate_Cross.f
  repeat' first
      | (with_reducible exact rate_Convert.mono _ _ _ _ _ _)
      | (with_reducible exact LeO.refl _)
      | (with_reducible exact LeO.none _)
      | (with_reducible refine LeO.ite ?_ ?_)
      | (with_reducible refine LeO.bind ?_ (fun _ => ?_))
      | exact rate_Convert.mono _ _ _ _ _ _
      | exact LeO.none _
      | refine LeO.ite ?_ ?_
      | refine LeO.bind ?_ (fun _ => ?_)
set_option maxHeartbeats 8000000 in
set_option maxRecDepth 100000 in
theorem rate_Cross.calls (k : Nat) (A0 : Option Addr) (c0 : Nat) (l0 : List (S87)) (a1 : Int) (a2 : Int) (r1 : Int) (r2 : Int) (w : World) (hr0 : Kd.C k87 w A0 l0.length l0) (hc0 : l0.length ≤ c0) (h : rate_Cross.f k l0 a1 a2 = some (r1, r2)) :
    Calls Try.prog 23 #[.slice A0 l0.length c0, .int .i64 a1, .int .i64 a2] w fun e w' => e = .returned (.tuple #[.int .i64 r1, .int .i64 r2]) ∧ Below w.heap.size w w' := by
  have HR0 := Aside0.mk hr0
  have HC0 := Aside0.mk hc0
  clear hr0 hc0
  have HB := Aside0.mk (Below.refl w.heap.size w)
  have H : ((rate_Convert.f k l0 1000000 a1 a2 5).bind fun bt137 => (some (bt137.1, bt137.2))) = some (r1, r2) := h
  clear h
  replace H := Option.bind_eq_some_iff.mp H
  obtain ⟨⟨t137, t138⟩, A40, H⟩ := H
  replace H : (some (t137, t138)) = some (r1, r2) := H
  have A4 := Aside0.mk A40
  clear A40
  simp only [Option.some.injEq, Prod.mk.injEq] at H
  obtain ⟨rfl, rfl⟩ := H
  go_enter Try.func23, Try.ntmps23
  go_wp2_with (first | ((with_reducible refine gate_callee (f := 19) rfl ?_); refine goesL_ (some 11) rfl rfl Try.func19 (by kernel_rfl) rfl #[.slice A0 l0.length c0, .int .i64 1000000, .int .i64 a1, .int .i64 a2, .int .i64 5] rfl (by (try simp only [List.map_toArray, List.map_cons, List.map_nil]); first | done | rfl | (simp only [List.length_drop, List.length_take]; rfl)) ?_; (with_reducible refine (rate_Convert.calls k _ _ l0 1000000 a1 a2 5 t137 t138 _ ?side1 ?side2 A4.out).mono ?_); (case side1 => repeat (first | exact HR0.out | (with_reducible refine Kd.C_alloc ?_ _) | (with_reducible refine Kd.C_drewN ?_ _) | (with_reducible refine Kd.C_drew ?_))); (case side2 => exact HC0.out); rintro e w5 ⟨rfl, hb⟩; refine ⟨_, rfl, ?_⟩; have n0_ := Aside0.mk (below_step (by repeat (first | (with_reducible first | exact HB.out | apply below_alloc | apply pw_below_drewN | apply below_drew1) | exact HB.out)) hb); clear HB; have HB := n0_; clear n0_; (try clear hb); (try clear hb2); (try clear hk); (try clear hi)))
  go_ret2
  exact ⟨by first | rfl | (simp [errW_none, errW_some] <;> rfl) | (simp [*, errW_none, errW_some] <;> rfl), by repeat (first | (with_reducible first | exact HB.out | apply below_alloc | apply pw_below_drewN | apply below_drew1) | exact HB.out)⟩
def rate_Base.f (k : Nat) (l0 : List (S87)) (a1 : Int) (a2 : Int) (a3 : Int) : Option (Int × Int) := (rate_Convert.f k l0 a1 a2 0 a3).bind fun bt139 => (some (bt139.1, bt139.2))
theorem rate_Base.mono : ∀ a0 a1 a2 a3 k, LeO (rate_Base.f k a0 a1 a2 a3) (rate_Base.f (k + 1) a0 a1 a2 a3) := by
  intro a0 a1 a2 a3 k
  unfold rate_Base.f
  repeat' first
      | (with_reducible exact rate_Convert.mono _ _ _ _ _ _)
      | (with_reducible exact LeO.refl _)
      | (with_reducible exact LeO.none _)
      | (with_reducible refine LeO.ite ?_ ?_)
      | (with_reducible refine LeO.bind ?_ (fun _ => ?_))
      | exact rate_Convert.mono _ _ _ _ _ _
      | exact LeO.none _
      | refine LeO.ite ?_ ?_
      | refine LeO.bind ?_ (fun _ => ?_)
set_option maxHeartbeats 8000000 in
set_option maxRecDepth 100000 in
theorem rate_Base.calls (k : Nat) (A0 : Option Addr) (c0 : Nat) (l0 : List (S87)) (a1 : Int) (a2 : Int) (a3 : Int) (r1 : Int) (r2 : Int) (w : World) (hr0 : Kd.C k87 w A0 l0.length l0) (hc0 : l0.length ≤ c0) (h : rate_Base.f k l0 a1 a2 a3 = some (r1, r2)) :
    Calls Try.prog 21 #[.slice A0 l0.length c0, .int .i64 a1, .int .i64 a2, .int .i64 a3] w fun e w' => e = .returned (.tuple #[.int .i64 r1, .int .i64 r2]) ∧ Below w.heap.size w w' := by
  have HR0 := Aside0.mk hr0
  have HC0 := Aside0.mk hc0
  clear hr0 hc0
  have HB := Aside0.mk (Below.refl w.heap.size w)
  have H : ((rate_Convert.f k l0 a1 a2 0 a3).bind fun bt139 => (some (bt139.1, bt139.2))) = some (r1, r2) := h
  clear h
  replace H := Option.bind_eq_some_iff.mp H
  obtain ⟨⟨t139, t140⟩, A50, H⟩ := H
  replace H : (some (t139, t140)) = some (r1, r2) := H
  have A5 := Aside0.mk A50
  clear A50
  simp only [Option.some.injEq, Prod.mk.injEq] at H
  obtain ⟨rfl, rfl⟩ := H
  go_enter Try.func21, Try.ntmps21
  go_wp2_with (first | ((with_reducible refine gate_callee (f := 19) rfl ?_); refine goesL_ (some 14) rfl rfl Try.func19 (by kernel_rfl) rfl #[.slice A0 l0.length c0, .int .i64 a1, .int .i64 a2, .int .i64 0, .int .i64 a3] rfl (by (try simp only [List.map_toArray, List.map_cons, List.map_nil]); first | done | rfl | (simp only [List.length_drop, List.length_take]; rfl)) ?_; (with_reducible refine (rate_Convert.calls k _ _ l0 a1 a2 0 a3 t139 t140 _ ?side1 ?side2 A5.out).mono ?_); (case side1 => repeat (first | exact HR0.out | (with_reducible refine Kd.C_alloc ?_ _) | (with_reducible refine Kd.C_drewN ?_ _) | (with_reducible refine Kd.C_drew ?_))); (case side2 => exact HC0.out); rintro e w6 ⟨rfl, hb⟩; refine ⟨_, rfl, ?_⟩; have n0_ := Aside0.mk (below_step (by repeat (first | (with_reducible first | exact HB.out | apply below_alloc | apply pw_below_drewN | apply below_drew1) | exact HB.out)) hb); clear HB; have HB := n0_; clear n0_; (try clear hb); (try clear hb2); (try clear hk); (try clear hi)))
  go_ret2
  exact ⟨by first | rfl | (simp [errW_none, errW_some] <;> rfl) | (simp [*, errW_none, errW_some] <;> rfl), by repeat (first | (with_reducible first | exact HB.out | apply below_alloc | apply pw_below_drewN | apply below_drew1) | exact HB.out)⟩
def rate_Total.l0 : Nat → List (S87) → Int → List Int → List Int → Int → Int → Option (Int × Int)
  | 0, _, _, _, _, _, _ => none
  | k + 1, x0, x2, x8, x23, x24, x25 => if x25 < x24 then (if 0 ≤ x25 then (if x25 < (x23.length : Int) then ((rate_Base.f k x0 (rd x23 x25) x25 x2).bind fun bt150 => (if bt150.2 = 0 then (if x8.length < 17592186044416 then (rate_Total.l0 k x0 x2 (x8 ++ [bt150.1]) x23 x24 (wrap64 (x25 + 1))) else (none)) else (some (0, bt150.2)))) else (none)) else (none)) else ((cents_Sum.f k x8).bind fun bt155 => (some (bt155.1, bt155.2)))
def rate_Total.f (k : Nat) (l0 : List (S87)) (l1 : List Int) (a2 : Int) : Option (Int × Int) := (rate_Check.f k l0).bind fun t148 => (if t148 = 0 then (if (l1.length : Int) > (l0.length : Int) then (some (0, 8)) else (rate_Total.l0 k l0 a2 ([] : List Int) l1 (l1.length : Int) 0)) else (some (0, t148)))
theorem rate_Total.mono_l : ∀ k, (∀ y0 y1 y2 y3 y4 y5, LeO (rate_Total.l0 k y0 y1 y2 y3 y4 y5) (rate_Total.l0 (k + 1) y0 y1 y2 y3 y4 y5))
  | 0 => fun _ _ _ _ _ _ r h => by simp [rate_Total.l0] at h
  | k + 1 => by
    have ih0 := rate_Total.mono_l k
    · intro y0 y1 y2 y3 y4 y5
      unfold rate_Total.l0
      repeat' first
      | (with_reducible exact ih0 _ _ _ _ _ _)
      | (with_reducible exact cents_Sum.mono _ _)
      | (with_reducible exact rate_Base.mono _ _ _ _ _)
      | (with_reducible exact rate_Check.mono _ _)
      | (with_reducible exact LeO.refl _)
      | (with_reducible exact LeO.none _)
      | (with_reducible refine LeO.ite ?_ ?_)
      | (with_reducible refine LeO.bind ?_ (fun _ => ?_))
      | exact ih0 _ _ _ _ _ _
      | exact cents_Sum.mono _ _
      | exact rate_Base.mono _ _ _ _ _
      | exact rate_Check.mono _ _
      | exact LeO.none _
      | refine LeO.ite ?_ ?_
      | refine LeO.bind ?_ (fun _ => ?_)
theorem rate_Total.mono : ∀ a0 a1 a2 k, LeO (rate_Total.f k a0 a1 a2) (rate_Total.f (k + 1) a0 a1 a2) := by
  intro a0 a1 a2 k
  have ih0 := rate_Total.mono_l k
  unfold rate_Total.f
  repeat' first
      | (with_reducible exact ih0 _ _ _ _ _ _)
      | (with_reducible exact cents_Sum.mono _ _)
      | (with_reducible exact rate_Base.mono _ _ _ _ _)
      | (with_reducible exact rate_Check.mono _ _)
      | (with_reducible exact LeO.refl _)
      | (with_reducible exact LeO.none _)
      | (with_reducible refine LeO.ite ?_ ?_)
      | (with_reducible refine LeO.bind ?_ (fun _ => ?_))
      | exact ih0 _ _ _ _ _ _
      | exact cents_Sum.mono _ _
      | exact rate_Base.mono _ _ _ _ _
      | exact rate_Check.mono _ _
      | exact LeO.none _
      | refine LeO.ite ?_ ?_
      | refine LeO.bind ?_ (fun _ => ?_)
set_option maxHeartbeats 8000000 in
set_option maxRecDepth 100000 in
theorem rate_Total.calls (k : Nat) (A0 : Option Addr) (c0 : Nat) (l0 : List (S87)) (A1 : Option Addr) (c1 : Nat) (l1 : List Int) (a2 : Int) (r1 : Int) (r2 : Int) (w : World) (hr0 : Kd.C k87 w A0 l0.length l0) (hc0 : l0.length ≤ c0) (hr1 : Kd.C (Kd.int .i64) w A1 l1.length l1) (hc1 : l1.length ≤ c1) (h : rate_Total.f k l0 l1 a2 = some (r1, r2)) :
    Calls Try.prog 25 #[.slice A0 l0.length c0, .slice A1 l1.length c1, .int .i64 a2] w fun e w' => e = .returned (.tuple #[.int .i64 r1, .int .i64 r2]) ∧ Below w.heap.size w w' := by
  have HR0 := Aside0.mk hr0
  have HC0 := Aside0.mk hc0
  clear hr0 hc0
  have HR1 := Aside0.mk hr1
  have HC1 := Aside0.mk hc1
  clear hr1 hc1
  have HB := Aside0.mk (Below.refl w.heap.size w)
  have H : ((rate_Check.f k l0).bind fun t148 => (if t148 = 0 then (if (l1.length : Int) > (l0.length : Int) then (some (0, 8)) else (rate_Total.l0 k l0 a2 ([] : List Int) l1 (l1.length : Int) 0)) else (some (0, t148)))) = some (r1, r2) := h
  clear h
  replace H := Option.bind_eq_some_iff.mp H
  obtain ⟨t148, A40, H⟩ := H
  replace H : (if t148 = 0 then (if (l1.length : Int) > (l0.length : Int) then (some (0, 8)) else (rate_Total.l0 k l0 a2 ([] : List Int) l1 (l1.length : Int) 0)) else (some (0, t148))) = some (r1, r2) := H
  have A4 := Aside0.mk A40
  clear A40
  go_enter Try.func25, Try.ntmps25
  go_upto_if 16 with (first | ((with_reducible refine gate_callee (f := 16) rfl ?_); refine goesL_ (some 14) rfl rfl Try.func16 (by kernel_rfl) rfl #[.slice A0 l0.length c0] rfl (by (try simp only [List.map_toArray, List.map_cons, List.map_nil]); first | done | rfl | (simp only [List.length_drop, List.length_take]; rfl)) ?_; (with_reducible refine (rate_Check.calls k _ _ l0 t148 _ ?side1 ?side2 A4.out).mono ?_); (case side1 => repeat (first | exact HR0.out | (with_reducible refine Kd.C_alloc ?_ _) | (with_reducible refine Kd.C_drewN ?_ _) | (with_reducible refine Kd.C_drew ?_))); (case side2 => exact HC0.out); rintro e w5 ⟨rfl, hb⟩; refine ⟨_, rfl, ?_⟩; have n0_ := Aside0.mk (below_step (by repeat (first | (with_reducible first | exact HB.out | apply below_alloc | apply pw_below_drewN | apply below_drew1) | exact HB.out)) hb); clear HB; have HB := n0_; clear n0_; (try clear hb); (try clear hb2); (try clear hk); (try clear hi)))
  (try simp only [Act.put, List.setIfInBounds_toArray, List.set_cons_zero, List.set_cons_succ])
  by_cases c6 : t148 = 0
  · rw [if_pos c6] at H
    have c6b0 : (t148 == 0) = true := beq_iff_eq.mpr c6
    have c6b1 : (t148 != 0) = false := bne_eq_false_iff_eq.mpr c6
    clear c6
    (try simp only [c6b0, c6b1])
    by_cases c7 : (l1.length : Int) > (l0.length : Int)
    · rw [if_pos c7] at H
      have c7b0 : decide ((l0.length : Int) < (l1.length : Int)) = true := decide_eq_true c7
      have c7b1 : decide (l0.length < l1.length) = true := decide_eq_true (Int.ofNat_lt.mp c7)
      clear c7
      (try simp only [c7b0, c7b1])
      simp only [Option.some.injEq, Prod.mk.injEq] at H
      obtain ⟨rfl, rfl⟩ := H
      go_wp2
      go_ret2
      exact ⟨by first | rfl | (simp [errW_none, errW_some] <;> rfl) | (simp [*, errW_none, errW_some] <;> rfl), by repeat (first | (with_reducible first | exact HB.out | apply below_alloc | apply pw_below_drewN | apply below_drew1) | exact HB.out)⟩
    · rw [if_neg c7] at H
      have c7b0 : decide ((l0.length : Int) < (l1.length : Int)) = false := decide_eq_false c7
      have c7b1 : decide (l0.length < l1.length) = false := decide_eq_false (fun h => c7 (Int.ofNat_lt.mpr h))
      clear c7
      (try simp only [c7b0, c7b1])
      have H' := Aside0.mk H
      clear H
      go_wp2
      go_loopg [8, 25] k (fun kq v8 v25 w' => ∃ (x8_1 : List Int) (x25_1 : Int), v25 = .int .i64 x25_1 ∧ Aside0 (rate_Total.l0 kq l0 a2 x8_1 l1 (l1.length : Int) x25_1 = some (r1, r2)) ∧ Aside0 (kq ≤ k) ∧ Aside0 (Kd.R (Kd.int .i64) 3 w' w.heap.size (fun _ => True) v8 x8_1) ∧ Aside0 (Below w.heap.size w w'))
      case atStart => exact ⟨(([] : List Int)), (0), (by first | rfl | (simp; done) | (simp [*]; done)), H', ⟨Nat.le_refl _⟩, ⟨by first | exact Kd.R_nil _ _ _ _ _ | exact Kd.N_nil _ _ _ _ _ | exact Kd.V_nil _ _ _ _ _ | exact Kd.Q_nil _ _ _ _ _ | exact Kd.S_nil _ _ _ _ _⟩, ⟨by repeat (first | (with_reducible first | exact HB.out | apply below_alloc | apply pw_below_drewN | apply below_drew1) | exact HB.out)⟩⟩
      case round =>
        clear H'
        try clear c1
        try clear c2
        try clear p2
        try clear c6
        try clear c6b0
        try clear c6b1
        try clear c7
        try clear c7b0
        try clear c7b1
        obtain ⟨x8_1, x25_1, rfl, HA, HK1, HO_8, HB⟩ := hrel
        cases gk with
        | zero => exact absurd HA.out (by simp [rate_Total.l0])
        | succ k1 =>
          have H := HA.out
          clear HA
          simp only [rate_Total.l0] at H
          by_cases c8 : x25_1 < (l1.length : Int)
          · rw [if_pos c8] at H
            have c8b0 : decide (x25_1 < (l1.length : Int)) = true := decide_eq_true c8
            clear c8
            (try simp only [c8b0])
            by_cases c9 : 0 ≤ x25_1
            · rw [if_pos c9] at H
              have c9b0 : decide (0 ≤ x25_1) = true := decide_eq_true c9
              clear c9
              by_cases c10 : x25_1 < (l1.length : Int)
              · rw [if_pos c10] at H
                have c10b0 : decide (x25_1 < (l1.length : Int)) = true := decide_eq_true c10
                clear c10
                replace H := Option.bind_eq_some_iff.mp H
                obtain ⟨⟨t150, t151⟩, A110, H⟩ := H
                replace H : (if t151 = 0 then (if x8_1.length < 17592186044416 then (rate_Total.l0 k1 l0 a2 (x8_1 ++ [t150]) l1 (l1.length : Int) (wrap64 (x25_1 + 1))) else (none)) else (some (0, t151))) = some (r1, r2) := H
                have A11 := Aside0.mk A110
                clear A110
                have p149 : 0 ≤ (x25_1 : Int) := of_decide_eq_true (by first | (with_reducible assumption) | assumption)
                have q149 : x25_1 < (l1.length : Int) := of_decide_eq_true (by first | (with_reducible assumption) | assumption)
                obtain ⟨ad149, e149, hx149_0⟩ := Kd.at_int HR1.out x25_1 p149 q149
                cases e149
                replace hx149_0 := (HB.out.cell (World.block_lt_of_cell? w _ hx149_0)).trans hx149_0
                replace p149 := eq_true p149
                replace q149 := eq_true q149
                go_upto_if 39 with (first | ((with_reducible refine gate_callee (f := 21) rfl ?_); refine goesL_ (some 35) rfl rfl Try.func21 (by kernel_rfl) rfl #[.slice A0 l0.length c0, .int .i64 (rd l1 x25_1), .int .i64 x25_1, .int .i64 a2] rfl (by (try simp only [List.map_toArray, List.map_cons, List.map_nil]); first | done | rfl | (simp only [List.length_drop, List.length_take]; rfl)) ?_; (with_reducible refine (rate_Base.calls k1 _ _ l0 (rd l1 x25_1) x25_1 a2 t150 t151 _ ?side1 ?side2 A11.out).mono ?_); (case side1 => repeat (first | exact (Kd.C_below HR0.out HB.out) | (with_reducible refine Kd.C_alloc ?_ _) | (with_reducible refine Kd.C_drewN ?_ _) | (with_reducible refine Kd.C_drew ?_))); (case side2 => exact HC0.out); rintro e w12 ⟨rfl, hb⟩; refine ⟨_, rfl, ?_⟩; have n0_ := Aside0.mk (Kd.R_below (by (with_reducible repeat (first | apply Kd.R_alloc | apply Kd.R_drewN | apply Kd.R_drew)); exact HO_8.out) hb); have n1_ := Aside0.mk (below_step (by repeat (first | (with_reducible first | exact HB.out | apply below_alloc | apply pw_below_drewN | apply below_drew1) | exact HB.out)) hb); clear HO_8; clear HB; have HO_8 := n0_; have HB := n1_; clear n0_ n1_; (try clear hb); (try clear hb2); (try clear hk); (try clear hi)))
                (try simp only [Act.put, List.setIfInBounds_toArray, List.set_cons_zero, List.set_cons_succ])
                by_cases c13 : t151 = 0
                · rw [if_pos c13] at H
                  have c13b0 : (t151 == 0) = true := beq_iff_eq.mpr c13
                  have c13b1 : (t151 != 0) = false := bne_eq_false_iff_eq.mpr c13
                  clear c13
                  (try simp only [c13b0, c13b1])
                  by_cases c14 : x8_1.length < 17592186044416
                  · rw [if_pos c14] at H
                    have LMc14 := Aside0.mk c14
                    clear c14
                    obtain ⟨y152, hy152⟩ : ∃ y_ : List Int, y_ = (x8_1 ++ [t150]) := ⟨_, rfl⟩
                    replace H : (rate_Total.l0 k1 l0 a2 y152 l1 (l1.length : Int) (wrap64 (x25_1 + 1))) = some (r1, r2) := by first | (rw [hy152]; with_reducible exact H) | (have H2_ := (Option.bind_some _ _).symm.trans H; rw [hy152]; with_reducible exact H2_) | (have H2_ := (Option.bind_some _ _).symm.trans H; with_reducible exact H2_) | with_reducible exact H | (rw [hy152]; exact H) | exact H
                    have Ny152 := Aside0.mk hy152
                    clear hy152
                    have H' := Aside0.mk H
                    clear H
                    go_wp2_with (first | ((with_reducible refine gate_builtin (b := .append) (xs := #[.tmp 41, .tmp 43]) rfl ?_); at_builtin; refine Kd.R_append (Kd.int .i64) (w0 := w) w.heap.size rfl (.tmp 41) (.tmp 43) 40 3 (.int .i64 0) 8 rfl Try.underlying40 info3 rfl (by decide) (by omega) u8 x8_1 t150 [.int .i64 t150] (fun _ => True) (fun _ => False) rfl rfl ?aP (fun _ hk => hk.elim) ?aF ?aO ?aB ?aS ?aL ?_; (case aP => exact rfl); (case aB => exact (by repeat (first | (with_reducible first | exact HB.out | apply below_alloc | apply pw_below_drewN | apply below_drew1) | exact HB.out))); (case aF => exact (fun _ _ => trivial)); (case aO => exact (by (with_reducible repeat (first | apply Kd.R_alloc | apply Kd.R_drewN | apply Kd.R_drew)); exact HO_8.out)); (case aS => exact (below_size (by repeat (first | (with_reducible first | exact HB.out | apply below_alloc | apply pw_below_drewN | apply below_drew1) | exact HB.out)))); (case aL => have := LMc14.out; omega); intro v153 w15 ho hb hg hat; rw [← Ny152.out] at ho; have n0_ := Aside0.mk (hb); have n1_ := Aside0.mk (ho); clear HB; clear HO_8; have HB := n0_; have HO154 := n1_; clear n0_ n1_; clear ho hb hg hat))
                    go_roundg k1
                    case measure => have := HK1.out; omega
                    case rel => exact ⟨(y152), (wrap64 (x25_1 + 1)), (by first | rfl | (simp; done) | (simp [*]; done)), H', ⟨by have := HK1.out; omega⟩, ⟨by (with_reducible repeat (first | apply Kd.R_alloc | apply Kd.R_drewN | apply Kd.R_drew)); exact HO154.out⟩, ⟨by repeat (first | (with_reducible first | exact HB.out | apply below_alloc | apply pw_below_drewN | apply below_drew1) | exact HB.out)⟩⟩
                  · rw [if_neg c14] at H
                    exact absurd H (by simp)
                · rw [if_neg c13] at H
                  have c13b0 : (t151 == 0) = false := beq_eq_false_iff_ne.mpr c13
                  have c13b1 : (t151 != 0) = true := bne_iff_ne.mpr c13
                  (try simp only [c13b0, c13b1])
                  simp only [Option.some.injEq, Prod.mk.injEq] at H
                  obtain ⟨rfl, rfl⟩ := H
                  go_wp2
                  go_ret2
                  exact ⟨by first | rfl | (simp [errW_none, errW_some] <;> rfl) | (simp [*, errW_none, errW_some] <;> rfl), by repeat (first | (with_reducible first | exact HB.out | apply below_alloc | apply pw_below_drewN | apply below_drew1) | exact HB.out)⟩
              · rw [if_neg c10] at H
                exact absurd H (by simp)
            · rw [if_neg c9] at H
              exact absurd H (by simp)
          · rw [if_neg c8] at H
            have c8b0 : decide (x25_1 < (l1.length : Int)) = false := decide_eq_false c8
            clear c8
            (try simp only [c8b0])
            replace H := Option.bind_eq_some_iff.mp H
            obtain ⟨⟨t155, t156⟩, A160, H⟩ := H
            replace H : (some (t155, t156)) = some (r1, r2) := H
            have A16 := Aside0.mk A160
            clear A160
            simp only [Option.some.injEq, Prod.mk.injEq] at H
            obtain ⟨rfl, rfl⟩ := H
            obtain ⟨Ao17, co17, eo17⟩ := Kd.R_slice HO_8.out
            subst eo17
            go_wp2_with (first | ((with_reducible refine gate_callee (f := 55) rfl ?_); refine goesL_ (some 47) rfl rfl Try.func55 (by kernel_rfl) rfl #[.slice Ao17 x8_1.length co17] rfl (by (try simp only [List.map_toArray, List.map_cons, List.map_nil]); first | done | rfl | (simp only [List.length_drop, List.length_take]; rfl)) ?_; (with_reducible refine (cents_Sum.calls k1 _ _ x8_1 t155 t156 _ ?side1 ?side2 A16.out).mono ?_); (case side1 => repeat (first | exact (Kd.R_reads' HO_8.out).2.2 | (with_reducible refine Kd.C_alloc ?_ _) | (with_reducible refine Kd.C_drewN ?_ _) | (with_reducible refine Kd.C_drew ?_))); (case side2 => exact (Kd.R_reads' HO_8.out).2.1); rintro e w' ⟨rfl, ⟨nd, rfl⟩⟩; refine ⟨_, rfl, ?_⟩))
            go_ret2
            exact ⟨by first | rfl | (simp [errW_none, errW_some] <;> rfl) | (simp [*, errW_none, errW_some] <;> rfl), by repeat (first | (with_reducible first | exact HB.out | apply below_alloc | apply pw_below_drewN | apply below_drew1) | exact HB.out)⟩
  · rw [if_neg c6] at H
    have c6b0 : (t148 == 0) = false := beq_eq_false_iff_ne.mpr c6
    have c6b1 : (t148 != 0) = true := bne_iff_ne.mpr c6
    (try simp only [c6b0, c6b1])
    simp only [Option.some.injEq, Prod.mk.injEq] at H
    obtain ⟨rfl, rfl⟩ := H
    go_wp2
    go_ret2
    exact ⟨by first | rfl | (simp [errW_none, errW_some] <;> rfl) | (simp [*, errW_none, errW_some] <;> rfl), by repeat (first | (with_reducible first | exact HB.out | apply below_alloc | apply pw_below_drewN | apply below_drew1) | exact HB.out)⟩
def contangolaw08_goes.f (k : Nat)  : Option (Bool) := (some (([(⟨(⟨#[117, 115, 100]⟩ : ByteArray), 1000000⟩ : S87), (⟨(⟨#[101, 117, 114]⟩ : ByteArray), 1080000⟩ : S87)] : List (S87)) : List (S87))).bind fun y157 => ((rate_Convert.f k y157 100 1 0 5).bind fun bt160 => ((rate_Convert.f k y157 100 0 1 5).bind fun bt162 => ((rate_Cross.f k y157 0 1).bind fun bt164 => ((rate_Total.f k y157 (([100, 100] : List Int)) 5).bind fun bt169 => (if bt160.1 = 108 then (if bt160.2 = 0 then (if bt162.1 = 93 then (if bt162.2 = 0 then (if bt164.1 = 925926 then (if bt164.2 = 0 then (if bt169.1 = 208 then (if bt169.2 = 0 then ((rate_Check.f k ([] : List (S87))).bind fun t171 => (some (t171 == 8))) else (some false)) else (some false)) else (some false)) else (some false)) else (some false)) else (some false)) else (some false)) else (some false))))))
theorem contangolaw08_goes.mono : ∀ k, LeO (contangolaw08_goes.f k ) (contangolaw08_goes.f (k + 1) ) := by
  intro  k
  unfold contangolaw08_goes.f
  repeat' first
      | (with_reducible exact rate_Check.mono _ _)
      | (with_reducible exact rate_Convert.mono _ _ _ _ _ _)
      | (with_reducible exact rate_Cross.mono _ _ _ _)
      | (with_reducible exact rate_Total.mono _ _ _ _)
      | (with_reducible exact LeO.refl _)
      | (with_reducible exact LeO.none _)
      | (with_reducible refine LeO.ite ?_ ?_)
      | (with_reducible refine LeO.bind ?_ (fun _ => ?_))
      | exact rate_Check.mono _ _
      | exact rate_Convert.mono _ _ _ _ _ _
      | exact rate_Cross.mono _ _ _ _
      | exact rate_Total.mono _ _ _ _
      | exact LeO.none _
      | refine LeO.ite ?_ ?_
      | refine LeO.bind ?_ (fun _ => ?_)
set_option maxHeartbeats 8000000 in
set_option maxRecDepth 100000 in
theorem contangolaw08_goes.calls (k : Nat)  (r : Bool) (w : World) (h : contangolaw08_goes.f k  = some r) :
    Calls Try.prog 18 #[] w fun e w' => e = .returned (.bool r) ∧ Below w.heap.size w w' := by
  have hu87 := Try.underlying87
  have HB := Aside0.mk (Below.refl w.heap.size w)
  have H : ((some (([(⟨(⟨#[117, 115, 100]⟩ : ByteArray), 1000000⟩ : S87), (⟨(⟨#[101, 117, 114]⟩ : ByteArray), 1080000⟩ : S87)] : List (S87)) : List (S87))).bind fun y157 => ((rate_Convert.f k y157 100 1 0 5).bind fun bt160 => ((rate_Convert.f k y157 100 0 1 5).bind fun bt162 => ((rate_Cross.f k y157 0 1).bind fun bt164 => ((rate_Total.f k y157 (([100, 100] : List Int)) 5).bind fun bt169 => (if bt160.1 = 108 then (if bt160.2 = 0 then (if bt162.1 = 93 then (if bt162.2 = 0 then (if bt164.1 = 925926 then (if bt164.2 = 0 then (if bt169.1 = 208 then (if bt169.2 = 0 then ((rate_Check.f k ([] : List (S87))).bind fun t171 => (some (t171 == 8))) else (some false)) else (some false)) else (some false)) else (some false)) else (some false)) else (some false)) else (some false)) else (some false))))))) = some r := h
  clear h
  obtain ⟨y157, hy157⟩ : ∃ y_ : List (S87), y_ = (([(⟨(⟨#[117, 115, 100]⟩ : ByteArray), 1000000⟩ : S87), (⟨(⟨#[101, 117, 114]⟩ : ByteArray), 1080000⟩ : S87)] : List (S87))) := ⟨_, rfl⟩
  replace H : ((rate_Convert.f k y157 100 1 0 5).bind fun bt160 => ((rate_Convert.f k y157 100 0 1 5).bind fun bt162 => ((rate_Cross.f k y157 0 1).bind fun bt164 => ((rate_Total.f k y157 (([100, 100] : List Int)) 5).bind fun bt169 => (if bt160.1 = 108 then (if bt160.2 = 0 then (if bt162.1 = 93 then (if bt162.2 = 0 then (if bt164.1 = 925926 then (if bt164.2 = 0 then (if bt169.1 = 208 then (if bt169.2 = 0 then ((rate_Check.f k ([] : List (S87))).bind fun t171 => (some (t171 == 8))) else (some false)) else (some false)) else (some false)) else (some false)) else (some false)) else (some false)) else (some false)) else (some false)))))) = some r := by first | (rw [hy157]; with_reducible exact H) | (have H2_ := (Option.bind_some _ _).symm.trans H; rw [hy157]; with_reducible exact H2_) | (have H2_ := (Option.bind_some _ _).symm.trans H; with_reducible exact H2_) | with_reducible exact H | (rw [hy157]; exact H) | exact H
  have Ny157 := Aside0.mk hy157
  clear hy157
  replace H := Option.bind_eq_some_iff.mp H
  obtain ⟨⟨t160, t161⟩, A10, H⟩ := H
  replace H : ((rate_Convert.f k y157 100 0 1 5).bind fun bt162 => ((rate_Cross.f k y157 0 1).bind fun bt164 => ((rate_Total.f k y157 (([100, 100] : List Int)) 5).bind fun bt169 => (if t160 = 108 then (if t161 = 0 then (if bt162.1 = 93 then (if bt162.2 = 0 then (if bt164.1 = 925926 then (if bt164.2 = 0 then (if bt169.1 = 208 then (if bt169.2 = 0 then ((rate_Check.f k ([] : List (S87))).bind fun t171 => (some (t171 == 8))) else (some false)) else (some false)) else (some false)) else (some false)) else (some false)) else (some false)) else (some false)) else (some false))))) = some r := H
  have A1 := Aside0.mk A10
  clear A10
  replace H := Option.bind_eq_some_iff.mp H
  obtain ⟨⟨t162, t163⟩, A20, H⟩ := H
  replace H : ((rate_Cross.f k y157 0 1).bind fun bt164 => ((rate_Total.f k y157 (([100, 100] : List Int)) 5).bind fun bt169 => (if t160 = 108 then (if t161 = 0 then (if t162 = 93 then (if t163 = 0 then (if bt164.1 = 925926 then (if bt164.2 = 0 then (if bt169.1 = 208 then (if bt169.2 = 0 then ((rate_Check.f k ([] : List (S87))).bind fun t171 => (some (t171 == 8))) else (some false)) else (some false)) else (some false)) else (some false)) else (some false)) else (some false)) else (some false)) else (some false)))) = some r := H
  have A2 := Aside0.mk A20
  clear A20
  replace H := Option.bind_eq_some_iff.mp H
  obtain ⟨⟨t164, t165⟩, A30, H⟩ := H
  replace H : ((rate_Total.f k y157 (([100, 100] : List Int)) 5).bind fun bt169 => (if t160 = 108 then (if t161 = 0 then (if t162 = 93 then (if t163 = 0 then (if t164 = 925926 then (if t165 = 0 then (if bt169.1 = 208 then (if bt169.2 = 0 then ((rate_Check.f k ([] : List (S87))).bind fun t171 => (some (t171 == 8))) else (some false)) else (some false)) else (some false)) else (some false)) else (some false)) else (some false)) else (some false)) else (some false))) = some r := H
  have A3 := Aside0.mk A30
  clear A30
  obtain ⟨y166, hy166⟩ : ∃ y_ : List Int, y_ = (([100, 100] : List Int)) := ⟨_, rfl⟩
  replace H : ((rate_Total.f k y157 y166 5).bind fun bt169 => (if t160 = 108 then (if t161 = 0 then (if t162 = 93 then (if t163 = 0 then (if t164 = 925926 then (if t165 = 0 then (if bt169.1 = 208 then (if bt169.2 = 0 then ((rate_Check.f k ([] : List (S87))).bind fun t171 => (some (t171 == 8))) else (some false)) else (some false)) else (some false)) else (some false)) else (some false)) else (some false)) else (some false)) else (some false))) = some r := by first | (rw [hy166]; with_reducible exact H) | (have H2_ := (Option.bind_some _ _).symm.trans H; rw [hy166]; with_reducible exact H2_) | (have H2_ := (Option.bind_some _ _).symm.trans H; with_reducible exact H2_) | with_reducible exact H | (rw [hy166]; exact H) | exact H
  have Ny166 := Aside0.mk hy166
  clear hy166
  replace H := Option.bind_eq_some_iff.mp H
  obtain ⟨⟨t169, t170⟩, A40, H⟩ := H
  replace H : (if t160 = 108 then (if t161 = 0 then (if t162 = 93 then (if t163 = 0 then (if t164 = 925926 then (if t165 = 0 then (if t169 = 208 then (if t170 = 0 then ((rate_Check.f k ([] : List (S87))).bind fun t171 => (some (t171 == 8))) else (some false)) else (some false)) else (some false)) else (some false)) else (some false)) else (some false)) else (some false)) else (some false)) = some r := H
  have A4 := Aside0.mk A40
  clear A40
  go_enter Try.func18, Try.ntmps18
  go_upto_region 6 with (first | ((with_reducible refine gate_dst (N := 12) rfl ?_); refine Kd.R_lit k87 _ 87 ?hg (N := 12) ?hd (xs := ([(⟨(⟨#[117, 115, 100]⟩ : ByteArray), 1000000⟩ : S87), (⟨(⟨#[101, 117, 114]⟩ : ByteArray), 1080000⟩ : S87)] : List (S87))) (inner := [.string (⟨#[117, 115, 100]⟩ : ByteArray), .int .i64 1000000, .string (⟨#[101, 117, 114]⟩ : ByteArray), .int .i64 1080000]) (ok := fun _ => True) (okp := fun _ => True) ?hr ?hp (fun _ hk => hk) trivial (Below.refl _ _) (Nat.le_refl _) (by simp) ?_; (case hd => rfl); (case hg => rfl); (case hr => first | (go_simp; done) | (go_simp; rfl)); (case hp => exact (Reps.c2 (show Kd.M k87 _ _ _ (⟨(⟨#[117, 115, 100]⟩ : ByteArray), 1000000⟩ : S87) [.string (⟨#[117, 115, 100]⟩ : ByteArray), .int .i64 1000000] from (k87_mkM _ _ _ (⟨(⟨#[117, 115, 100]⟩ : ByteArray), 1000000⟩ : S87) )) (Reps.c2 (show Kd.M k87 _ _ _ (⟨(⟨#[101, 117, 114]⟩ : ByteArray), 1080000⟩ : S87) [.string (⟨#[101, 117, 114]⟩ : ByteArray), .int .i64 1080000] from (k87_mkM _ _ _ (⟨(⟨#[101, 117, 114]⟩ : ByteArray), 1080000⟩ : S87) )) (Reps.none _ _)))); intro v158 w5 ho6 hb hg_ hnew_; clear hg_ hnew_; (first | rw [← Ny157.out] at ho6 | (simp only [Int.reduceToNat] at ho6; rw [← Ny157.out] at ho6)); have n0_ := Aside0.mk (Kd.R_lower ho6 (below_size (by repeat (first | (with_reducible first | exact HB.out | apply below_alloc | apply pw_below_drewN | apply below_drew1) | exact HB.out)))); have n1_ := Aside0.mk (below_step (by repeat (first | (with_reducible first | exact HB.out | apply below_alloc | apply pw_below_drewN | apply below_drew1) | exact HB.out)) hb); clear HB; have HO159 := n0_; have HB := n1_; clear n0_ n1_; clear hb ho6; obtain ⟨Ao7, co7, eo7⟩ := Kd.R_slice HO159.out; subst eo7) | ((with_reducible refine gate_callee (f := 19) rfl ?_); refine goesL_ (some 15) rfl rfl Try.func19 (by kernel_rfl) rfl #[.slice Ao7 y157.length co7, .int .i64 100, .int .i64 1, .int .i64 0, .int .i64 5] rfl (by (try simp only [List.map_toArray, List.map_cons, List.map_nil]); first | done | rfl | (simp only [List.length_drop, List.length_take]; rfl)) ?_; (with_reducible refine (rate_Convert.calls k _ _ y157 100 1 0 5 t160 t161 _ ?side1 ?side2 A1.out).mono ?_); (case side1 => repeat (first | exact (Kd.R_reads' HO159.out).2.2 | (with_reducible refine Kd.C_alloc ?_ _) | (with_reducible refine Kd.C_drewN ?_ _) | (with_reducible refine Kd.C_drew ?_))); (case side2 => exact (Kd.R_reads' HO159.out).2.1); rintro e w8 ⟨rfl, hb⟩; refine ⟨_, rfl, ?_⟩; have n0_ := Aside0.mk (Kd.R_below (by (with_reducible repeat (first | apply Kd.R_alloc | apply Kd.R_drewN | apply Kd.R_drew)); exact HO159.out) hb); have n1_ := Aside0.mk (below_step (by repeat (first | (with_reducible first | exact HB.out | apply below_alloc | apply pw_below_drewN | apply below_drew1) | exact HB.out)) hb); clear HO159; clear HB; have HO159 := n0_; have HB := n1_; clear n0_ n1_; (try clear hb); (try clear hb2); (try clear hk); (try clear hi)) | ((with_reducible refine gate_callee (f := 19) rfl ?_); refine goesL_ (some 20) rfl rfl Try.func19 (by kernel_rfl) rfl #[.slice Ao7 y157.length co7, .int .i64 100, .int .i64 0, .int .i64 1, .int .i64 5] rfl (by (try simp only [List.map_toArray, List.map_cons, List.map_nil]); first | done | rfl | (simp only [List.length_drop, List.length_take]; rfl)) ?_; (with_reducible refine (rate_Convert.calls k _ _ y157 100 0 1 5 t162 t163 _ ?side1 ?side2 A2.out).mono ?_); (case side1 => repeat (first | exact (Kd.R_reads' HO159.out).2.2 | (with_reducible refine Kd.C_alloc ?_ _) | (with_reducible refine Kd.C_drewN ?_ _) | (with_reducible refine Kd.C_drew ?_))); (case side2 => exact (Kd.R_reads' HO159.out).2.1); rintro e w9 ⟨rfl, hb⟩; refine ⟨_, rfl, ?_⟩; have n0_ := Aside0.mk (Kd.R_below (by (with_reducible repeat (first | apply Kd.R_alloc | apply Kd.R_drewN | apply Kd.R_drew)); exact HO159.out) hb); have n1_ := Aside0.mk (below_step (by repeat (first | (with_reducible first | exact HB.out | apply below_alloc | apply pw_below_drewN | apply below_drew1) | exact HB.out)) hb); clear HO159; clear HB; have HO159 := n0_; have HB := n1_; clear n0_ n1_; (try clear hb); (try clear hb2); (try clear hk); (try clear hi)) | ((with_reducible refine gate_callee (f := 23) rfl ?_); refine goesL_ (some 25) rfl rfl Try.func23 (by kernel_rfl) rfl #[.slice Ao7 y157.length co7, .int .i64 0, .int .i64 1] rfl (by (try simp only [List.map_toArray, List.map_cons, List.map_nil]); first | done | rfl | (simp only [List.length_drop, List.length_take]; rfl)) ?_; (with_reducible refine (rate_Cross.calls k _ _ y157 0 1 t164 t165 _ ?side1 ?side2 A3.out).mono ?_); (case side1 => repeat (first | exact (Kd.R_reads' HO159.out).2.2 | (with_reducible refine Kd.C_alloc ?_ _) | (with_reducible refine Kd.C_drewN ?_ _) | (with_reducible refine Kd.C_drew ?_))); (case side2 => exact (Kd.R_reads' HO159.out).2.1); rintro e w10 ⟨rfl, hb⟩; refine ⟨_, rfl, ?_⟩; have n0_ := Aside0.mk (Kd.R_below (by (with_reducible repeat (first | apply Kd.R_alloc | apply Kd.R_drewN | apply Kd.R_drew)); exact HO159.out) hb); have n1_ := Aside0.mk (below_step (by repeat (first | (with_reducible first | exact HB.out | apply below_alloc | apply pw_below_drewN | apply below_drew1) | exact HB.out)) hb); clear HO159; clear HB; have HO159 := n0_; have HB := n1_; clear n0_ n1_; (try clear hb); (try clear hb2); (try clear hk); (try clear hi)) | ((with_reducible refine gate_dst (N := 30) rfl ?_); refine Kd.R_lit (Kd.int .i64) _ 3 ?hg (N := 30) ?hd (xs := ([100, 100] : List Int)) (inner := [.int .i64 100, .int .i64 100]) (ok := fun _ => True) (okp := fun _ => True) ?hr ?hp (fun _ hk => hk) trivial (Below.refl _ _) (Nat.le_refl _) (by simp) ?_; (case hd => rfl); (case hg => rfl); (case hr => first | (go_simp; done) | (go_simp; rfl)); (case hp => exact (Reps.one (show Kd.M (Kd.int .i64) _ _ _ 100 [.int .i64 100] from rfl) (Reps.one (show Kd.M (Kd.int .i64) _ _ _ 100 [.int .i64 100] from rfl) (Reps.none _ _)))); intro v167 w11 ho12 hb hg_ hnew_; clear hg_ hnew_; (first | rw [← Ny166.out] at ho12 | (simp only [Int.reduceToNat] at ho12; rw [← Ny166.out] at ho12)); have n0_ := Aside0.mk (Kd.R_below (by (with_reducible repeat (first | apply Kd.R_alloc | apply Kd.R_drewN | apply Kd.R_drew)); exact HO159.out) hb); have n1_ := Aside0.mk (Kd.R_lower ho12 (below_size (by repeat (first | (with_reducible first | exact HB.out | apply below_alloc | apply pw_below_drewN | apply below_drew1) | exact HB.out)))); have n2_ := Aside0.mk (below_step (by repeat (first | (with_reducible first | exact HB.out | apply below_alloc | apply pw_below_drewN | apply below_drew1) | exact HB.out)) hb); clear HO159; clear HB; have HO159 := n0_; have HO168 := n1_; have HB := n2_; clear n0_ n1_ n2_; clear hb ho12; obtain ⟨Ao13, co13, eo13⟩ := Kd.R_slice HO168.out; subst eo13) | ((with_reducible refine gate_callee (f := 25) rfl ?_); refine goesL_ (some 31) rfl rfl Try.func25 (by kernel_rfl) rfl #[.slice Ao7 y157.length co7, .slice Ao13 y166.length co13, .int .i64 5] rfl (by (try simp only [List.map_toArray, List.map_cons, List.map_nil]); first | done | rfl | (simp only [List.length_drop, List.length_take]; rfl)) ?_; (with_reducible refine (rate_Total.calls k _ _ y157 _ _ y166 5 t169 t170 _ ?side1 ?side2 ?side3 ?side4 A4.out).mono ?_); (case side1 => repeat (first | exact (Kd.R_reads' HO159.out).2.2 | (with_reducible refine Kd.C_alloc ?_ _) | (with_reducible refine Kd.C_drewN ?_ _) | (with_reducible refine Kd.C_drew ?_))); (case side2 => exact (Kd.R_reads' HO159.out).2.1); (case side3 => repeat (first | exact (Kd.R_reads' HO168.out).2.2 | (with_reducible refine Kd.C_alloc ?_ _) | (with_reducible refine Kd.C_drewN ?_ _) | (with_reducible refine Kd.C_drew ?_))); (case side4 => exact (Kd.R_reads' HO168.out).2.1); rintro e w14 ⟨rfl, hb⟩; refine ⟨_, rfl, ?_⟩; have n0_ := Aside0.mk (Kd.R_below (by (with_reducible repeat (first | apply Kd.R_alloc | apply Kd.R_drewN | apply Kd.R_drew)); exact HO159.out) hb); have n1_ := Aside0.mk (Kd.R_below (by (with_reducible repeat (first | apply Kd.R_alloc | apply Kd.R_drewN | apply Kd.R_drew)); exact HO168.out) hb); have n2_ := Aside0.mk (below_step (by repeat (first | (with_reducible first | exact HB.out | apply below_alloc | apply pw_below_drewN | apply below_drew1) | exact HB.out)) hb); clear HO159; clear HO168; clear HB; have HO159 := n0_; have HO168 := n1_; have HB := n2_; clear n0_ n1_ n2_; (try clear hb); (try clear hb2); (try clear hk); (try clear hi)))
  (try simp only [Act.put, List.setIfInBounds_toArray, List.set_cons_zero, List.set_cons_succ])
  by_cases c15 : t160 = 108
  · rw [if_pos c15] at H
    have c15b0 : (t160 == 108) = true := beq_iff_eq.mpr c15
    have c15b1 : (t160 != 108) = false := bne_eq_false_iff_eq.mpr c15
    clear c15
    (try simp only [c15b0, c15b1])
    by_cases c16 : t161 = 0
    · rw [if_pos c16] at H
      have c16b0 : (t161 == 0) = true := beq_iff_eq.mpr c16
      have c16b1 : (t161 != 0) = false := bne_eq_false_iff_eq.mpr c16
      clear c16
      by_cases c17 : t162 = 93
      · rw [if_pos c17] at H
        have c17b0 : (t162 == 93) = true := beq_iff_eq.mpr c17
        have c17b1 : (t162 != 93) = false := bne_eq_false_iff_eq.mpr c17
        clear c17
        by_cases c18 : t163 = 0
        · rw [if_pos c18] at H
          have c18b0 : (t163 == 0) = true := beq_iff_eq.mpr c18
          have c18b1 : (t163 != 0) = false := bne_eq_false_iff_eq.mpr c18
          clear c18
          by_cases c19 : t164 = 925926
          · rw [if_pos c19] at H
            have c19b0 : (t164 == 925926) = true := beq_iff_eq.mpr c19
            have c19b1 : (t164 != 925926) = false := bne_eq_false_iff_eq.mpr c19
            clear c19
            by_cases c20 : t165 = 0
            · rw [if_pos c20] at H
              have c20b0 : (t165 == 0) = true := beq_iff_eq.mpr c20
              have c20b1 : (t165 != 0) = false := bne_eq_false_iff_eq.mpr c20
              clear c20
              by_cases c21 : t169 = 208
              · rw [if_pos c21] at H
                have c21b0 : (t169 == 208) = true := beq_iff_eq.mpr c21
                have c21b1 : (t169 != 208) = false := bne_eq_false_iff_eq.mpr c21
                clear c21
                by_cases c22 : t170 = 0
                · rw [if_pos c22] at H
                  have c22b0 : (t170 == 0) = true := beq_iff_eq.mpr c22
                  have c22b1 : (t170 != 0) = false := bne_eq_false_iff_eq.mpr c22
                  clear c22
                  replace H := Option.bind_eq_some_iff.mp H
                  obtain ⟨t171, A230, H⟩ := H
                  replace H : (some (t171 == 8)) = some r := H
                  have A23 := Aside0.mk A230
                  clear A230
                  obtain rfl := Option.some.inj H
                  go_wp2_with (first | (go_at_call 16; (refine (rate_Check.calls k _ _ ([] : List (S87)) t171 _ ?side1 ?side2 A23.out).mono ?_); (case side1 => exact Kd.C_nil _ _); (case side2 => exact Nat.le_refl _); rintro e w24 ⟨rfl, hb⟩; have n0_ := Aside0.mk (Kd.R_below (by (with_reducible repeat (first | apply Kd.R_alloc | apply Kd.R_drewN | apply Kd.R_drew)); exact HO159.out) hb); have n1_ := Aside0.mk (Kd.R_below (by (with_reducible repeat (first | apply Kd.R_alloc | apply Kd.R_drewN | apply Kd.R_drew)); exact HO168.out) hb); have n2_ := Aside0.mk (below_step (by repeat (first | (with_reducible first | exact HB.out | apply below_alloc | apply pw_below_drewN | apply below_drew1) | exact HB.out)) hb); clear HO159; clear HO168; clear HB; have HO159 := n0_; have HO168 := n1_; have HB := n2_; clear n0_ n1_ n2_; (try clear hb); (try clear hb2); (try clear hk); (try clear hi)))
                  go_ret
                  exact ⟨by first | rfl | (simp [errW_none, errW_some] <;> rfl) | (simp [*, errW_none, errW_some] <;> rfl), by repeat (first | (with_reducible first | exact HB.out | apply below_alloc | apply pw_below_drewN | apply below_drew1) | exact HB.out)⟩
                · rw [if_neg c22] at H
                  have c22b0 : (t170 == 0) = false := beq_eq_false_iff_ne.mpr c22
                  have c22b1 : (t170 != 0) = true := bne_iff_ne.mpr c22
                  obtain rfl := Option.some.inj H
                  go_wp2
                  go_ret
                  exact ⟨by first | rfl | (simp [errW_none, errW_some] <;> rfl) | (simp [*, errW_none, errW_some] <;> rfl), by repeat (first | (with_reducible first | exact HB.out | apply below_alloc | apply pw_below_drewN | apply below_drew1) | exact HB.out)⟩
              · rw [if_neg c21] at H
                have c21b0 : (t169 == 208) = false := beq_eq_false_iff_ne.mpr c21
                have c21b1 : (t169 != 208) = true := bne_iff_ne.mpr c21
                obtain rfl := Option.some.inj H
                go_wp2
                go_ret
                exact ⟨by first | rfl | (simp [errW_none, errW_some] <;> rfl) | (simp [*, errW_none, errW_some] <;> rfl), by repeat (first | (with_reducible first | exact HB.out | apply below_alloc | apply pw_below_drewN | apply below_drew1) | exact HB.out)⟩
            · rw [if_neg c20] at H
              have c20b0 : (t165 == 0) = false := beq_eq_false_iff_ne.mpr c20
              have c20b1 : (t165 != 0) = true := bne_iff_ne.mpr c20
              obtain rfl := Option.some.inj H
              go_wp2
              go_ret
              exact ⟨by first | rfl | (simp [errW_none, errW_some] <;> rfl) | (simp [*, errW_none, errW_some] <;> rfl), by repeat (first | (with_reducible first | exact HB.out | apply below_alloc | apply pw_below_drewN | apply below_drew1) | exact HB.out)⟩
          · rw [if_neg c19] at H
            have c19b0 : (t164 == 925926) = false := beq_eq_false_iff_ne.mpr c19
            have c19b1 : (t164 != 925926) = true := bne_iff_ne.mpr c19
            obtain rfl := Option.some.inj H
            go_wp2
            go_ret
            exact ⟨by first | rfl | (simp [errW_none, errW_some] <;> rfl) | (simp [*, errW_none, errW_some] <;> rfl), by repeat (first | (with_reducible first | exact HB.out | apply below_alloc | apply pw_below_drewN | apply below_drew1) | exact HB.out)⟩
        · rw [if_neg c18] at H
          have c18b0 : (t163 == 0) = false := beq_eq_false_iff_ne.mpr c18
          have c18b1 : (t163 != 0) = true := bne_iff_ne.mpr c18
          obtain rfl := Option.some.inj H
          go_wp2
          go_ret
          exact ⟨by first | rfl | (simp [errW_none, errW_some] <;> rfl) | (simp [*, errW_none, errW_some] <;> rfl), by repeat (first | (with_reducible first | exact HB.out | apply below_alloc | apply pw_below_drewN | apply below_drew1) | exact HB.out)⟩
      · rw [if_neg c17] at H
        have c17b0 : (t162 == 93) = false := beq_eq_false_iff_ne.mpr c17
        have c17b1 : (t162 != 93) = true := bne_iff_ne.mpr c17
        obtain rfl := Option.some.inj H
        go_wp2
        go_ret
        exact ⟨by first | rfl | (simp [errW_none, errW_some] <;> rfl) | (simp [*, errW_none, errW_some] <;> rfl), by repeat (first | (with_reducible first | exact HB.out | apply below_alloc | apply pw_below_drewN | apply below_drew1) | exact HB.out)⟩
    · rw [if_neg c16] at H
      have c16b0 : (t161 == 0) = false := beq_eq_false_iff_ne.mpr c16
      have c16b1 : (t161 != 0) = true := bne_iff_ne.mpr c16
      obtain rfl := Option.some.inj H
      go_wp2
      go_ret
      exact ⟨by first | rfl | (simp [errW_none, errW_some] <;> rfl) | (simp [*, errW_none, errW_some] <;> rfl), by repeat (first | (with_reducible first | exact HB.out | apply below_alloc | apply pw_below_drewN | apply below_drew1) | exact HB.out)⟩
  · rw [if_neg c15] at H
    have c15b0 : (t160 == 108) = false := beq_eq_false_iff_ne.mpr c15
    have c15b1 : (t160 != 108) = true := bne_iff_ne.mpr c15
    (try simp only [c15b0, c15b1])
    obtain rfl := Option.some.inj H
    go_wp2
    go_ret
    exact ⟨by first | rfl | (simp [errW_none, errW_some] <;> rfl) | (simp [*, errW_none, errW_some] <;> rfl), by repeat (first | (with_reducible first | exact HB.out | apply below_alloc | apply pw_below_drewN | apply below_drew1) | exact HB.out)⟩
def contangolaw08_RateChecks.f (k : Nat) (l0 : List (S87)) (a1 : ByteArray) : Option (Bool) := (rate_Find.f k l0 a1).bind fun bt172 => ((contangoref08_Find.f k l0 a1).bind fun bt174 => ((rate_Check.f k l0).bind fun t176 => ((contangoref08_Check.f k l0).bind fun t177 => (if t176 = t177 then (if bt172.1 = bt174.1 then (if (bt172.2 == bt174.2) = true then ((contangolaw08_goes.f k).bind fun t178 => (some t178)) else (some false)) else (some false)) else (some false)))))
theorem contangolaw08_RateChecks.mono : ∀ a0 a1 k, LeO (contangolaw08_RateChecks.f k a0 a1) (contangolaw08_RateChecks.f (k + 1) a0 a1) := by
  intro a0 a1 k
  unfold contangolaw08_RateChecks.f
  repeat' first
      | (with_reducible exact contangolaw08_goes.mono _)
      | (with_reducible exact contangoref08_Check.mono _ _)
      | (with_reducible exact contangoref08_Find.mono _ _ _)
      | (with_reducible exact rate_Check.mono _ _)
      | (with_reducible exact rate_Find.mono _ _ _)
      | (with_reducible exact LeO.refl _)
      | (with_reducible exact LeO.none _)
      | (with_reducible refine LeO.ite ?_ ?_)
      | (with_reducible refine LeO.bind ?_ (fun _ => ?_))
      | exact contangolaw08_goes.mono _
      | exact contangoref08_Check.mono _ _
      | exact contangoref08_Find.mono _ _ _
      | exact rate_Check.mono _ _
      | exact rate_Find.mono _ _ _
      | exact LeO.none _
      | refine LeO.ite ?_ ?_
      | refine LeO.bind ?_ (fun _ => ?_)
set_option maxHeartbeats 8000000 in
set_option maxRecDepth 100000 in
theorem contangolaw08_RateChecks.calls (k : Nat) (A0 : Option Addr) (c0 : Nat) (l0 : List (S87)) (a1 : ByteArray) (r : Bool) (w : World) (hr0 : Kd.C k87 w A0 l0.length l0) (hc0 : l0.length ≤ c0) (h : contangolaw08_RateChecks.f k l0 a1 = some r) :
    Calls Try.prog 3 #[.slice A0 l0.length c0, .string a1] w fun e w' => e = .returned (.bool r) ∧ Below w.heap.size w w' := by
  have HR0 := Aside0.mk hr0
  have HC0 := Aside0.mk hc0
  clear hr0 hc0
  have HB := Aside0.mk (Below.refl w.heap.size w)
  have H : ((rate_Find.f k l0 a1).bind fun bt172 => ((contangoref08_Find.f k l0 a1).bind fun bt174 => ((rate_Check.f k l0).bind fun t176 => ((contangoref08_Check.f k l0).bind fun t177 => (if t176 = t177 then (if bt172.1 = bt174.1 then (if (bt172.2 == bt174.2) = true then ((contangolaw08_goes.f k).bind fun t178 => (some t178)) else (some false)) else (some false)) else (some false)))))) = some r := h
  clear h
  replace H := Option.bind_eq_some_iff.mp H
  obtain ⟨⟨t172, t173⟩, A30, H⟩ := H
  replace H : ((contangoref08_Find.f k l0 a1).bind fun bt174 => ((rate_Check.f k l0).bind fun t176 => ((contangoref08_Check.f k l0).bind fun t177 => (if t176 = t177 then (if t172 = bt174.1 then (if (t173 == bt174.2) = true then ((contangolaw08_goes.f k).bind fun t178 => (some t178)) else (some false)) else (some false)) else (some false))))) = some r := H
  have A3 := Aside0.mk A30
  clear A30
  replace H := Option.bind_eq_some_iff.mp H
  obtain ⟨⟨t174, t175⟩, A40, H⟩ := H
  replace H : ((rate_Check.f k l0).bind fun t176 => ((contangoref08_Check.f k l0).bind fun t177 => (if t176 = t177 then (if t172 = t174 then (if (t173 == t175) = true then ((contangolaw08_goes.f k).bind fun t178 => (some t178)) else (some false)) else (some false)) else (some false)))) = some r := H
  have A4 := Aside0.mk A40
  clear A40
  go_enter Try.func3, Try.ntmps3
  go_upto_region 3 with (first | ((with_reducible refine gate_callee (f := 14) rfl ?_); refine goesL_ (some 12) rfl rfl Try.func14 (by kernel_rfl) rfl #[.slice A0 l0.length c0, .string a1] rfl (by (try simp only [List.map_toArray, List.map_cons, List.map_nil]); first | done | rfl | (simp only [List.length_drop, List.length_take]; rfl)) ?_; (with_reducible refine (rate_Find.calls k _ _ l0 a1 t172 t173 _ ?side1 ?side2 A3.out).mono ?_); (case side1 => repeat (first | exact HR0.out | (with_reducible refine Kd.C_alloc ?_ _) | (with_reducible refine Kd.C_drewN ?_ _) | (with_reducible refine Kd.C_drew ?_))); (case side2 => exact HC0.out); rintro e w5 ⟨rfl, hb⟩; refine ⟨_, rfl, ?_⟩; have n0_ := Aside0.mk (below_step (by repeat (first | (with_reducible first | exact HB.out | apply below_alloc | apply pw_below_drewN | apply below_drew1) | exact HB.out)) hb); clear HB; have HB := n0_; clear n0_; (try clear hb); (try clear hb2); (try clear hk); (try clear hi)) | ((with_reducible refine gate_callee (f := 15) rfl ?_); refine goesL_ (some 18) rfl rfl Try.func15 (by kernel_rfl) rfl #[.slice A0 l0.length c0, .string a1] rfl (by (try simp only [List.map_toArray, List.map_cons, List.map_nil]); first | done | rfl | (simp only [List.length_drop, List.length_take]; rfl)) ?_; (with_reducible refine (contangoref08_Find.calls k _ _ l0 a1 t174 t175 _ ?side1 ?side2 A4.out).mono ?_); (case side1 => repeat (first | exact (Kd.C_below HR0.out HB.out) | (with_reducible refine Kd.C_alloc ?_ _) | (with_reducible refine Kd.C_drewN ?_ _) | (with_reducible refine Kd.C_drew ?_))); (case side2 => exact HC0.out); rintro e w' ⟨rfl, ⟨nd, rfl⟩⟩; refine ⟨_, rfl, ?_⟩))
  (try simp only [Act.put, List.setIfInBounds_toArray, List.set_cons_zero, List.set_cons_succ])
  replace H := Option.bind_eq_some_iff.mp H
  obtain ⟨t176, A60, H⟩ := H
  replace H : ((contangoref08_Check.f k l0).bind fun t177 => (if t176 = t177 then (if t172 = t174 then (if (t173 == t175) = true then ((contangolaw08_goes.f k).bind fun t178 => (some t178)) else (some false)) else (some false)) else (some false))) = some r := H
  have A6 := Aside0.mk A60
  clear A60
  replace H := Option.bind_eq_some_iff.mp H
  obtain ⟨t177, A70, H⟩ := H
  replace H : (if t176 = t177 then (if t172 = t174 then (if (t173 == t175) = true then ((contangolaw08_goes.f k).bind fun t178 => (some t178)) else (some false)) else (some false)) else (some false)) = some r := H
  have A7 := Aside0.mk A70
  clear A70
  by_cases c8 : t176 = t177
  · rw [if_pos c8] at H
    have c8b0 : (t176 == t177) = true := beq_iff_eq.mpr c8
    have c8b1 : (t176 != t177) = false := bne_eq_false_iff_eq.mpr c8
    clear c8
    (try simp only [c8b0, c8b1])
    by_cases c9 : t172 = t174
    · rw [if_pos c9] at H
      have c9b0 : (t172 == t174) = true := beq_iff_eq.mpr c9
      have c9b1 : (t172 != t174) = false := bne_eq_false_iff_eq.mpr c9
      clear c9
      by_cases c10 : (t173 == t175) = true
      · rw [if_pos c10] at H
        have c10b0 : (t173 == t175) = true := c10
        (try (have c10b1 : decide (t173 = t175) = true := by simpa using c10))
        (try (have c10b2 : (t173 == t175) = true := by simpa using c10))
        clear c10
        replace H := Option.bind_eq_some_iff.mp H
        obtain ⟨t178, A110, H⟩ := H
        replace H : (some t178) = some r := H
        have A11 := Aside0.mk A110
        clear A110
        obtain rfl := Option.some.inj H
        go_wp2_with (first | ((with_reducible refine gate_callee (f := 16) rfl ?_); refine goesL_ (some 22) rfl rfl Try.func16 (by kernel_rfl) rfl #[.slice A0 l0.length c0] rfl (by (try simp only [List.map_toArray, List.map_cons, List.map_nil]); first | done | rfl | (simp only [List.length_drop, List.length_take]; rfl)) ?_; (with_reducible refine (rate_Check.calls k _ _ l0 t176 _ ?side1 ?side2 A6.out).mono ?_); (case side1 => repeat (first | exact (Kd.C_below HR0.out HB.out) | (with_reducible refine Kd.C_alloc ?_ _) | (with_reducible refine Kd.C_drewN ?_ _) | (with_reducible refine Kd.C_drew ?_))); (case side2 => exact HC0.out); rintro e w12 ⟨rfl, hb⟩; refine ⟨_, rfl, ?_⟩; have n0_ := Aside0.mk (below_step (by repeat (first | (with_reducible first | exact HB.out | apply below_alloc | apply pw_below_drewN | apply below_drew1) | exact HB.out)) hb); clear HB; have HB := n0_; clear n0_; (try clear hb); (try clear hb2); (try clear hk); (try clear hi)) | ((with_reducible refine gate_callee (f := 17) rfl ?_); refine goesL_ (some 24) rfl rfl Try.func17 (by kernel_rfl) rfl #[.slice A0 l0.length c0] rfl (by (try simp only [List.map_toArray, List.map_cons, List.map_nil]); first | done | rfl | (simp only [List.length_drop, List.length_take]; rfl)) ?_; (with_reducible refine (contangoref08_Check.calls k _ _ l0 t177 _ ?side1 ?side2 A7.out).mono ?_); (case side1 => repeat (first | exact (Kd.C_below HR0.out HB.out) | (with_reducible refine Kd.C_alloc ?_ _) | (with_reducible refine Kd.C_drewN ?_ _) | (with_reducible refine Kd.C_drew ?_))); (case side2 => exact HC0.out); rintro e w' ⟨rfl, ⟨nd, rfl⟩⟩; refine ⟨_, rfl, ?_⟩) | (go_at_call 18; (with_reducible refine (contangolaw08_goes.calls k  t178 _ A11.out).mono ?_); rintro e w13 ⟨rfl, hb⟩; have n0_ := Aside0.mk (below_step (by repeat (first | (with_reducible first | exact HB.out | apply below_alloc | apply pw_below_drewN | apply below_drew1) | exact HB.out)) hb); clear HB; have HB := n0_; clear n0_; (try clear hb); (try clear hb2); (try clear hk); (try clear hi)))
        go_ret
        exact ⟨by first | rfl | (simp [errW_none, errW_some] <;> rfl) | (simp [*, errW_none, errW_some] <;> rfl), by repeat (first | (with_reducible first | exact HB.out | apply below_alloc | apply pw_below_drewN | apply below_drew1) | exact HB.out)⟩
      · rw [if_neg c10] at H
        have c10b0 : (t173 == t175) = false := by simpa using c10
        (try (have c10b1 : decide (t173 = t175) = false := by simpa using c10))
        (try (have c10b2 : (t173 == t175) = false := by simpa using c10))
        (try (have c10b3 : ¬ (t173 = t175) := by simpa using c10))
        clear c10
        obtain rfl := Option.some.inj H
        go_wp2_with (first | ((with_reducible refine gate_callee (f := 16) rfl ?_); refine goesL_ (some 22) rfl rfl Try.func16 (by kernel_rfl) rfl #[.slice A0 l0.length c0] rfl (by (try simp only [List.map_toArray, List.map_cons, List.map_nil]); first | done | rfl | (simp only [List.length_drop, List.length_take]; rfl)) ?_; (with_reducible refine (rate_Check.calls k _ _ l0 t176 _ ?side1 ?side2 A6.out).mono ?_); (case side1 => repeat (first | exact (Kd.C_below HR0.out HB.out) | (with_reducible refine Kd.C_alloc ?_ _) | (with_reducible refine Kd.C_drewN ?_ _) | (with_reducible refine Kd.C_drew ?_))); (case side2 => exact HC0.out); rintro e w14 ⟨rfl, hb⟩; refine ⟨_, rfl, ?_⟩; have n0_ := Aside0.mk (below_step (by repeat (first | (with_reducible first | exact HB.out | apply below_alloc | apply pw_below_drewN | apply below_drew1) | exact HB.out)) hb); clear HB; have HB := n0_; clear n0_; (try clear hb); (try clear hb2); (try clear hk); (try clear hi)) | ((with_reducible refine gate_callee (f := 17) rfl ?_); refine goesL_ (some 24) rfl rfl Try.func17 (by kernel_rfl) rfl #[.slice A0 l0.length c0] rfl (by (try simp only [List.map_toArray, List.map_cons, List.map_nil]); first | done | rfl | (simp only [List.length_drop, List.length_take]; rfl)) ?_; (with_reducible refine (contangoref08_Check.calls k _ _ l0 t177 _ ?side1 ?side2 A7.out).mono ?_); (case side1 => repeat (first | exact (Kd.C_below HR0.out HB.out) | (with_reducible refine Kd.C_alloc ?_ _) | (with_reducible refine Kd.C_drewN ?_ _) | (with_reducible refine Kd.C_drew ?_))); (case side2 => exact HC0.out); rintro e w' ⟨rfl, ⟨nd, rfl⟩⟩; refine ⟨_, rfl, ?_⟩))
        go_ret
        exact ⟨by first | rfl | (simp [errW_none, errW_some] <;> rfl) | (simp [*, errW_none, errW_some] <;> rfl), by repeat (first | (with_reducible first | exact HB.out | apply below_alloc | apply pw_below_drewN | apply below_drew1) | exact HB.out)⟩
    · rw [if_neg c9] at H
      have c9b0 : (t172 == t174) = false := beq_eq_false_iff_ne.mpr c9
      have c9b1 : (t172 != t174) = true := bne_iff_ne.mpr c9
      obtain rfl := Option.some.inj H
      go_wp2_with (first | ((with_reducible refine gate_callee (f := 16) rfl ?_); refine goesL_ (some 22) rfl rfl Try.func16 (by kernel_rfl) rfl #[.slice A0 l0.length c0] rfl (by (try simp only [List.map_toArray, List.map_cons, List.map_nil]); first | done | rfl | (simp only [List.length_drop, List.length_take]; rfl)) ?_; (with_reducible refine (rate_Check.calls k _ _ l0 t176 _ ?side1 ?side2 A6.out).mono ?_); (case side1 => repeat (first | exact (Kd.C_below HR0.out HB.out) | (with_reducible refine Kd.C_alloc ?_ _) | (with_reducible refine Kd.C_drewN ?_ _) | (with_reducible refine Kd.C_drew ?_))); (case side2 => exact HC0.out); rintro e w15 ⟨rfl, hb⟩; refine ⟨_, rfl, ?_⟩; have n0_ := Aside0.mk (below_step (by repeat (first | (with_reducible first | exact HB.out | apply below_alloc | apply pw_below_drewN | apply below_drew1) | exact HB.out)) hb); clear HB; have HB := n0_; clear n0_; (try clear hb); (try clear hb2); (try clear hk); (try clear hi)) | ((with_reducible refine gate_callee (f := 17) rfl ?_); refine goesL_ (some 24) rfl rfl Try.func17 (by kernel_rfl) rfl #[.slice A0 l0.length c0] rfl (by (try simp only [List.map_toArray, List.map_cons, List.map_nil]); first | done | rfl | (simp only [List.length_drop, List.length_take]; rfl)) ?_; (with_reducible refine (contangoref08_Check.calls k _ _ l0 t177 _ ?side1 ?side2 A7.out).mono ?_); (case side1 => repeat (first | exact (Kd.C_below HR0.out HB.out) | (with_reducible refine Kd.C_alloc ?_ _) | (with_reducible refine Kd.C_drewN ?_ _) | (with_reducible refine Kd.C_drew ?_))); (case side2 => exact HC0.out); rintro e w' ⟨rfl, ⟨nd, rfl⟩⟩; refine ⟨_, rfl, ?_⟩))
      go_ret
      exact ⟨by first | rfl | (simp [errW_none, errW_some] <;> rfl) | (simp [*, errW_none, errW_some] <;> rfl), by repeat (first | (with_reducible first | exact HB.out | apply below_alloc | apply pw_below_drewN | apply below_drew1) | exact HB.out)⟩
  · rw [if_neg c8] at H
    have c8b0 : (t176 == t177) = false := beq_eq_false_iff_ne.mpr c8
    have c8b1 : (t176 != t177) = true := bne_iff_ne.mpr c8
    (try simp only [c8b0, c8b1])
    obtain rfl := Option.some.inj H
    go_wp2_with (first | ((with_reducible refine gate_callee (f := 16) rfl ?_); refine goesL_ (some 22) rfl rfl Try.func16 (by kernel_rfl) rfl #[.slice A0 l0.length c0] rfl (by (try simp only [List.map_toArray, List.map_cons, List.map_nil]); first | done | rfl | (simp only [List.length_drop, List.length_take]; rfl)) ?_; (with_reducible refine (rate_Check.calls k _ _ l0 t176 _ ?side1 ?side2 A6.out).mono ?_); (case side1 => repeat (first | exact (Kd.C_below HR0.out HB.out) | (with_reducible refine Kd.C_alloc ?_ _) | (with_reducible refine Kd.C_drewN ?_ _) | (with_reducible refine Kd.C_drew ?_))); (case side2 => exact HC0.out); rintro e w16 ⟨rfl, hb⟩; refine ⟨_, rfl, ?_⟩; have n0_ := Aside0.mk (below_step (by repeat (first | (with_reducible first | exact HB.out | apply below_alloc | apply pw_below_drewN | apply below_drew1) | exact HB.out)) hb); clear HB; have HB := n0_; clear n0_; (try clear hb); (try clear hb2); (try clear hk); (try clear hi)) | ((with_reducible refine gate_callee (f := 17) rfl ?_); refine goesL_ (some 24) rfl rfl Try.func17 (by kernel_rfl) rfl #[.slice A0 l0.length c0] rfl (by (try simp only [List.map_toArray, List.map_cons, List.map_nil]); first | done | rfl | (simp only [List.length_drop, List.length_take]; rfl)) ?_; (with_reducible refine (contangoref08_Check.calls k _ _ l0 t177 _ ?side1 ?side2 A7.out).mono ?_); (case side1 => repeat (first | exact (Kd.C_below HR0.out HB.out) | (with_reducible refine Kd.C_alloc ?_ _) | (with_reducible refine Kd.C_drewN ?_ _) | (with_reducible refine Kd.C_drew ?_))); (case side2 => exact HC0.out); rintro e w' ⟨rfl, ⟨nd, rfl⟩⟩; refine ⟨_, rfl, ?_⟩))
    go_ret
    exact ⟨by first | rfl | (simp [errW_none, errW_some] <;> rfl) | (simp [*, errW_none, errW_some] <;> rfl), by repeat (first | (with_reducible first | exact HB.out | apply below_alloc | apply pw_below_drewN | apply below_drew1) | exact HB.out)⟩
def contangoref01_away.f (a0 : Int) (a1 : Int) (a2 : Int) (a3 : Int) (a4 : Bool) : Option (Bool) := if a3 = 2 then (some true) else (if a3 = 3 then (some a4) else (if a3 = 4 then (some (!a4)) else (if a3 = 5 then (if a1 > (wrap64 (a2 - a1)) then (some true) else (if a1 = (wrap64 (a2 - a1)) then (some ((Int.tmod a0 2) == 1)) else (some false))) else (some false))))
set_option maxHeartbeats 8000000 in
set_option maxRecDepth 100000 in
theorem contangoref01_away.calls (a0 : Int) (a1 : Int) (a2 : Int) (a3 : Int) (a4 : Bool) (r : Bool) (w : World) (h : contangoref01_away.f a0 a1 a2 a3 a4 = some r) :
    Calls Try.prog 77 #[.int .i64 a0, .int .i64 a1, .int .i64 a2, .int .i64 a3, .bool a4] w fun e w' => e = .returned (.bool r) ∧ Drawn0 w w' := by
  have H : (if a3 = 2 then (some true) else (if a3 = 3 then (some a4) else (if a3 = 4 then (some (!a4)) else (if a3 = 5 then (if a1 > (wrap64 (a2 - a1)) then (some true) else (if a1 = (wrap64 (a2 - a1)) then (some ((Int.tmod a0 2) == 1)) else (some false))) else (some false))))) = some r := h
  clear h
  by_cases c6 : a3 = 2
  · rw [if_pos c6] at H
    have c6b0 : (a3 == 2) = true := beq_iff_eq.mpr c6
    have c6b1 : (a3 != 2) = false := bne_eq_false_iff_eq.mpr c6
    clear c6
    obtain rfl := Option.some.inj H
    go_enter Try.func77, Try.ntmps77
    go_wp2
    go_ret
    exact ⟨by first | rfl | (simp; done) | (simp [*]; done), by repeat (first | exact Drawn0.refl _ | apply Drawn0.step)⟩
  · rw [if_neg c6] at H
    have c6b0 : (a3 == 2) = false := beq_eq_false_iff_ne.mpr c6
    have c6b1 : (a3 != 2) = true := bne_iff_ne.mpr c6
    by_cases c7 : a3 = 3
    · rw [if_pos c7] at H
      have c7b0 : (a3 == 3) = true := beq_iff_eq.mpr c7
      have c7b1 : (a3 != 3) = false := bne_eq_false_iff_eq.mpr c7
      clear c7
      obtain rfl := Option.some.inj H
      go_enter Try.func77, Try.ntmps77
      go_wp2
      go_ret
      exact ⟨by first | rfl | (simp; done) | (simp [*]; done), by repeat (first | exact Drawn0.refl _ | apply Drawn0.step)⟩
    · rw [if_neg c7] at H
      have c7b0 : (a3 == 3) = false := beq_eq_false_iff_ne.mpr c7
      have c7b1 : (a3 != 3) = true := bne_iff_ne.mpr c7
      by_cases c8 : a3 = 4
      · rw [if_pos c8] at H
        have c8b0 : (a3 == 4) = true := beq_iff_eq.mpr c8
        have c8b1 : (a3 != 4) = false := bne_eq_false_iff_eq.mpr c8
        clear c8
        obtain rfl := Option.some.inj H
        go_enter Try.func77, Try.ntmps77
        go_wp2
        go_ret
        exact ⟨by first | rfl | (simp; done) | (simp [*]; done), by repeat (first | exact Drawn0.refl _ | apply Drawn0.step)⟩
      · rw [if_neg c8] at H
        have c8b0 : (a3 == 4) = false := beq_eq_false_iff_ne.mpr c8
        have c8b1 : (a3 != 4) = true := bne_iff_ne.mpr c8
        by_cases c9 : a3 = 5
        · rw [if_pos c9] at H
          have c9b0 : (a3 == 5) = true := beq_iff_eq.mpr c9
          have c9b1 : (a3 != 5) = false := bne_eq_false_iff_eq.mpr c9
          clear c9
          by_cases c10 : a1 > (wrap64 (a2 - a1))
          · rw [if_pos c10] at H
            have c10b0 : decide ((wrap64 (a2 - a1)) < a1) = true := decide_eq_true c10
            clear c10
            obtain rfl := Option.some.inj H
            go_enter Try.func77, Try.ntmps77
            go_wp2
            go_ret
            exact ⟨by first | rfl | (simp; done) | (simp [*]; done), by repeat (first | exact Drawn0.refl _ | apply Drawn0.step)⟩
          · rw [if_neg c10] at H
            have c10b0 : decide ((wrap64 (a2 - a1)) < a1) = false := decide_eq_false c10
            clear c10
            by_cases c11 : a1 = (wrap64 (a2 - a1))
            · rw [if_pos c11] at H
              have c11b0 : (a1 == (wrap64 (a2 - a1))) = true := beq_iff_eq.mpr c11
              have c11b1 : (a1 != (wrap64 (a2 - a1))) = false := bne_eq_false_iff_eq.mpr c11
              clear c11
              obtain rfl := Option.some.inj H
              go_enter Try.func77, Try.ntmps77
              go_wp2
              go_ret
              exact ⟨by first | rfl | (simp; done) | (simp [*]; done), by repeat (first | exact Drawn0.refl _ | apply Drawn0.step)⟩
            · rw [if_neg c11] at H
              have c11b0 : (a1 == (wrap64 (a2 - a1))) = false := beq_eq_false_iff_ne.mpr c11
              have c11b1 : (a1 != (wrap64 (a2 - a1))) = true := bne_iff_ne.mpr c11
              obtain rfl := Option.some.inj H
              go_enter Try.func77, Try.ntmps77
              go_wp2
              go_ret
              exact ⟨by first | rfl | (simp; done) | (simp [*]; done), by repeat (first | exact Drawn0.refl _ | apply Drawn0.step)⟩
        · rw [if_neg c9] at H
          have c9b0 : (a3 == 5) = false := beq_eq_false_iff_ne.mpr c9
          have c9b1 : (a3 != 5) = true := bne_iff_ne.mpr c9
          obtain rfl := Option.some.inj H
          go_enter Try.func77, Try.ntmps77
          go_wp2
          go_ret
          exact ⟨by first | rfl | (simp; done) | (simp [*]; done), by repeat (first | exact Drawn0.refl _ | apply Drawn0.step)⟩
end Go.Proofs.Ytaembbndjpebhaa.Pr
