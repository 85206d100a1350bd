/- Functions' values and contracts, as the print wrote them. -/
import Derived.Test.YtaiekjimdjlgbaaQAC7P0
import Derived.Test.YtaiekjimdjlgbaaQAC7P1
namespace Go.Proofs.Ytaiekjimdjlgbaa.Pr
open Go.RowKit Go.Proofs.YtaiekjimdjlgbaaW.PrintWords Go.Proofs.YtaiekjimdjlgbaaW.PrintLast Go.Proofs.YtaiekjimdjlgbaaW.PrintMore
attribute [local go_sem] max2_int min2_int max_two min_two max_three min_three max_four min_four   -- for this text's walks alone
set_option linter.unusedVariables false
set_option linter.unusedSimpArgs false
def contangoref01_quotient.l0 : Nat → Int → Int → Int → Int → Int → Int → Option (Int × Int)
  | 0, _, _, _, _, _, _ => none
  | k + 1, x0, x1, x2, x8, x9, x10 => if x10 ≥ 0 then (if 0 ≤ (IntKind.u64.wrap (x10)) then (if (Int.tmod (shr .i64 x0 (IntKind.u64.wrap (x10))) 2) = 1 then (if x2 = 0 then (none) else (if (wrap64 ((wrap64 (2 * x8)) + (wrap64 (Int.tdiv (wrap64 ((wrap64 (2 * x9)) + x1)) x2)))) > 2305843009213693952 then (contangoref01_quotient.l0 k x0 x1 x2 2305843009213693952 (Int.tmod (wrap64 ((wrap64 (2 * x9)) + x1)) x2) (wrap64 (x10 - 1))) else (contangoref01_quotient.l0 k x0 x1 x2 (wrap64 ((wrap64 (2 * x8)) + (wrap64 (Int.tdiv (wrap64 ((wrap64 (2 * x9)) + x1)) x2)))) (Int.tmod (wrap64 ((wrap64 (2 * x9)) + x1)) x2) (wrap64 (x10 - 1))))) else (if x2 = 0 then (none) else (if (wrap64 ((wrap64 (2 * x8)) + (wrap64 (Int.tdiv (wrap64 (2 * x9)) x2)))) > 2305843009213693952 then (contangoref01_quotient.l0 k x0 x1 x2 2305843009213693952 (Int.tmod (wrap64 (2 * x9)) x2) (wrap64 (x10 - 1))) else (contangoref01_quotient.l0 k x0 x1 x2 (wrap64 ((wrap64 (2 * x8)) + (wrap64 (Int.tdiv (wrap64 (2 * x9)) x2)))) (Int.tmod (wrap64 (2 * x9)) x2) (wrap64 (x10 - 1)))))) else (none)) else (some (x8, x9))
def contangoref01_quotient.f (k : Nat) (a0 : Int) (a1 : Int) (a2 : Int) : Option (Int × Int) := contangoref01_quotient.l0 k a0 a1 a2 0 0 60
theorem contangoref01_quotient.mono_l : ∀ k, (∀ y0 y1 y2 y3 y4 y5, LeO (contangoref01_quotient.l0 k y0 y1 y2 y3 y4 y5) (contangoref01_quotient.l0 (k + 1) y0 y1 y2 y3 y4 y5))
  | 0 => fun _ _ _ _ _ _ r h => by simp [contangoref01_quotient.l0] at h
  | k + 1 => by
    have ih0 := contangoref01_quotient.mono_l k
    · intro y0 y1 y2 y3 y4 y5
      unfold contangoref01_quotient.l0
      repeat' first
      | (with_reducible exact ih0 _ _ _ _ _ _)
      | (with_reducible exact LeO.refl _)
      | (with_reducible exact LeO.none _)
      | (with_reducible refine LeO.ite ?_ ?_)
      | (with_reducible refine LeO.bind ?_ (fun _ => ?_))
      | exact ih0 _ _ _ _ _ _
      | exact LeO.none _
      | refine LeO.ite ?_ ?_
      | refine LeO.bind ?_ (fun _ => ?_)
theorem contangoref01_quotient.mono : ∀ a0 a1 a2 k, LeO (contangoref01_quotient.f k a0 a1 a2) (contangoref01_quotient.f (k + 1) a0 a1 a2) := by
  intro a0 a1 a2 k
  have ih0 := contangoref01_quotient.mono_l k
  unfold contangoref01_quotient.f
  repeat' first
      | (with_reducible exact ih0 _ _ _ _ _ _)
      | (with_reducible exact LeO.refl _)
      | (with_reducible exact LeO.none _)
      | (with_reducible refine LeO.ite ?_ ?_)
      | (with_reducible refine LeO.bind ?_ (fun _ => ?_))
      | exact ih0 _ _ _ _ _ _
      | exact LeO.none _
      | refine LeO.ite ?_ ?_
      | refine LeO.bind ?_ (fun _ => ?_)
set_option maxHeartbeats 8000000 in
set_option maxRecDepth 100000 in
theorem contangoref01_quotient.calls (k : Nat) (a0 : Int) (a1 : Int) (a2 : Int) (r1 : Int) (r2 : Int) (w : World) (h : contangoref01_quotient.f k a0 a1 a2 = some (r1, r2)) :
    Calls Try.prog 96 #[.int .i64 a0, .int .i64 a1, .int .i64 a2] w fun e w' => e = .returned (.tuple #[.int .i64 r1, .int .i64 r2]) ∧ Drawn0 w w' := by
  have H : (contangoref01_quotient.l0 k a0 a1 a2 0 0 60) = some (r1, r2) := h
  clear h
  have H' := Aside0.mk H
  clear H
  go_enter Try.func96, Try.ntmps96
  go_wp2
  go_loopg [8, 9, 10] k (fun kq v8 v9 v10 w' => ∃ (x8_1 : Int) (x9_1 : Int) (x10_1 : Int), v8 = .int .i64 x8_1 ∧ v9 = .int .i64 x9_1 ∧ v10 = .int .i64 x10_1 ∧ Aside0 (contangoref01_quotient.l0 kq a0 a1 a2 x8_1 x9_1 x10_1 = some (r1, r2)) ∧ Aside0 (kq ≤ k) ∧ Drawn0 w w')
  case atStart => exact ⟨(0), (0), (60), (by first | rfl | (simp; done) | (simp [*]; done)), (by first | rfl | (simp; done) | (simp [*]; done)), (by first | rfl | (simp; done) | (simp [*]; done)), H', ⟨Nat.le_refl _⟩, by repeat (first | exact Drawn0.refl _ | apply Drawn0.step)⟩
  case round =>
    clear H'
    try clear p2
    obtain ⟨x8_1, x9_1, x10_1, rfl, rfl, rfl, HA, HK1, ⟨m1, rfl⟩⟩ := hrel
    cases gk with
    | zero => exact absurd HA.out (by simp [contangoref01_quotient.l0])
    | succ k1 =>
      have H := HA.out
      clear HA
      simp only [contangoref01_quotient.l0] at H
      by_cases c4 : x10_1 ≥ 0
      · rw [if_pos c4] at H
        have c4b0 : decide (0 ≤ x10_1) = true := decide_eq_true c4
        clear c4
        (try simp only [c4b0])
        obtain ⟨ji5, hji5⟩ : ∃ j_ : Int, (IntKind.u64.wrap (x10_1)) = j_ := ⟨_, rfl⟩
        replace H : (if 0 ≤ (ji5) then (if (Int.tmod (shr .i64 a0 (ji5)) 2) = 1 then (if a2 = 0 then (none) else (if (wrap64 ((wrap64 (2 * x8_1)) + (wrap64 (Int.tdiv (wrap64 ((wrap64 (2 * x9_1)) + a1)) a2)))) > 2305843009213693952 then (contangoref01_quotient.l0 k1 a0 a1 a2 2305843009213693952 (Int.tmod (wrap64 ((wrap64 (2 * x9_1)) + a1)) a2) (wrap64 (x10_1 - 1))) else (contangoref01_quotient.l0 k1 a0 a1 a2 (wrap64 ((wrap64 (2 * x8_1)) + (wrap64 (Int.tdiv (wrap64 ((wrap64 (2 * x9_1)) + a1)) a2)))) (Int.tmod (wrap64 ((wrap64 (2 * x9_1)) + a1)) a2) (wrap64 (x10_1 - 1))))) else (if a2 = 0 then (none) else (if (wrap64 ((wrap64 (2 * x8_1)) + (wrap64 (Int.tdiv (wrap64 (2 * x9_1)) a2)))) > 2305843009213693952 then (contangoref01_quotient.l0 k1 a0 a1 a2 2305843009213693952 (Int.tmod (wrap64 (2 * x9_1)) a2) (wrap64 (x10_1 - 1))) else (contangoref01_quotient.l0 k1 a0 a1 a2 (wrap64 ((wrap64 (2 * x8_1)) + (wrap64 (Int.tdiv (wrap64 (2 * x9_1)) a2)))) (Int.tmod (wrap64 (2 * x9_1)) a2) (wrap64 (x10_1 - 1)))))) else (none)) = some (r1, r2) := by first | (rw [hji5] at H; exact H) | (simp only [hji5] at H ⊢; exact H)
        by_cases c6 : 0 ≤ (ji5)
        · rw [if_pos c6] at H
          have c6b0 := eq_true c6
          have c6b1 : decide (0 ≤ (ji5)) = true := decide_eq_true c6
          clear c6
          obtain ⟨ji7, hji7⟩ : ∃ j_ : Int, (shr .i64 a0 (ji5)) = j_ := ⟨_, rfl⟩
          replace H : (if (Int.tmod (ji7) 2) = 1 then (if a2 = 0 then (none) else (if (wrap64 ((wrap64 (2 * x8_1)) + (wrap64 (Int.tdiv (wrap64 ((wrap64 (2 * x9_1)) + a1)) a2)))) > 2305843009213693952 then (contangoref01_quotient.l0 k1 a0 a1 a2 2305843009213693952 (Int.tmod (wrap64 ((wrap64 (2 * x9_1)) + a1)) a2) (wrap64 (x10_1 - 1))) else (contangoref01_quotient.l0 k1 a0 a1 a2 (wrap64 ((wrap64 (2 * x8_1)) + (wrap64 (Int.tdiv (wrap64 ((wrap64 (2 * x9_1)) + a1)) a2)))) (Int.tmod (wrap64 ((wrap64 (2 * x9_1)) + a1)) a2) (wrap64 (x10_1 - 1))))) else (if a2 = 0 then (none) else (if (wrap64 ((wrap64 (2 * x8_1)) + (wrap64 (Int.tdiv (wrap64 (2 * x9_1)) a2)))) > 2305843009213693952 then (contangoref01_quotient.l0 k1 a0 a1 a2 2305843009213693952 (Int.tmod (wrap64 (2 * x9_1)) a2) (wrap64 (x10_1 - 1))) else (contangoref01_quotient.l0 k1 a0 a1 a2 (wrap64 ((wrap64 (2 * x8_1)) + (wrap64 (Int.tdiv (wrap64 (2 * x9_1)) a2)))) (Int.tmod (wrap64 (2 * x9_1)) a2) (wrap64 (x10_1 - 1)))))) = some (r1, r2) := by first | (rw [hji7] at H; exact H) | (simp only [hji7] at H ⊢; exact H)
          have hji7_ : (a0 / 2 ^ min (ji5).toNat 64) = ji7 := hji7
          have hji7z : (ji5) ≤ 64 → (a0 / 2 ^ (ji5).toNat) = ji7 := shr_small hji7
          by_cases c8 : (Int.tmod (ji7) 2) = 1
          · rw [if_pos c8] at H
            have c8b0 : ((Int.tmod (ji7) 2) == 1) = true := beq_iff_eq.mpr c8
            have c8b1 : ((Int.tmod (ji7) 2) != 1) = false := bne_eq_false_iff_eq.mpr c8
            clear c8
            (try simp only [c8b0, c8b1])
            by_cases c9 : a2 = 0
            · rw [if_pos c9] at H
              exact absurd H (by simp)
            · rw [if_neg c9] at H
              have c9b0 : (a2 == 0) = false := beq_eq_false_iff_ne.mpr c9
              have c9b1 : (a2 != 0) = true := bne_iff_ne.mpr c9
              by_cases c10 : (wrap64 ((wrap64 (2 * x8_1)) + (wrap64 (Int.tdiv (wrap64 ((wrap64 (2 * x9_1)) + a1)) a2)))) > 2305843009213693952
              · rw [if_pos c10] at H
                have c10b0 : decide (2305843009213693952 < (wrap64 ((wrap64 (2 * x8_1)) + (wrap64 (Int.tdiv (wrap64 ((wrap64 (2 * x9_1)) + a1)) a2))))) = true := decide_eq_true c10
                clear c10
                (try simp only [c10b0])
                have H' := Aside0.mk H
                clear H
                go_wp2
                go_roundg k1
                case measure => have := HK1.out; omega
                case rel => exact ⟨(2305843009213693952), (Int.tmod (wrap64 ((wrap64 (2 * x9_1)) + a1)) a2), (wrap64 (x10_1 - 1)), (by first | rfl | (simp; done) | (simp [*]; done)), (by first | rfl | (simp; done) | (simp [*]; done)), (by first | rfl | (simp; done) | (simp [*]; done)), H', ⟨by have := HK1.out; omega⟩, by repeat (first | exact Drawn0.refl _ | apply Drawn0.step)⟩
              · rw [if_neg c10] at H
                have c10b0 : decide (2305843009213693952 < (wrap64 ((wrap64 (2 * x8_1)) + (wrap64 (Int.tdiv (wrap64 ((wrap64 (2 * x9_1)) + a1)) a2))))) = false := decide_eq_false c10
                clear c10
                (try simp only [c10b0])
                have H' := Aside0.mk H
                clear H
                go_wp2
                go_roundg k1
                case measure => have := HK1.out; omega
                case rel => exact ⟨(wrap64 ((wrap64 (2 * x8_1)) + (wrap64 (Int.tdiv (wrap64 ((wrap64 (2 * x9_1)) + a1)) a2)))), (Int.tmod (wrap64 ((wrap64 (2 * x9_1)) + a1)) a2), (wrap64 (x10_1 - 1)), (by first | rfl | (simp; done) | (simp [*]; done)), (by first | rfl | (simp; done) | (simp [*]; done)), (by first | rfl | (simp; done) | (simp [*]; done)), H', ⟨by have := HK1.out; omega⟩, by repeat (first | exact Drawn0.refl _ | apply Drawn0.step)⟩
          · rw [if_neg c8] at H
            have c8b0 : ((Int.tmod (ji7) 2) == 1) = false := beq_eq_false_iff_ne.mpr c8
            have c8b1 : ((Int.tmod (ji7) 2) != 1) = true := bne_iff_ne.mpr c8
            (try simp only [c8b0, c8b1])
            by_cases c11 : a2 = 0
            · rw [if_pos c11] at H
              exact absurd H (by simp)
            · rw [if_neg c11] at H
              have c11b0 : (a2 == 0) = false := beq_eq_false_iff_ne.mpr c11
              have c11b1 : (a2 != 0) = true := bne_iff_ne.mpr c11
              by_cases c12 : (wrap64 ((wrap64 (2 * x8_1)) + (wrap64 (Int.tdiv (wrap64 (2 * x9_1)) a2)))) > 2305843009213693952
              · rw [if_pos c12] at H
                have c12b0 : decide (2305843009213693952 < (wrap64 ((wrap64 (2 * x8_1)) + (wrap64 (Int.tdiv (wrap64 (2 * x9_1)) a2))))) = true := decide_eq_true c12
                clear c12
                (try simp only [c12b0])
                have H' := Aside0.mk H
                clear H
                go_wp2
                go_roundg k1
                case measure => have := HK1.out; omega
                case rel => exact ⟨(2305843009213693952), (Int.tmod (wrap64 (2 * x9_1)) a2), (wrap64 (x10_1 - 1)), (by first | rfl | (simp; done) | (simp [*]; done)), (by first | rfl | (simp; done) | (simp [*]; done)), (by first | rfl | (simp; done) | (simp [*]; done)), H', ⟨by have := HK1.out; omega⟩, by repeat (first | exact Drawn0.refl _ | apply Drawn0.step)⟩
              · rw [if_neg c12] at H
                have c12b0 : decide (2305843009213693952 < (wrap64 ((wrap64 (2 * x8_1)) + (wrap64 (Int.tdiv (wrap64 (2 * x9_1)) a2))))) = false := decide_eq_false c12
                clear c12
                (try simp only [c12b0])
                have H' := Aside0.mk H
                clear H
                go_wp2
                go_roundg k1
                case measure => have := HK1.out; omega
                case rel => exact ⟨(wrap64 ((wrap64 (2 * x8_1)) + (wrap64 (Int.tdiv (wrap64 (2 * x9_1)) a2)))), (Int.tmod (wrap64 (2 * x9_1)) a2), (wrap64 (x10_1 - 1)), (by first | rfl | (simp; done) | (simp [*]; done)), (by first | rfl | (simp; done) | (simp [*]; done)), (by first | rfl | (simp; done) | (simp [*]; done)), H', ⟨by have := HK1.out; omega⟩, by repeat (first | exact Drawn0.refl _ | apply Drawn0.step)⟩
        · rw [if_neg c6] at H
          exact absurd H (by simp)
      · rw [if_neg c4] at H
        have c4b0 : decide (0 ≤ x10_1) = false := decide_eq_false c4
        clear c4
        (try simp only [c4b0])
        simp only [Option.some.injEq, Prod.mk.injEq] at H
        obtain ⟨rfl, rfl⟩ := H
        go_wp2
        go_ret2
        exact ⟨by first | rfl | (simp; done) | (simp [*]; done), by repeat (first | exact Drawn0.refl _ | apply Drawn0.step)⟩
theorem quo_dbl (N c x : Int) (hc : 0 < c) : (2 * N + x) / c = 2 * (N / c) + (2 * (N % c) + x) / c ∧ (2 * N + x) % c = (2 * (N % c) + x) % c := by
  have h := Int.mul_ediv_add_emod N c
  have e : 2 * N + x = (2 * (N % c) + x) + c * (2 * (N / c)) := by grind
  rw [e]
  exact ⟨by rw [Int.add_mul_ediv_left _ _ (by omega)]; omega, by rw [Int.add_mul_emod_self_left]⟩
theorem quo_cap (Q s q : Int) (hQ : 0 ≤ Q) (hs : 0 ≤ s) (hs' : s ≤ 2305843009213693952) (hq : q = if Q ≤ 2305843009213693952 then Q else 2305843009213693952) :
    (if wrap64 (wrap64 (2 * q) + wrap64 s) > 2305843009213693952 then 2305843009213693952 else wrap64 (wrap64 (2 * q) + wrap64 s)) = if 2 * Q + s ≤ 2305843009213693952 then 2 * Q + s else 2305843009213693952 := by
  unfold wrap64
  subst hq
  split <;> split <;> split <;> omega
theorem quo_loop (a b c : Int) (ha : 0 ≤ a) (ha' : a ≤ 1152921504606846976) (hb : 0 ≤ b) (hb' : b ≤ 1152921504606846976) (hc : 0 < c) (hc' : c ≤ 1152921504606846976) :
    ∀ (n : Nat) (k : Nat) (q r : Int), n ≤ 61 → n < k → q = (if a / 2 ^ n * b / c ≤ 2305843009213693952 then a / 2 ^ n * b / c else 2305843009213693952) → r = a / 2 ^ n * b % c →
      contangoref01_quotient.l0 k a b c q r ((n : Int) - 1) = some (if a * b / c ≤ 2305843009213693952 then a * b / c else 2305843009213693952, a * b % c) := by
  intro n
  induction n with
  | zero =>
    intro k q r _ hk hq hr
    obtain ⟨k, rfl⟩ : ∃ m, k = m + 1 := ⟨k - 1, by omega⟩
    simp only [contangoref01_quotient.l0]
    rw [if_neg (by omega), hq, hr]
    simp
  | succ n ih =>
    intro k q r hn hk hq hr
    obtain ⟨k, rfl⟩ : ∃ m, k = m + 1 := ⟨k - 1, by omega⟩
    have e0 : ((n + 1 : Nat) : Int) - 1 = (n : Int) := by omega
    have w0 : IntKind.u64.wrap (n : Int) = (n : Int) := by rw [IntKind.wrap_u64]; omega
    have hp : (0 : Int) < 2 ^ n := Int.pow_pos (by omega)
    have hA : 0 ≤ a / 2 ^ n := Int.ediv_nonneg ha (by omega)
    have hA2 : a / 2 ^ (n + 1) = a / 2 ^ n / 2 := by
      rw [Int.pow_succ, Int.ediv_ediv_of_nonneg (by omega)]
    have hAle : a / 2 ^ n ≤ a := Int.ediv_le_self _ ha
    have esh : shr .i64 a (n : Int) = a / 2 ^ n := by
      unfold shr
      rw [Int.toNat_natCast, Nat.min_eq_left (show n ≤ IntKind.i64.bits by show n ≤ 64; omega)]
    have hr0 := Int.emod_nonneg (a / 2 ^ (n + 1) * b) (b := c) (by omega)
    have hr1 := Int.emod_lt_of_pos (a / 2 ^ (n + 1) * b) hc
    have hQ0 : 0 ≤ a / 2 ^ (n + 1) * b / c := Int.ediv_nonneg (Int.mul_nonneg (by rw [hA2]; omega) hb) (by omega)
    generalize hA' : a / 2 ^ n = A at *
    generalize hN : a / 2 ^ (n + 1) * b = N at *
    have wr : wrap64 (2 * r) = 2 * r := by unfold wrap64; omega
    have wrb : wrap64 (wrap64 (2 * r) + b) = 2 * r + b := by unfold wrap64; omega
    have wn : wrap64 ((n : Int) - 1) = (n : Int) - 1 := by unfold wrap64; omega
    have step : ∀ x : Int, 0 ≤ x → x ≤ 1152921504606846976 → A * b = 2 * N + x → 
        (if wrap64 (wrap64 (2 * q) + wrap64 ((2 * r + x) / c)) > 2305843009213693952 then contangoref01_quotient.l0 k a b c 2305843009213693952 ((2 * r + x) % c) ((n : Int) - 1)
         else contangoref01_quotient.l0 k a b c (wrap64 (wrap64 (2 * q) + wrap64 ((2 * r + x) / c))) ((2 * r + x) % c) ((n : Int) - 1)) = some (if a * b / c ≤ 2305843009213693952 then a * b / c else 2305843009213693952, a * b % c) := by
      intro x hx0 hx1 hx
      obtain ⟨d1, d2⟩ := quo_dbl N c x hc
      rw [← hr] at d1 d2
      have s0 : 0 ≤ (2 * r + x) / c := Int.ediv_nonneg (by omega) (by omega)
      have s1 : (2 * r + x) / c ≤ 2305843009213693952 := by
        have : (2 * r + x) / c < 2305843009213693953 := (Int.ediv_lt_iff_lt_mul hc).2 (by omega)
        omega
      have cap := quo_cap (N / c) ((2 * r + x) / c) q hQ0 s0 s1 hq
      rw [← d1, ← hx] at cap
      rw [← hx] at d2
      have := ih k (if wrap64 (wrap64 (2 * q) + wrap64 ((2 * r + x) / c)) > 2305843009213693952 then 2305843009213693952 else wrap64 (wrap64 (2 * q) + wrap64 ((2 * r + x) / c))) ((2 * r + x) % c) (by omega) (by omega) cap d2.symm
      split at this
      · rw [if_pos (by assumption)]; exact this
      · rw [if_neg (by assumption)]; exact this
    simp only [contangoref01_quotient.l0]
    rw [e0, if_pos (by omega), w0, if_pos (by omega), esh, Int.tmod_eq_emod_of_nonneg hA, if_neg (show ¬ c = 0 by omega), if_neg (show ¬ c = 0 by omega), wrb, wr, wn]
    rw [Int.tdiv_eq_ediv_of_nonneg (show 0 ≤ 2 * r + b by omega), Int.tmod_eq_emod_of_nonneg (show 0 ≤ 2 * r + b by omega), Int.tdiv_eq_ediv_of_nonneg (show 0 ≤ 2 * r by omega), Int.tmod_eq_emod_of_nonneg (show 0 ≤ 2 * r by omega)]
    by_cases hbit : A % 2 = 1
    · rw [if_pos hbit]
      refine step b hb hb' ?_
      rw [← hN, hA2]
      have : A = 2 * (A / 2) + 1 := by omega
      grind
    · rw [if_neg hbit]
      have := step 0 (by omega) (by omega) (by
        rw [← hN, hA2]
        have : A = 2 * (A / 2) := by omega
        grind)
      rw [Int.add_zero] at this
      exact this
theorem contangoref01_quotient.eq (a b c : Int) (ha : 0 ≤ a) (ha' : a ≤ 1152921504606846976) (hb : 0 ≤ b) (hb' : b ≤ 1152921504606846976) (hc : 0 < c) (hc' : c ≤ 1152921504606846976) (k : Nat) (hk : 70 ≤ k) :
    contangoref01_quotient.f k a b c = some (if a * b / c ≤ 2305843009213693952 then a * b / c else 2305843009213693952, a * b % c) := by
  unfold contangoref01_quotient.f
  have h0 : a / 2 ^ 61 = 0 := Int.ediv_eq_zero_of_lt ha (by omega)
  exact quo_loop a b c ha ha' hb hb' hc hc' 61 k 0 0 (by omega) (by omega) (by rw [h0]; simp) (by rw [h0]; simp)
def contangoref01_away.f (a0 : Int) (a1 : Int) (a2 : Int) (a3 : Int) (a4 : Bool) : Option (Bool) := if a3 = 2 then (some true) else (if a3 = 3 then (some a4) else (if a3 = 4 then (some (!a4)) else (if a3 = 5 then (if a1 > (wrap64 (a2 - a1)) then (some true) else (if a1 = (wrap64 (a2 - a1)) then (some ((Int.tmod a0 2) == 1)) else (some false))) else (some false))))
set_option maxHeartbeats 8000000 in
set_option maxRecDepth 100000 in
theorem contangoref01_away.calls (a0 : Int) (a1 : Int) (a2 : Int) (a3 : Int) (a4 : Bool) (r : Bool) (w : World) (h : contangoref01_away.f a0 a1 a2 a3 a4 = some r) :
    Calls Try.prog 97 #[.int .i64 a0, .int .i64 a1, .int .i64 a2, .int .i64 a3, .bool a4] w fun e w' => e = .returned (.bool r) ∧ Drawn0 w w' := by
  have H : (if a3 = 2 then (some true) else (if a3 = 3 then (some a4) else (if a3 = 4 then (some (!a4)) else (if a3 = 5 then (if a1 > (wrap64 (a2 - a1)) then (some true) else (if a1 = (wrap64 (a2 - a1)) then (some ((Int.tmod a0 2) == 1)) else (some false))) else (some false))))) = some r := h
  clear h
  by_cases c6 : a3 = 2
  · rw [if_pos c6] at H
    have c6b0 : (a3 == 2) = true := beq_iff_eq.mpr c6
    have c6b1 : (a3 != 2) = false := bne_eq_false_iff_eq.mpr c6
    clear c6
    obtain rfl := Option.some.inj H
    go_enter Try.func97, Try.ntmps97
    go_wp2
    go_ret
    exact ⟨by first | rfl | (simp; done) | (simp [*]; done), by repeat (first | exact Drawn0.refl _ | apply Drawn0.step)⟩
  · rw [if_neg c6] at H
    have c6b0 : (a3 == 2) = false := beq_eq_false_iff_ne.mpr c6
    have c6b1 : (a3 != 2) = true := bne_iff_ne.mpr c6
    by_cases c7 : a3 = 3
    · rw [if_pos c7] at H
      have c7b0 : (a3 == 3) = true := beq_iff_eq.mpr c7
      have c7b1 : (a3 != 3) = false := bne_eq_false_iff_eq.mpr c7
      clear c7
      obtain rfl := Option.some.inj H
      go_enter Try.func97, Try.ntmps97
      go_wp2
      go_ret
      exact ⟨by first | rfl | (simp; done) | (simp [*]; done), by repeat (first | exact Drawn0.refl _ | apply Drawn0.step)⟩
    · rw [if_neg c7] at H
      have c7b0 : (a3 == 3) = false := beq_eq_false_iff_ne.mpr c7
      have c7b1 : (a3 != 3) = true := bne_iff_ne.mpr c7
      by_cases c8 : a3 = 4
      · rw [if_pos c8] at H
        have c8b0 : (a3 == 4) = true := beq_iff_eq.mpr c8
        have c8b1 : (a3 != 4) = false := bne_eq_false_iff_eq.mpr c8
        clear c8
        obtain rfl := Option.some.inj H
        go_enter Try.func97, Try.ntmps97
        go_wp2
        go_ret
        exact ⟨by first | rfl | (simp; done) | (simp [*]; done), by repeat (first | exact Drawn0.refl _ | apply Drawn0.step)⟩
      · rw [if_neg c8] at H
        have c8b0 : (a3 == 4) = false := beq_eq_false_iff_ne.mpr c8
        have c8b1 : (a3 != 4) = true := bne_iff_ne.mpr c8
        by_cases c9 : a3 = 5
        · rw [if_pos c9] at H
          have c9b0 : (a3 == 5) = true := beq_iff_eq.mpr c9
          have c9b1 : (a3 != 5) = false := bne_eq_false_iff_eq.mpr c9
          clear c9
          by_cases c10 : a1 > (wrap64 (a2 - a1))
          · rw [if_pos c10] at H
            have c10b0 : decide ((wrap64 (a2 - a1)) < a1) = true := decide_eq_true c10
            clear c10
            obtain rfl := Option.some.inj H
            go_enter Try.func97, Try.ntmps97
            go_wp2
            go_ret
            exact ⟨by first | rfl | (simp; done) | (simp [*]; done), by repeat (first | exact Drawn0.refl _ | apply Drawn0.step)⟩
          · rw [if_neg c10] at H
            have c10b0 : decide ((wrap64 (a2 - a1)) < a1) = false := decide_eq_false c10
            clear c10
            by_cases c11 : a1 = (wrap64 (a2 - a1))
            · rw [if_pos c11] at H
              have c11b0 : (a1 == (wrap64 (a2 - a1))) = true := beq_iff_eq.mpr c11
              have c11b1 : (a1 != (wrap64 (a2 - a1))) = false := bne_eq_false_iff_eq.mpr c11
              clear c11
              obtain rfl := Option.some.inj H
              go_enter Try.func97, Try.ntmps97
              go_wp2
              go_ret
              exact ⟨by first | rfl | (simp; done) | (simp [*]; done), by repeat (first | exact Drawn0.refl _ | apply Drawn0.step)⟩
            · rw [if_neg c11] at H
              have c11b0 : (a1 == (wrap64 (a2 - a1))) = false := beq_eq_false_iff_ne.mpr c11
              have c11b1 : (a1 != (wrap64 (a2 - a1))) = true := bne_iff_ne.mpr c11
              obtain rfl := Option.some.inj H
              go_enter Try.func97, Try.ntmps97
              go_wp2
              go_ret
              exact ⟨by first | rfl | (simp; done) | (simp [*]; done), by repeat (first | exact Drawn0.refl _ | apply Drawn0.step)⟩
        · rw [if_neg c9] at H
          have c9b0 : (a3 == 5) = false := beq_eq_false_iff_ne.mpr c9
          have c9b1 : (a3 != 5) = true := bne_iff_ne.mpr c9
          obtain rfl := Option.some.inj H
          go_enter Try.func97, Try.ntmps97
          go_wp2
          go_ret
          exact ⟨by first | rfl | (simp; done) | (simp [*]; done), by repeat (first | exact Drawn0.refl _ | apply Drawn0.step)⟩
set_option maxHeartbeats 4000000 in
set_option maxRecDepth 100000 in
theorem contangoref01_MulDiv.bad (a0 a1 a2 a3 : Int) (w : World) (h : ¬ (mdFits a0 ∧ mdFits a1 ∧ mdFits a2 ∧ 1 ≤ a3 ∧ a3 ≤ 5)) :
    Calls Try.prog 57 #[.int .i64 a0, .int .i64 a1, .int .i64 a2, .int .i64 a3] w fun e w' => e = .returned (.tuple #[.int .i64 0, .int .i64 2]) ∧ w' = w := by
  rcases md_bad_cases a0 a1 a2 a3 h with h1 | h1 | ⟨⟨h1, h2⟩, h3⟩ | ⟨⟨h1, h2⟩, h3⟩ | ⟨⟨h1, h2⟩, ⟨h3, h4⟩, h5⟩ | ⟨⟨h1, h2⟩, ⟨h3, h4⟩, h5⟩ | ⟨⟨h1, h2⟩, ⟨h3, h4⟩, ⟨h5, h6⟩, h7⟩ | ⟨⟨h1, h2⟩, ⟨h3, h4⟩, ⟨h5, h6⟩, h7⟩
  all_goals
    clear h
    go_enter Try.func57, Try.ntmps57
    go_wp2
    go_ret2
    exact ⟨rfl, rfl⟩
set_option maxHeartbeats 4000000 in
set_option maxRecDepth 100000 in
theorem contangoref01_MulDiv.z (a0 a1 a2 a3 : Int) (w : World) (h1 : -1152921504606846976 ≤ a0) (h2 : a0 ≤ 1152921504606846976) (h3 : -1152921504606846976 ≤ a1) (h4 : a1 ≤ 1152921504606846976)
    (h5 : -1152921504606846976 ≤ a2) (h6 : a2 ≤ 1152921504606846976) (hc : (a2 == 0) = true) (m1 : 1 ≤ a3) (m2 : a3 ≤ 5) :
    Calls Try.prog 57 #[.int .i64 a0, .int .i64 a1, .int .i64 a2, .int .i64 a3] w fun e w' => e = .returned (.tuple #[.int .i64 0, .int .i64 4]) ∧ Below w.heap.size w w' := by
  go_enter Try.func57, Try.ntmps57
  go_wp2_with (go_at_call 90; go_in)
  go_ret2
  exact ⟨rfl, Below.refl _ _⟩
theorem rsize_eq (a : Int) (h1 : -1152921504606846976 ≤ a) : contangoref01_size.f a = some (a.natAbs : Int) := by
  unfold contangoref01_size.f wrap64
  split <;> (congr 1; omega)
/-- What the reference makes of quotient and rest. -/
def rmQ (Q R : Int) (av : Bool) : Int := if 0 < R ∧ av = true then Q + 1 else Q
def rmRes (q : Int) (bl : Bool) : Int × Int := if 1152921504606846976 < q then (0, 3) else (if bl = true then -q else q, 0)
theorem rm_end {q n er : Int} {bl : Bool} (h : rmRes q bl = (n, er)) : Ending.returned (.tuple #[.int .i64 n, .int .i64 er]) = .returned (.tuple #[.int .i64 (rmRes q bl).1, .int .i64 (rmRes q bl).2]) := by rw [h]
set_option maxHeartbeats 4000000 in
set_option maxRecDepth 100000 in
theorem contangoref01_MulDiv.main (a0 a1 a2 a3 : Int) (w : World) (h1 : -1152921504606846976 ≤ a0) (h2 : a0 ≤ 1152921504606846976) (h3 : -1152921504606846976 ≤ a1) (h4 : a1 ≤ 1152921504606846976)
    (h5 : -1152921504606846976 ≤ a2) (h6 : a2 ≤ 1152921504606846976) (hc : (a2 == 0) = false) (m1 : 1 ≤ a3) (m2 : a3 ≤ 5) (Q R : Int) (bl av : Bool)
    (fb : (!((!(decide (a0 < 0) == decide (a1 < 0))) == decide (a2 < 0))) = bl) (hQ : Aside0 (contangoref01_quotient.f 70 a0.natAbs a1.natAbs a2.natAbs = some (Q, R)))
    (hav : Aside0 (contangoref01_away.f Q R a2.natAbs a3 bl = some av)) (hQ0 : 0 ≤ Q) (hQ1 : Q ≤ 2305843009213693952) :
    Calls Try.prog 57 #[.int .i64 a0, .int .i64 a1, .int .i64 a2, .int .i64 a3] w fun e w' => e = .returned (.tuple #[.int .i64 (rmRes (rmQ Q R av) bl).1, .int .i64 (rmRes (rmQ Q R av) bl).2]) ∧ Below w.heap.size w w' := by
  by_cases hR : 0 < R
  · cases av
    · have eq : rmQ Q R false = Q := by unfold rmQ; rw [if_neg (by simp)]
      rw [eq]; clear eq
      go_enter Try.func57, Try.ntmps57
      go_wp2_with (first | (go_at_call 90; go_in) | (go_at_call 91; refine (contangoref01_size.calls _ _ _ (rsize_eq _ (by omega))).mono ?_; rintro e w1 ⟨rfl, ⟨nd, rfl⟩⟩) | (go_at_call 96; refine (contangoref01_quotient.calls 70 _ _ _ _ _ _ hQ.out).mono ?_; rintro e w1 ⟨rfl, ⟨nd, rfl⟩⟩) | (go_at_call 97; refine (contangoref01_away.calls _ _ _ _ _ _ _ hav.out).mono ?_; rintro e w1 ⟨rfl, ⟨nd, rfl⟩⟩))
      all_goals go_ret2
      all_goals refine ⟨rm_end ?_, by repeat (first | exact Below.refl _ _ | apply pw_below_drewN | apply below_drew)⟩
      all_goals go_light
      · exact if_pos (by omega)
      · exact (if_neg (by omega)).trans (by rw [if_pos (by first | rfl | assumption)])
      · exact (if_neg (by omega)).trans (by rw [if_neg (by first | (simp; done) | (simp; assumption))])
    · have eq : rmQ Q R true = Q + 1 := by unfold rmQ; rw [if_pos ⟨hR, rfl⟩]
      rw [eq]; clear eq
      go_enter Try.func57, Try.ntmps57
      go_wp2_with (first | (go_at_call 90; go_in) | (go_at_call 91; refine (contangoref01_size.calls _ _ _ (rsize_eq _ (by omega))).mono ?_; rintro e w1 ⟨rfl, ⟨nd, rfl⟩⟩) | (go_at_call 96; refine (contangoref01_quotient.calls 70 _ _ _ _ _ _ hQ.out).mono ?_; rintro e w1 ⟨rfl, ⟨nd, rfl⟩⟩) | (go_at_call 97; refine (contangoref01_away.calls _ _ _ _ _ _ _ hav.out).mono ?_; rintro e w1 ⟨rfl, ⟨nd, rfl⟩⟩))
      all_goals go_ret2
      all_goals refine ⟨rm_end ?_, by repeat (first | exact Below.refl _ _ | apply pw_below_drewN | apply below_drew)⟩
      all_goals go_light
      · exact if_pos (by omega)
      · exact (if_neg (by omega)).trans (by rw [if_pos (by first | rfl | assumption)])
      · exact (if_neg (by omega)).trans (by rw [if_neg (by first | (simp; done) | (simp; assumption))])
  · have eq : rmQ Q R av = Q := by unfold rmQ; rw [if_neg (fun h => hR h.1)]
    rw [eq]; clear eq
    have hR' : R ≤ 0 := by omega
    clear hR
    go_enter Try.func57, Try.ntmps57
    go_wp2_with (first | (go_at_call 90; go_in) | (go_at_call 91; refine (contangoref01_size.calls _ _ _ (rsize_eq _ (by omega))).mono ?_; rintro e w1 ⟨rfl, ⟨nd, rfl⟩⟩) | (go_at_call 96; refine (contangoref01_quotient.calls 70 _ _ _ _ _ _ hQ.out).mono ?_; rintro e w1 ⟨rfl, ⟨nd, rfl⟩⟩) | (go_at_call 97; refine (contangoref01_away.calls _ _ _ _ _ _ _ hav.out).mono ?_; rintro e w1 ⟨rfl, ⟨nd, rfl⟩⟩))
    all_goals go_ret2
    all_goals refine ⟨rm_end ?_, by repeat (first | exact Below.refl _ _ | apply pw_below_drewN | apply below_drew)⟩
    all_goals go_light
    · exact if_pos (by omega)
    · exact (if_neg (by omega)).trans (by rw [if_pos (by first | rfl | assumption)])
    · exact (if_neg (by omega)).trans (by rw [if_neg (by first | (simp; done) | (simp; assumption))])
theorem raway_eq (Q R c mode : Int) (bl : Bool) (h0 : 0 ≤ Q) (hR : 0 ≤ R) (hc : R < c) (hc' : c ≤ 1152921504606846976) (m1 : 1 ≤ mode) (m2 : mode ≤ 5) : contangoref01_away.f Q R c mode bl = some (mdAway mode bl Q R c) := by
  have hw : wrap64 (c - R) = c - R := by unfold wrap64; omega
  have ht : Int.tmod Q 2 = Q % 2 := Int.tmod_eq_emod_of_nonneg h0
  unfold contangoref01_away.f mdAway
  rw [hw, ht]
  obtain rfl | rfl | rfl | rfl | rfl : mode = 1 ∨ mode = 2 ∨ mode = 3 ∨ mode = 4 ∨ mode = 5 := by omega
  · rfl
  · rfl
  · cases bl <;> rfl
  · cases bl <;> rfl
  · by_cases g1 : R > c - R
    · rw [if_neg (by omega), if_neg (by omega), if_neg (by omega), if_pos rfl, if_pos g1, decide_eq_true (show c - R < R from g1)]; rfl
    · rw [if_neg (by omega), if_neg (by omega), if_neg (by omega), if_pos rfl, if_neg g1, decide_eq_false (show ¬ c - R < R from g1)]
      by_cases g2 : R = c - R
      · rw [if_pos g2, decide_eq_true g2]
        by_cases g3 : Q % 2 = 1
        · rw [g3]; rfl
        · rw [decide_eq_false g3, beq_eq_false_iff_ne.mpr g3]; rfl
      · rw [if_neg g2, decide_eq_false g2]; rfl
def contangoref01_MulDiv.f (a0 a1 a2 a3 : Int) : Option (Int × Int) := cents_MulDiv.f a0 a1 a2 a3
theorem contangoref01_MulDiv.calls (a0 a1 a2 a3 r1 r2 : Int) (w : World) (h : contangoref01_MulDiv.f a0 a1 a2 a3 = some (r1, r2)) :
    Calls Try.prog 57 #[.int .i64 a0, .int .i64 a1, .int .i64 a2, .int .i64 a3] w fun e w' => e = .returned (.tuple #[.int .i64 r1, .int .i64 r2]) ∧ Below w.heap.size w w' := by
  unfold contangoref01_MulDiv.f cents_MulDiv.f at h
  by_cases c : mdFits a0 ∧ mdFits a1 ∧ mdFits a2 ∧ 1 ≤ a3 ∧ a3 ≤ 5
  · rw [if_pos c] at h
    obtain ⟨⟨c1, c2⟩, ⟨c3, c4⟩, ⟨c5, c6⟩, c7, c8⟩ := c
    by_cases d : a2 = 0
    · rw [if_pos d] at h
      have h' := Option.some.inj h
      simp only [Prod.mk.injEq] at h'
      obtain ⟨rfl, rfl⟩ := h'
      exact contangoref01_MulDiv.z a0 a1 a2 a3 w c1 c2 c3 c4 c5 c6 (by simpa using d) c7 c8
    · rw [if_neg d] at h
      have h' := Option.some.inj h
      have e1 : (mdRes a0 a1 a2 a3).1 = r1 := by rw [h']
      have e2 : (mdRes a0 a1 a2 a3).2 = r2 := by rw [h']
      rw [← e1, ← e2]
      have hq0 : 0 ≤ (a0.natAbs : Int) * a1.natAbs / a2.natAbs := Int.ediv_nonneg (Int.mul_nonneg (by omega) (by omega)) (by omega)
      have hr0 := Int.emod_nonneg ((a0.natAbs : Int) * a1.natAbs) (b := (a2.natAbs : Int)) (by omega)
      have hr1 := Int.emod_lt_of_pos ((a0.natAbs : Int) * a1.natAbs) (b := (a2.natAbs : Int)) (by omega)
      have eq := contangoref01_quotient.eq a0.natAbs a1.natAbs a2.natAbs (by omega) (by omega) (by omega) (by omega) (by omega) (by omega) 70 (by omega)
      have em : rmRes (rmQ (if (a0.natAbs : Int) * a1.natAbs / a2.natAbs ≤ 2305843009213693952 then (a0.natAbs : Int) * a1.natAbs / a2.natAbs else 2305843009213693952) ((a0.natAbs : Int) * a1.natAbs % a2.natAbs)
          (mdAway a3 (mdBelow a0 a1 a2) (if (a0.natAbs : Int) * a1.natAbs / a2.natAbs ≤ 2305843009213693952 then (a0.natAbs : Int) * a1.natAbs / a2.natAbs else 2305843009213693952) ((a0.natAbs : Int) * a1.natAbs % a2.natAbs) a2.natAbs)) (mdBelow a0 a1 a2) = mdRes a0 a1 a2 a3 := by
        by_cases g : (a0.natAbs : Int) * a1.natAbs / a2.natAbs ≤ 2305843009213693952
        · rw [if_pos g]; rfl
        · rw [if_neg g]
          unfold rmRes mdRes
          rw [if_pos (by unfold rmQ; split <;> omega), if_pos (by unfold mdQ; split <;> omega)]
      rw [← em]
      refine contangoref01_MulDiv.main a0 a1 a2 a3 w c1 c2 c3 c4 c5 c6 (by simpa using d) c7 c8 _ _ _ _ rfl (Aside0.mk eq) (Aside0.mk (raway_eq _ _ _ _ _ ?_ hr0 hr1 (by omega) c7 c8)) ?_ ?_
      · split <;> omega
      · split <;> omega
      · split <;> omega
  · rw [if_neg c] at h
    have h' := Option.some.inj h
    simp only [Prod.mk.injEq] at h'
    obtain ⟨rfl, rfl⟩ := h'
    refine (contangoref01_MulDiv.bad a0 a1 a2 a3 w c).mono ?_
    rintro e w' ⟨rfl, rfl⟩
    exact ⟨rfl, Below.refl _ _⟩
def contangoref08_Find.l0 : Nat → List (S94) → ByteArray → Int → Option (Int × Bool)
  | 0, _, _, _ => none
  | k + 1, x0, x1, x6 => if x6 < (x0.length : Int) then (if 0 ≤ x6 then (if ((rd_T94 x0 x6).f0).toList = x1.toList then (some (x6, true)) else (contangoref08_Find.l0 k x0 x1 (wrap64 (x6 + 1)))) else (none)) else (some (0, false))
def contangoref08_Find.f (k : Nat) (l0 : List (S94)) (a1 : ByteArray) : Option (Int × Bool) := contangoref08_Find.l0 k l0 a1 0
theorem contangoref08_Find.mono_l : ∀ k, (∀ y0 y1 y2, LeO (contangoref08_Find.l0 k y0 y1 y2) (contangoref08_Find.l0 (k + 1) y0 y1 y2))
  | 0 => fun _ _ _ r h => by simp [contangoref08_Find.l0] at h
  | k + 1 => by
    have ih0 := contangoref08_Find.mono_l k
    · intro y0 y1 y2
      unfold contangoref08_Find.l0
      repeat' first
      | (with_reducible exact ih0 _ _ _)
      | (with_reducible exact LeO.refl _)
      | (with_reducible exact LeO.none _)
      | (with_reducible refine LeO.ite ?_ ?_)
      | (with_reducible refine LeO.bind ?_ (fun _ => ?_))
      | exact ih0 _ _ _
      | exact LeO.none _
      | refine LeO.ite ?_ ?_
      | refine LeO.bind ?_ (fun _ => ?_)
theorem contangoref08_Find.mono : ∀ a0 a1 k, LeO (contangoref08_Find.f k a0 a1) (contangoref08_Find.f (k + 1) a0 a1) := by
  intro a0 a1 k
  have ih0 := contangoref08_Find.mono_l k
  unfold contangoref08_Find.f
  repeat' first
      | (with_reducible exact ih0 _ _ _)
      | (with_reducible exact LeO.refl _)
      | (with_reducible exact LeO.none _)
      | (with_reducible refine LeO.ite ?_ ?_)
      | (with_reducible refine LeO.bind ?_ (fun _ => ?_))
      | exact ih0 _ _ _
      | exact LeO.none _
      | refine LeO.ite ?_ ?_
      | refine LeO.bind ?_ (fun _ => ?_)
set_option maxHeartbeats 8000000 in
set_option maxRecDepth 100000 in
theorem contangoref08_Find.calls (k : Nat) (A0 : Option Addr) (c0 : Nat) (l0 : List (S94)) (a1 : ByteArray) (r1 : Int) (r2 : Bool) (w : World) (hr0 : Kd.C k94 w A0 l0.length l0) (hc0 : l0.length ≤ c0) (h : contangoref08_Find.f k l0 a1 = some (r1, r2)) :
    Calls Try.prog 61 #[.slice A0 l0.length c0, .string a1] w fun e w' => e = .returned (.tuple #[.int .i64 r1, .bool r2]) ∧ Drawn0 w w' := by
  have HR0 := Aside0.mk hr0
  have HC0 := Aside0.mk hc0
  clear hr0 hc0
  have H : (contangoref08_Find.l0 k l0 a1 0) = some (r1, r2) := h
  clear h
  have H' := Aside0.mk H
  clear H
  go_enter Try.func61, Try.ntmps61
  go_wp2
  go_loopg [6] k (fun kq v6 w' => ∃ (x6_1 : Int), v6 = .int .i64 x6_1 ∧ Aside0 (contangoref08_Find.l0 kq l0 a1 x6_1 = some (r1, r2)) ∧ Aside0 (kq ≤ k) ∧ Drawn0 w w')
  case atStart => exact ⟨(0), (by first | rfl | (simp; done) | (simp [*]; done)), H', ⟨Nat.le_refl _⟩, by repeat (first | exact Drawn0.refl _ | apply Drawn0.step)⟩
  case round =>
    clear H'
    try clear p2
    obtain ⟨x6_1, rfl, HA, HK1, ⟨m1, rfl⟩⟩ := hrel
    cases gk with
    | zero => exact absurd HA.out (by simp [contangoref08_Find.l0])
    | succ k1 =>
      have H := HA.out
      clear HA
      simp only [contangoref08_Find.l0] at H
      by_cases c3 : x6_1 < (l0.length : Int)
      · rw [if_pos c3] at H
        have c3b0 : decide (x6_1 < (l0.length : Int)) = true := decide_eq_true c3
        clear c3
        (try simp only [c3b0])
        by_cases c4 : 0 ≤ x6_1
        · rw [if_pos c4] at H
          have c4b0 : decide (0 ≤ x6_1) = true := decide_eq_true c4
          clear c4
          have p174 : 0 ≤ (x6_1 : Int) := of_decide_eq_true (by first | (with_reducible assumption) | assumption)
          have q174 : x6_1 < (l0.length : Int) := of_decide_eq_true (by first | (with_reducible assumption) | assumption)
          obtain ⟨ad174, e174, hx174_0, hx174_1⟩ := at_T94 HR0.out x6_1 p174 q174
          cases e174
          replace p174 := eq_true p174
          replace q174 := eq_true q174
          go_upto_if 19 with (fail)
          by_cases c5 : ((rd_T94 l0 x6_1).f0).toList = a1.toList
          · rw [if_pos c5] at H
            have c5b0 : (((rd_T94 l0 x6_1).f0).toList == a1.toList) = true := beq_iff_eq.mpr c5
            have c5b1 : (((rd_T94 l0 x6_1).f0).toList != a1.toList) = false := bne_eq_false_iff_eq.mpr c5
            clear c5
            (try simp only [c5b0, c5b1])
            simp only [Option.some.injEq, Prod.mk.injEq] at H
            obtain ⟨rfl, rfl⟩ := H
            go_wp2
            go_ret2
            exact ⟨by first | rfl | (simp; done) | (simp [*]; done), by repeat (first | exact Drawn0.refl _ | apply Drawn0.step)⟩
          · rw [if_neg c5] at H
            have c5b0 : (((rd_T94 l0 x6_1).f0).toList == a1.toList) = false := beq_eq_false_iff_ne.mpr c5
            have c5b1 : (((rd_T94 l0 x6_1).f0).toList != a1.toList) = true := bne_iff_ne.mpr c5
            (try simp only [c5b0, c5b1])
            have H' := Aside0.mk H
            clear H
            go_wp2
            go_roundg k1
            case measure => have := HK1.out; omega
            case rel => exact ⟨(wrap64 (x6_1 + 1)), (by first | rfl | (simp; done) | (simp [*]; done)), H', ⟨by have := HK1.out; omega⟩, by repeat (first | exact Drawn0.refl _ | apply Drawn0.step)⟩
        · rw [if_neg c4] at H
          exact absurd H (by simp)
      · rw [if_neg c3] at H
        have c3b0 : decide (x6_1 < (l0.length : Int)) = false := decide_eq_false c3
        clear c3
        (try simp only [c3b0])
        simp only [Option.some.injEq, Prod.mk.injEq] at H
        obtain ⟨rfl, rfl⟩ := H
        go_wp2
        go_ret2
        exact ⟨by first | rfl | (simp; done) | (simp [*]; done), by repeat (first | exact Drawn0.refl _ | apply Drawn0.step)⟩
mutual
def contangoref08_Check.j0 : Nat → List (S94) → Bool → Option (Int)
  | 0, _, _ => none
  | k + 1, x0, x15 => if x15 = true then (some 8) else (contangoref08_Check.l0 k x0 0)
def contangoref08_Check.l0 : Nat → List (S94) → Int → Option (Int)
  | 0, _, _ => none
  | k + 1, x0, x3 => if x3 < (x0.length : Int) then (if 0 ≤ x3 then ((contangoref03_Name.f k ((rd_T94 x0 x3).f0)).bind fun t176 => (if t176 = true then (contangoref08_Check.l0 k x0 (wrap64 (x3 + 1))) else (some 10))) else (none)) else (contangoref08_Check.l1 k x0 0)
def contangoref08_Check.l1 : Nat → List (S94) → Int → Option (Int)
  | 0, _, _ => none
  | k + 1, x0, x4 => if x4 < (x0.length : Int) then (if 0 ≤ x4 then ((contangoref08_Find.f k x0 ((rd_T94 x0 x4).f0)).bind fun bt178 => (if bt178.1 = x4 then (contangoref08_Check.l1 k x0 (wrap64 (x4 + 1))) else (some 12))) else (none)) else (contangoref08_Check.l2 k x0 0)
def contangoref08_Check.l2 : Nat → List (S94) → Int → Option (Int)
  | 0, _, _ => none
  | k + 1, x0, x7 => if x7 < (x0.length : Int) then (if 0 ≤ x7 then (if ((rd_T94 x0 x7).f1) < 1 then (some 25) else (if ((rd_T94 x0 x7).f1) > 1000000000000 then (some 25) else (if x7 = 0 then (if ((rd_T94 x0 x7).f1) = 1000000 then (contangoref08_Check.l2 k x0 (wrap64 (x7 + 1))) else (some 25)) else (contangoref08_Check.l2 k x0 (wrap64 (x7 + 1)))))) else (none)) else (some 0)
end
def contangoref08_Check.f (k : Nat) (l0 : List (S94)) : Option (Int) := if (l0.length : Int) = 0 then (contangoref08_Check.j0 k l0 true) else (contangoref08_Check.j0 k l0 (decide ((l0.length : Int) > 8)))
theorem contangoref08_Check.mono_l : ∀ k, (∀ y0 y1, LeO (contangoref08_Check.j0 k y0 y1) (contangoref08_Check.j0 (k + 1) y0 y1)) ∧ (∀ y0 y1, LeO (contangoref08_Check.l0 k y0 y1) (contangoref08_Check.l0 (k + 1) y0 y1)) ∧ (∀ y0 y1, LeO (contangoref08_Check.l1 k y0 y1) (contangoref08_Check.l1 (k + 1) y0 y1)) ∧ (∀ y0 y1, LeO (contangoref08_Check.l2 k y0 y1) (contangoref08_Check.l2 (k + 1) y0 y1))
  | 0 => ⟨fun _ _ r h => by simp [contangoref08_Check.j0] at h, fun _ _ r h => by simp [contangoref08_Check.l0] at h, fun _ _ r h => by simp [contangoref08_Check.l1] at h, fun _ _ r h => by simp [contangoref08_Check.l2] at h⟩
  | k + 1 => by
    obtain ⟨ih0, ih1, ih2, ih3⟩ := contangoref08_Check.mono_l k
    refine ⟨?_, ?_, ?_, ?_⟩
    · intro y0 y1
      unfold contangoref08_Check.j0
      repeat' first
      | (with_reducible exact ih0 _ _)
      | (with_reducible exact ih1 _ _)
      | (with_reducible exact ih2 _ _)
      | (with_reducible exact ih3 _ _)
      | (with_reducible exact contangoref03_Name.mono _ _)
      | (with_reducible exact contangoref08_Find.mono _ _ _)
      | (with_reducible exact LeO.refl _)
      | (with_reducible exact LeO.none _)
      | (with_reducible refine LeO.ite ?_ ?_)
      | (with_reducible refine LeO.bind ?_ (fun _ => ?_))
      | exact ih0 _ _
      | exact ih1 _ _
      | exact ih2 _ _
      | exact ih3 _ _
      | exact contangoref03_Name.mono _ _
      | exact contangoref08_Find.mono _ _ _
      | exact LeO.none _
      | refine LeO.ite ?_ ?_
      | refine LeO.bind ?_ (fun _ => ?_)
    · intro y0 y1
      unfold contangoref08_Check.l0
      repeat' first
      | (with_reducible exact ih0 _ _)
      | (with_reducible exact ih1 _ _)
      | (with_reducible exact ih2 _ _)
      | (with_reducible exact ih3 _ _)
      | (with_reducible exact contangoref03_Name.mono _ _)
      | (with_reducible exact contangoref08_Find.mono _ _ _)
      | (with_reducible exact LeO.refl _)
      | (with_reducible exact LeO.none _)
      | (with_reducible refine LeO.ite ?_ ?_)
      | (with_reducible refine LeO.bind ?_ (fun _ => ?_))
      | exact ih0 _ _
      | exact ih1 _ _
      | exact ih2 _ _
      | exact ih3 _ _
      | exact contangoref03_Name.mono _ _
      | exact contangoref08_Find.mono _ _ _
      | exact LeO.none _
      | refine LeO.ite ?_ ?_
      | refine LeO.bind ?_ (fun _ => ?_)
    · intro y0 y1
      unfold contangoref08_Check.l1
      repeat' first
      | (with_reducible exact ih0 _ _)
      | (with_reducible exact ih1 _ _)
      | (with_reducible exact ih2 _ _)
      | (with_reducible exact ih3 _ _)
      | (with_reducible exact contangoref03_Name.mono _ _)
      | (with_reducible exact contangoref08_Find.mono _ _ _)
      | (with_reducible exact LeO.refl _)
      | (with_reducible exact LeO.none _)
      | (with_reducible refine LeO.ite ?_ ?_)
      | (with_reducible refine LeO.bind ?_ (fun _ => ?_))
      | exact ih0 _ _
      | exact ih1 _ _
      | exact ih2 _ _
      | exact ih3 _ _
      | exact contangoref03_Name.mono _ _
      | exact contangoref08_Find.mono _ _ _
      | exact LeO.none _
      | refine LeO.ite ?_ ?_
      | refine LeO.bind ?_ (fun _ => ?_)
    · intro y0 y1
      unfold contangoref08_Check.l2
      repeat' first
      | (with_reducible exact ih0 _ _)
      | (with_reducible exact ih1 _ _)
      | (with_reducible exact ih2 _ _)
      | (with_reducible exact ih3 _ _)
      | (with_reducible exact contangoref03_Name.mono _ _)
      | (with_reducible exact contangoref08_Find.mono _ _ _)
      | (with_reducible exact LeO.refl _)
      | (with_reducible exact LeO.none _)
      | (with_reducible refine LeO.ite ?_ ?_)
      | (with_reducible refine LeO.bind ?_ (fun _ => ?_))
      | exact ih0 _ _
      | exact ih1 _ _
      | exact ih2 _ _
      | exact ih3 _ _
      | exact contangoref03_Name.mono _ _
      | exact contangoref08_Find.mono _ _ _
      | exact LeO.none _
      | refine LeO.ite ?_ ?_
      | refine LeO.bind ?_ (fun _ => ?_)
theorem contangoref08_Check.mono : ∀ a0 k, LeO (contangoref08_Check.f k a0) (contangoref08_Check.f (k + 1) a0) := by
  intro a0 k
  obtain ⟨ih0, ih1, ih2, ih3⟩ := contangoref08_Check.mono_l k
  unfold contangoref08_Check.f
  repeat' first
      | (with_reducible exact ih0 _ _)
      | (with_reducible exact ih1 _ _)
      | (with_reducible exact ih2 _ _)
      | (with_reducible exact ih3 _ _)
      | (with_reducible exact contangoref03_Name.mono _ _)
      | (with_reducible exact contangoref08_Find.mono _ _ _)
      | (with_reducible exact LeO.refl _)
      | (with_reducible exact LeO.none _)
      | (with_reducible refine LeO.ite ?_ ?_)
      | (with_reducible refine LeO.bind ?_ (fun _ => ?_))
      | exact ih0 _ _
      | exact ih1 _ _
      | exact ih2 _ _
      | exact ih3 _ _
      | exact contangoref03_Name.mono _ _
      | exact contangoref08_Find.mono _ _ _
      | exact LeO.none _
      | refine LeO.ite ?_ ?_
      | refine LeO.bind ?_ (fun _ => ?_)
set_option maxHeartbeats 8000000 in
set_option maxRecDepth 100000 in
theorem contangoref08_Check.calls (k : Nat) (A0 : Option Addr) (c0 : Nat) (l0 : List (S94)) (r : Int) (w : World) (hr0 : Kd.C k94 w A0 l0.length l0) (hc0 : l0.length ≤ c0) (h : contangoref08_Check.f k l0 = some r) :
    Calls Try.prog 22 #[.slice A0 l0.length c0] w fun e w' => e = .returned (.int .i64 r) ∧ Drawn0 w w' := by
  have HR0 := Aside0.mk hr0
  have HC0 := Aside0.mk hc0
  clear hr0 hc0
  have H : (if (l0.length : Int) = 0 then (contangoref08_Check.j0 k l0 true) else (contangoref08_Check.j0 k l0 (decide ((l0.length : Int) > 8)))) = some r := h
  clear h
  have HC2 := Aside0.mk H
  clear H
  go_enter Try.func22, Try.ntmps22
  go_upto_region 1 with (fail)
  go_cut [15] (fun v15 wc => ∃ (kq : Nat) (x15_1 : Bool), v15 = .bool x15_1 ∧ Aside0 (contangoref08_Check.j0 kq l0 x15_1 = some r) ∧ Aside0 (kq ≤ k) ∧ Drawn0 w wc)
  case first =>
    have H := HC2.out
    clear HC2
    by_cases c3 : (l0.length : Int) = 0
    · rw [if_pos c3] at H
      have c3b0 : ((l0.length : Int) == 0) = true := beq_iff_eq.mpr c3
      have c3b1 : ((l0.length : Int) != 0) = false := bne_eq_false_iff_eq.mpr c3
      clear c3
      have H' := Aside0.mk H
      clear H
      go_wp2
      go_meet
      case rel => exact ⟨_, (true), (by first | rfl | (simp; done) | (simp [*]; done)), H', ⟨by first | omega | exact Nat.le_refl _⟩, by repeat (first | exact Drawn0.refl _ | apply Drawn0.step)⟩
    · rw [if_neg c3] at H
      have c3b0 : ((l0.length : Int) == 0) = false := beq_eq_false_iff_ne.mpr c3
      have c3b1 : ((l0.length : Int) != 0) = true := bne_iff_ne.mpr c3
      have c3b2 : ¬ (l0 = []) := fun h_ => c3 (by rw [h_]; rfl)
      have H' := Aside0.mk H
      clear H
      go_wp2
      go_meet
      case rel => exact ⟨_, (decide ((l0.length : Int) > 8)), (by first | rfl | (simp; done) | (simp [*]; done)), H', ⟨by first | omega | exact Nat.le_refl _⟩, by repeat (first | exact Drawn0.refl _ | apply Drawn0.step)⟩
  case rest =>
    clear HC2
    try clear c2
    try clear p2
    try clear c3
    try clear c3b0
    try clear c3b1
    try clear c3b2
    obtain ⟨kq, x15_1, rfl, HA, HJ1, ⟨mc1, rfl⟩⟩ := hcut
    cases kq with
    | zero => exact absurd HA.out (by simp [contangoref08_Check.j0])
    | succ kj1 =>
      have H := HA.out
      clear HA
      simp only [contangoref08_Check.j0] at H
      by_cases c4 : x15_1 = true
      · subst c4
        have H1 : (some 8) = some r := by rw [if_pos rfl] at H; exact H
        clear H
        have H := H1
        clear H1
        obtain rfl := Option.some.inj H
        go_wp2
        go_ret
        exact ⟨by first | rfl | (simp; done) | (simp [*]; done), by repeat (first | exact Drawn0.refl _ | apply Drawn0.step)⟩
      · replace c4 := Bool.eq_false_iff.mpr c4
        subst c4
        have H1 : (contangoref08_Check.l0 kj1 l0 0) = some r := by rw [if_neg (show ¬ (false = true) by decide)] at H; exact H
        clear H
        have H := H1
        clear H1
        have H' := Aside0.mk H
        clear H
        go_wp2
        go_loopg [3] kj1 (fun kq v3 w' => ∃ (x3_2 : Int), v3 = .int .i64 x3_2 ∧ Aside0 (contangoref08_Check.l0 kq l0 x3_2 = some r) ∧ Aside0 (kq ≤ kj1) ∧ Drawn0 w w')
        case atStart => exact ⟨(0), (by first | rfl | (simp; done) | (simp [*]; done)), H', ⟨Nat.le_refl _⟩, by repeat (first | exact Drawn0.refl _ | apply Drawn0.step)⟩
        case round =>
          clear H'
          try clear c1
          try clear c2
          try clear p2
          try clear c3
          try clear c3b0
          try clear c3b1
          try clear c3b2
          try clear c4
          try clear p2
          obtain ⟨x3_2, rfl, HA, HK2, ⟨m2, rfl⟩⟩ := hrel
          cases gk with
          | zero => exact absurd HA.out (by simp [contangoref08_Check.l0])
          | succ k2 =>
            have H := HA.out
            clear HA
            simp only [contangoref08_Check.l0] at H
            by_cases c5 : x3_2 < (l0.length : Int)
            · rw [if_pos c5] at H
              have c5b0 : decide (x3_2 < (l0.length : Int)) = true := decide_eq_true c5
              clear c5
              (try simp only [c5b0])
              by_cases c6 : 0 ≤ x3_2
              · rw [if_pos c6] at H
                have c6b0 : decide (0 ≤ x3_2) = true := decide_eq_true c6
                clear c6
                replace H := Option.bind_eq_some_iff.mp H
                obtain ⟨t176, A70, H⟩ := H
                replace H : (if t176 = true then (contangoref08_Check.l0 k2 l0 (wrap64 (x3_2 + 1))) else (some 10)) = some r := H
                have A7 := Aside0.mk A70
                clear A70
                have p175 : 0 ≤ (x3_2 : Int) := of_decide_eq_true (by first | (with_reducible assumption) | assumption)
                have q175 : x3_2 < (l0.length : Int) := of_decide_eq_true (by first | (with_reducible assumption) | assumption)
                obtain ⟨ad175, e175, hx175_0, hx175_1⟩ := at_T94 HR0.out x3_2 p175 q175
                cases e175
                replace p175 := eq_true p175
                replace q175 := eq_true q175
                go_upto_if 28 with (first | ((with_reducible refine gate_callee (f := 60) rfl ?_); refine goesL_ (some 27) rfl rfl Try.func60 (by kernel_rfl) rfl #[.string ((rd_T94 l0 x3_2).f0)] rfl (by (try simp only [List.map_toArray, List.map_cons, List.map_nil]); first | done | rfl | (simp only [List.length_drop, List.length_take]; rfl)) ?_; (with_reducible refine (contangoref03_Name.calls k2 ((rd_T94 l0 x3_2).f0) t176 _ A7.out).mono ?_); rintro e w' ⟨rfl, ⟨nd, rfl⟩⟩; refine ⟨_, rfl, ?_⟩))
                (try simp only [Act.put, List.setIfInBounds_toArray, List.set_cons_zero, List.set_cons_succ])
                by_cases c8 : t176 = true
                · subst c8
                  have H1 : (contangoref08_Check.l0 k2 l0 (wrap64 (x3_2 + 1))) = some r := by rw [if_pos rfl] at H; exact H
                  clear H
                  have H := H1
                  clear H1
                  have H' := Aside0.mk H
                  clear H
                  go_wp2
                  go_roundg k2
                  case measure => have := HJ1.out; have := HK2.out; omega
                  case rel => exact ⟨(wrap64 (x3_2 + 1)), (by first | rfl | (simp; done) | (simp [*]; done)), H', ⟨by have := HJ1.out; have := HK2.out; omega⟩, by repeat (first | exact Drawn0.refl _ | apply Drawn0.step)⟩
                · replace c8 := Bool.eq_false_iff.mpr c8
                  subst c8
                  have H1 : (some 10) = some r := by rw [if_neg (show ¬ (false = true) by decide)] at H; exact H
                  clear H
                  have H := H1
                  clear H1
                  obtain rfl := Option.some.inj H
                  go_wp2
                  go_ret
                  exact ⟨by first | rfl | (simp; done) | (simp [*]; done), by repeat (first | exact Drawn0.refl _ | apply Drawn0.step)⟩
              · rw [if_neg c6] at H
                exact absurd H (by simp)
            · rw [if_neg c5] at H
              have c5b0 : decide (x3_2 < (l0.length : Int)) = false := decide_eq_false c5
              clear c5
              (try simp only [c5b0])
              have H' := Aside0.mk H
              clear H
              go_wp2
              go_loopg [4] k2 (fun kq v4 w' => ∃ (x4_3 : Int), v4 = .int .i64 x4_3 ∧ Aside0 (contangoref08_Check.l1 kq l0 x4_3 = some r) ∧ Aside0 (kq ≤ k2) ∧ Drawn0 w w')
              case atStart => exact ⟨(0), (by first | rfl | (simp; done) | (simp [*]; done)), H', ⟨Nat.le_refl _⟩, by repeat (first | exact Drawn0.refl _ | apply Drawn0.step)⟩
              case round =>
                clear H'
                try clear c1
                try clear p1
                try clear q1
                try clear hx1
                try clear c2
                try clear p2
                try clear c3
                try clear c3b0
                try clear c3b1
                try clear c3b2
                try clear c4
                try clear c5
                try clear c5b0
                try clear c6
                try clear c6b0
                try clear p6
                try clear c8
                try clear hx175_0
                try clear hx175_1
                try clear p175
                try clear p2
                try clear q175
                obtain ⟨x4_3, rfl, HA, HK3, ⟨m3, rfl⟩⟩ := hrel
                cases gk with
                | zero => exact absurd HA.out (by simp [contangoref08_Check.l1])
                | succ k3 =>
                  have H := HA.out
                  clear HA
                  simp only [contangoref08_Check.l1] at H
                  by_cases c9 : x4_3 < (l0.length : Int)
                  · rw [if_pos c9] at H
                    have c9b0 : decide (x4_3 < (l0.length : Int)) = true := decide_eq_true c9
                    clear c9
                    (try simp only [c9b0])
                    by_cases c10 : 0 ≤ x4_3
                    · rw [if_pos c10] at H
                      have c10b0 : decide (0 ≤ x4_3) = true := decide_eq_true c10
                      clear c10
                      replace H := Option.bind_eq_some_iff.mp H
                      obtain ⟨⟨t178, t179⟩, A110, H⟩ := H
                      replace H : (if t178 = x4_3 then (contangoref08_Check.l1 k3 l0 (wrap64 (x4_3 + 1))) else (some 12)) = some r := H
                      have A11 := Aside0.mk A110
                      clear A110
                      have p177 : 0 ≤ (x4_3 : Int) := of_decide_eq_true (by first | (with_reducible assumption) | assumption)
                      have q177 : x4_3 < (l0.length : Int) := of_decide_eq_true (by first | (with_reducible assumption) | assumption)
                      obtain ⟨ad177, e177, hx177_0, hx177_1⟩ := at_T94 HR0.out x4_3 p177 q177
                      cases e177
                      replace p177 := eq_true p177
                      replace q177 := eq_true q177
                      go_upto_if 47 with (first | ((with_reducible refine gate_callee (f := 61) rfl ?_); refine goesL_ (some 42) rfl rfl Try.func61 (by kernel_rfl) rfl #[.slice (some ad177) l0.length c0, .string ((rd_T94 l0 x4_3).f0)] rfl (by (try simp only [List.map_toArray, List.map_cons, List.map_nil]); first | done | rfl | (simp only [List.length_drop, List.length_take]; rfl)) ?_; (with_reducible refine (contangoref08_Find.calls k3 _ _ l0 ((rd_T94 l0 x4_3).f0) t178 t179 _ ?side1 ?side2 A11.out).mono ?_); (case side1 => repeat (first | exact HR0.out | (with_reducible refine Kd.C_alloc ?_ _) | (with_reducible refine Kd.C_drewN ?_ _) | (with_reducible refine Kd.C_drew ?_))); (case side2 => exact HC0.out); rintro e w' ⟨rfl, ⟨nd, rfl⟩⟩; refine ⟨_, rfl, ?_⟩))
                      (try simp only [Act.put, List.setIfInBounds_toArray, List.set_cons_zero, List.set_cons_succ])
                      by_cases c12 : t178 = x4_3
                      · rw [if_pos c12] at H
                        have c12b0 : (t178 == x4_3) = true := beq_iff_eq.mpr c12
                        have c12b1 : (t178 != x4_3) = false := bne_eq_false_iff_eq.mpr c12
                        clear c12
                        (try simp only [c12b0, c12b1])
                        have H' := Aside0.mk H
                        clear H
                        go_wp2
                        go_roundg k3
                        case measure => have := HJ1.out; have := HK2.out; have := HK3.out; omega
                        case rel => exact ⟨(wrap64 (x4_3 + 1)), (by first | rfl | (simp; done) | (simp [*]; done)), H', ⟨by have := HJ1.out; have := HK2.out; have := HK3.out; omega⟩, by repeat (first | exact Drawn0.refl _ | apply Drawn0.step)⟩
                      · rw [if_neg c12] at H
                        have c12b0 : (t178 == x4_3) = false := beq_eq_false_iff_ne.mpr c12
                        have c12b1 : (t178 != x4_3) = true := bne_iff_ne.mpr c12
                        (try simp only [c12b0, c12b1])
                        obtain rfl := Option.some.inj H
                        go_wp2
                        go_ret
                        exact ⟨by first | rfl | (simp; done) | (simp [*]; done), by repeat (first | exact Drawn0.refl _ | apply Drawn0.step)⟩
                    · rw [if_neg c10] at H
                      exact absurd H (by simp)
                  · rw [if_neg c9] at H
                    have c9b0 : decide (x4_3 < (l0.length : Int)) = false := decide_eq_false c9
                    clear c9
                    (try simp only [c9b0])
                    have H' := Aside0.mk H
                    clear H
                    go_wp2
                    go_loopg [7] k3 (fun kq v7 w' => ∃ (x7_4 : Int), v7 = .int .i64 x7_4 ∧ Aside0 (contangoref08_Check.l2 kq l0 x7_4 = some r) ∧ Aside0 (kq ≤ k3) ∧ Drawn0 w w')
                    case atStart => exact ⟨(0), (by first | rfl | (simp; done) | (simp [*]; done)), H', ⟨Nat.le_refl _⟩, by repeat (first | exact Drawn0.refl _ | apply Drawn0.step)⟩
                    case round =>
                      clear H'
                      try clear c1
                      try clear p1
                      try clear q1
                      try clear hx1
                      try clear c2
                      try clear p2
                      try clear c3
                      try clear c3b0
                      try clear c3b1
                      try clear c3b2
                      try clear c4
                      try clear c5
                      try clear c5b0
                      try clear c6
                      try clear c6b0
                      try clear p6
                      try clear c8
                      try clear c9
                      try clear c9b0
                      try clear c10
                      try clear c10b0
                      try clear c12
                      try clear c12b0
                      try clear c12b1
                      try clear hx175_0
                      try clear hx175_1
                      try clear hx177_0
                      try clear hx177_1
                      try clear p1
                      try clear p175
                      try clear p177
                      try clear p2
                      try clear p6
                      try clear q1
                      try clear q175
                      try clear q177
                      obtain ⟨x7_4, rfl, HA, HK4, ⟨m4, rfl⟩⟩ := hrel
                      cases gk with
                      | zero => exact absurd HA.out (by simp [contangoref08_Check.l2])
                      | succ k4 =>
                        have H := HA.out
                        clear HA
                        simp only [contangoref08_Check.l2] at H
                        by_cases c13 : x7_4 < (l0.length : Int)
                        · rw [if_pos c13] at H
                          have c13b0 : decide (x7_4 < (l0.length : Int)) = true := decide_eq_true c13
                          clear c13
                          (try simp only [c13b0])
                          by_cases c14 : 0 ≤ x7_4
                          · rw [if_pos c14] at H
                            have c14b0 : decide (0 ≤ x7_4) = true := decide_eq_true c14
                            clear c14
                            by_cases c15 : ((rd_T94 l0 x7_4).f1) < 1
                            · rw [if_pos c15] at H
                              have c15b0 : decide (((rd_T94 l0 x7_4).f1) < 1) = true := decide_eq_true c15
                              clear c15
                              obtain rfl := Option.some.inj H
                              have p180 : 0 ≤ (x7_4 : Int) := of_decide_eq_true (by first | (with_reducible assumption) | assumption)
                              have q180 : x7_4 < (l0.length : Int) := of_decide_eq_true (by first | (with_reducible assumption) | assumption)
                              obtain ⟨ad180, e180, hx180_0, hx180_1⟩ := at_T94 HR0.out x7_4 p180 q180
                              cases e180
                              replace p180 := eq_true p180
                              replace q180 := eq_true q180
                              go_wp2
                              go_ret
                              exact ⟨by first | rfl | (simp; done) | (simp [*]; done), by repeat (first | exact Drawn0.refl _ | apply Drawn0.step)⟩
                            · rw [if_neg c15] at H
                              have c15b0 : decide (((rd_T94 l0 x7_4).f1) < 1) = false := decide_eq_false c15
                              clear c15
                              by_cases c16 : ((rd_T94 l0 x7_4).f1) > 1000000000000
                              · rw [if_pos c16] at H
                                have c16b0 : decide (1000000000000 < ((rd_T94 l0 x7_4).f1)) = true := decide_eq_true c16
                                clear c16
                                obtain rfl := Option.some.inj H
                                have p180 : 0 ≤ (x7_4 : Int) := of_decide_eq_true (by first | (with_reducible assumption) | assumption)
                                have q180 : x7_4 < (l0.length : Int) := of_decide_eq_true (by first | (with_reducible assumption) | assumption)
                                obtain ⟨ad180, e180, hx180_0, hx180_1⟩ := at_T94 HR0.out x7_4 p180 q180
                                cases e180
                                replace p180 := eq_true p180
                                replace q180 := eq_true q180
                                have p181 : 0 ≤ (x7_4 : Int) := of_decide_eq_true (by first | (with_reducible assumption) | assumption)
                                have q181 : x7_4 < (l0.length : Int) := of_decide_eq_true (by first | (with_reducible assumption) | assumption)
                                obtain ⟨ad181, e181, hx181_0, hx181_1⟩ := at_T94 HR0.out x7_4 p181 q181
                                obtain rfl : ad180 = ad181 := (by injection e181)
                                replace p181 := eq_true p181
                                replace q181 := eq_true q181
                                go_wp2
                                go_ret
                                exact ⟨by first | rfl | (simp; done) | (simp [*]; done), by repeat (first | exact Drawn0.refl _ | apply Drawn0.step)⟩
                              · rw [if_neg c16] at H
                                have c16b0 : decide (1000000000000 < ((rd_T94 l0 x7_4).f1)) = false := decide_eq_false c16
                                clear c16
                                by_cases c17 : x7_4 = 0
                                · rw [if_pos c17] at H
                                  have c17b0 : (x7_4 == 0) = true := beq_iff_eq.mpr c17
                                  have c17b1 : (x7_4 != 0) = false := bne_eq_false_iff_eq.mpr c17
                                  clear c17
                                  have p180 : 0 ≤ (x7_4 : Int) := of_decide_eq_true (by first | (with_reducible assumption) | assumption)
                                  have q180 : x7_4 < (l0.length : Int) := of_decide_eq_true (by first | (with_reducible assumption) | assumption)
                                  obtain ⟨ad180, e180, hx180_0, hx180_1⟩ := at_T94 HR0.out x7_4 p180 q180
                                  cases e180
                                  replace p180 := eq_true p180
                                  replace q180 := eq_true q180
                                  have p181 : 0 ≤ (x7_4 : Int) := of_decide_eq_true (by first | (with_reducible assumption) | assumption)
                                  have q181 : x7_4 < (l0.length : Int) := of_decide_eq_true (by first | (with_reducible assumption) | assumption)
                                  obtain ⟨ad181, e181, hx181_0, hx181_1⟩ := at_T94 HR0.out x7_4 p181 q181
                                  obtain rfl : ad180 = ad181 := (by injection e181)
                                  replace p181 := eq_true p181
                                  replace q181 := eq_true q181
                                  have p182 : 0 ≤ (x7_4 : Int) := of_decide_eq_true (by first | (with_reducible assumption) | assumption)
                                  have q182 : x7_4 < (l0.length : Int) := of_decide_eq_true (by first | (with_reducible assumption) | assumption)
                                  obtain ⟨ad182, e182, hx182_0, hx182_1⟩ := at_T94 HR0.out x7_4 p182 q182
                                  obtain rfl : ad180 = ad182 := (by injection e182)
                                  replace p182 := eq_true p182
                                  replace q182 := eq_true q182
                                  go_upto_if 79 with (fail)
                                  by_cases c18 : ((rd_T94 l0 x7_4).f1) = 1000000
                                  · rw [if_pos c18] at H
                                    have c18b0 : (((rd_T94 l0 x7_4).f1) == 1000000) = true := beq_iff_eq.mpr c18
                                    have c18b1 : (((rd_T94 l0 x7_4).f1) != 1000000) = false := bne_eq_false_iff_eq.mpr c18
                                    clear c18
                                    (try simp only [c18b0, c18b1])
                                    have H' := Aside0.mk H
                                    clear H
                                    go_wp2
                                    go_roundg k4
                                    case measure => have := HJ1.out; have := HK2.out; have := HK3.out; have := HK4.out; omega
                                    case rel => exact ⟨(wrap64 (x7_4 + 1)), (by first | rfl | (simp; done) | (simp [*]; done)), H', ⟨by have := HJ1.out; have := HK2.out; have := HK3.out; have := HK4.out; omega⟩, by repeat (first | exact Drawn0.refl _ | apply Drawn0.step)⟩
                                  · rw [if_neg c18] at H
                                    have c18b0 : (((rd_T94 l0 x7_4).f1) == 1000000) = false := beq_eq_false_iff_ne.mpr c18
                                    have c18b1 : (((rd_T94 l0 x7_4).f1) != 1000000) = true := bne_iff_ne.mpr c18
                                    (try simp only [c18b0, c18b1])
                                    obtain rfl := Option.some.inj H
                                    go_wp2
                                    go_ret
                                    exact ⟨by first | rfl | (simp; done) | (simp [*]; done), by repeat (first | exact Drawn0.refl _ | apply Drawn0.step)⟩
                                · rw [if_neg c17] at H
                                  have c17b0 : (x7_4 == 0) = false := beq_eq_false_iff_ne.mpr c17
                                  have c17b1 : (x7_4 != 0) = true := bne_iff_ne.mpr c17
                                  have H' := Aside0.mk H
                                  clear H
                                  have p180 : 0 ≤ (x7_4 : Int) := of_decide_eq_true (by first | (with_reducible assumption) | assumption)
                                  have q180 : x7_4 < (l0.length : Int) := of_decide_eq_true (by first | (with_reducible assumption) | assumption)
                                  obtain ⟨ad180, e180, hx180_0, hx180_1⟩ := at_T94 HR0.out x7_4 p180 q180
                                  cases e180
                                  replace p180 := eq_true p180
                                  replace q180 := eq_true q180
                                  have p181 : 0 ≤ (x7_4 : Int) := of_decide_eq_true (by first | (with_reducible assumption) | assumption)
                                  have q181 : x7_4 < (l0.length : Int) := of_decide_eq_true (by first | (with_reducible assumption) | assumption)
                                  obtain ⟨ad181, e181, hx181_0, hx181_1⟩ := at_T94 HR0.out x7_4 p181 q181
                                  obtain rfl : ad180 = ad181 := (by injection e181)
                                  replace p181 := eq_true p181
                                  replace q181 := eq_true q181
                                  go_wp2
                                  go_roundg k4
                                  case measure => have := HJ1.out; have := HK2.out; have := HK3.out; have := HK4.out; omega
                                  case rel => exact ⟨(wrap64 (x7_4 + 1)), (by first | rfl | (simp; done) | (simp [*]; done)), H', ⟨by have := HJ1.out; have := HK2.out; have := HK3.out; have := HK4.out; omega⟩, by repeat (first | exact Drawn0.refl _ | apply Drawn0.step)⟩
                          · rw [if_neg c14] at H
                            exact absurd H (by simp)
                        · rw [if_neg c13] at H
                          have c13b0 : decide (x7_4 < (l0.length : Int)) = false := decide_eq_false c13
                          clear c13
                          (try simp only [c13b0])
                          obtain rfl := Option.some.inj H
                          go_wp2
                          go_ret
                          exact ⟨by first | rfl | (simp; done) | (simp [*]; done), by repeat (first | exact Drawn0.refl _ | apply Drawn0.step)⟩
def contangoref08_Convert.f (k : Nat) (l0 : List (S94)) (a1 : Int) (a2 : Int) (a3 : Int) (a4 : Int) : Option (Int × Int) := (contangoref08_Check.f k l0).bind fun t183 => (if t183 = 0 then (if a2 < 0 then (some (0, 25)) else (if a3 < 0 then (some (0, 25)) else (if a2 ≥ (l0.length : Int) then (some (0, 25)) else (if a3 ≥ (l0.length : Int) then (some (0, 25)) else (if 0 ≤ a2 then (if a2 < (l0.length : Int) then (if 0 ≤ a3 then (if a3 < (l0.length : Int) then ((contangoref01_MulDiv.f a1 ((rd_T94 l0 a2).f1) ((rd_T94 l0 a3).f1) a4).bind fun bt186 => (some (bt186.1, bt186.2))) else (none)) else (none)) else (none)) else (none)))))) else (some (0, t183)))
theorem contangoref08_Convert.mono : ∀ a0 a1 a2 a3 a4 k, LeO (contangoref08_Convert.f k a0 a1 a2 a3 a4) (contangoref08_Convert.f (k + 1) a0 a1 a2 a3 a4) := by
  intro a0 a1 a2 a3 a4 k
  unfold contangoref08_Convert.f
  repeat' first
      | (with_reducible exact contangoref08_Check.mono _ _)
      | (with_reducible exact LeO.refl _)
      | (with_reducible exact LeO.none _)
      | (with_reducible refine LeO.ite ?_ ?_)
      | (with_reducible refine LeO.bind ?_ (fun _ => ?_))
      | exact contangoref08_Check.mono _ _
      | exact LeO.none _
      | refine LeO.ite ?_ ?_
      | refine LeO.bind ?_ (fun _ => ?_)
def contangoref08_Convert.T6 : Bool × List (List Nat × List Nat) := (true, [([], []), ([], []), ([], []), ([1, 2], [1, 2]), ([3], [3]), ([4], [4]), ([], []), ([], []), ([6, 7], [6, 7]), ([8], [8]), ([9], [9]), ([], []), ([0, 5, 10, 11], [0, 5, 10, 11]), ([12], [12]), ([12], [12]), ([13, 12, 0, 1, 2, 3, 4, 5, 6, 7, 8, 9, 10, 11, 12, 13, 14], [13]), ([14, 15, 0, 1, 2, 3, 4, 5, 6, 7, 8, 9, 10, 11, 12, 13, 14, 15], [14])])
def contangoref08_Convert.B6 : List Nat := [0, 0, 0, 6, 14, 30, 0, 0, 192, 448, 960, 0, 4095, 8191, 8191, 32767, 65535]
theorem contangoref08_Convert.tab6 : rtab .any (opsOf Try.f95 6) = contangoref08_Convert.T6 := by kernel_rfl
theorem contangoref08_Convert.bits6 : waitsOk contangoref08_Convert.T6.2 contangoref08_Convert.B6 = true := by kernel_rfl
set_option maxHeartbeats 8000000 in
set_option maxRecDepth 100000 in
theorem contangoref08_Convert.calls (k : Nat) (A0 : Option Addr) (c0 : Nat) (l0 : List (S94)) (a1 : Int) (a2 : Int) (a3 : Int) (a4 : Int) (r1 : Int) (r2 : Int) (w : World) (hr0 : Kd.C k94 w A0 l0.length l0) (hc0 : l0.length ≤ c0) (h : contangoref08_Convert.f k l0 a1 a2 a3 a4 = some (r1, r2)) :
    Calls Try.prog 95 #[.slice A0 l0.length c0, .int .i64 a1, .int .i64 a2, .int .i64 a3, .int .i64 a4] w fun e w' => e = .returned (.tuple #[.int .i64 r1, .int .i64 r2]) ∧ Below w.heap.size w w' := by
  have HR0 := Aside0.mk hr0
  have HC0 := Aside0.mk hc0
  clear hr0 hc0
  have HB := Aside0.mk (Below.refl w.heap.size w)
  have H : ((contangoref08_Check.f k l0).bind fun t183 => (if t183 = 0 then (if a2 < 0 then (some (0, 25)) else (if a3 < 0 then (some (0, 25)) else (if a2 ≥ (l0.length : Int) then (some (0, 25)) else (if a3 ≥ (l0.length : Int) then (some (0, 25)) else (if 0 ≤ a2 then (if a2 < (l0.length : Int) then (if 0 ≤ a3 then (if a3 < (l0.length : Int) then ((contangoref01_MulDiv.f a1 ((rd_T94 l0 a2).f1) ((rd_T94 l0 a3).f1) a4).bind fun bt186 => (some (bt186.1, bt186.2))) else (none)) else (none)) else (none)) else (none)))))) else (some (0, t183)))) = some (r1, r2) := h
  clear h
  replace H := Option.bind_eq_some_iff.mp H
  obtain ⟨t183, A60, H⟩ := H
  replace H : (if t183 = 0 then (if a2 < 0 then (some (0, 25)) else (if a3 < 0 then (some (0, 25)) else (if a2 ≥ (l0.length : Int) then (some (0, 25)) else (if a3 ≥ (l0.length : Int) then (some (0, 25)) else (if 0 ≤ a2 then (if a2 < (l0.length : Int) then (if 0 ≤ a3 then (if a3 < (l0.length : Int) then ((contangoref01_MulDiv.f a1 ((rd_T94 l0 a2).f1) ((rd_T94 l0 a3).f1) a4).bind fun bt186 => (some (bt186.1, bt186.2))) else (none)) else (none)) else (none)) else (none)))))) else (some (0, t183))) = some (r1, r2) := H
  have A6 := Aside0.mk A60
  clear A60
  go_enter Try.func95, Try.ntmps95
  go_upto_if 16 with (first | ((with_reducible refine gate_callee (f := 22) rfl ?_); refine goesL_ (some 14) rfl rfl Try.func22 (by kernel_rfl) rfl #[.slice A0 l0.length c0] rfl (by (try simp only [List.map_toArray, List.map_cons, List.map_nil]); first | done | rfl | (simp only [List.length_drop, List.length_take]; rfl)) ?_; (with_reducible refine (contangoref08_Check.calls k _ _ l0 t183 _ ?side1 ?side2 A6.out).mono ?_); (case side1 => repeat (first | exact HR0.out | (with_reducible refine Kd.C_alloc ?_ _) | (with_reducible refine Kd.C_drewN ?_ _) | (with_reducible refine Kd.C_drew ?_))); (case side2 => exact HC0.out); rintro e w' ⟨rfl, ⟨nd, rfl⟩⟩; refine ⟨_, rfl, ?_⟩))
  (try simp only [Act.put, List.setIfInBounds_toArray, List.set_cons_zero, List.set_cons_succ])
  by_cases c7 : t183 = 0
  · rw [if_pos c7] at H
    have c7b0 : (t183 == 0) = true := beq_iff_eq.mpr c7
    have c7b1 : (t183 != 0) = false := bne_eq_false_iff_eq.mpr c7
    clear c7
    (try simp only [c7b0, c7b1])
    by_cases c8 : a2 < 0
    · rw [if_pos c8] at H
      have c8b0 : decide (a2 < 0) = true := decide_eq_true c8
      clear c8
      simp only [Option.some.injEq, Prod.mk.injEq] at H
      obtain ⟨rfl, rfl⟩ := H
      go_wp2
      go_ret2
      exact ⟨by first | rfl | (simp [errW_none, errW_some] <;> rfl) | (simp [*, errW_none, errW_some] <;> rfl), by repeat (first | (with_reducible first | exact HB.out | apply below_alloc | apply pw_below_drewN | apply below_drew1 | exact Below.refl _ _) | exact HB.out)⟩
    · rw [if_neg c8] at H
      have c8b0 : decide (a2 < 0) = false := decide_eq_false c8
      clear c8
      by_cases c9 : a3 < 0
      · rw [if_pos c9] at H
        have c9b0 : decide (a3 < 0) = true := decide_eq_true c9
        clear c9
        simp only [Option.some.injEq, Prod.mk.injEq] at H
        obtain ⟨rfl, rfl⟩ := H
        go_wp2
        go_ret2
        exact ⟨by first | rfl | (simp [errW_none, errW_some] <;> rfl) | (simp [*, errW_none, errW_some] <;> rfl), by repeat (first | (with_reducible first | exact HB.out | apply below_alloc | apply pw_below_drewN | apply below_drew1 | exact Below.refl _ _) | exact HB.out)⟩
      · rw [if_neg c9] at H
        have c9b0 : decide (a3 < 0) = false := decide_eq_false c9
        clear c9
        by_cases c10 : a2 ≥ (l0.length : Int)
        · rw [if_pos c10] at H
          have c10b0 : decide ((l0.length : Int) ≤ a2) = true := decide_eq_true c10
          clear c10
          simp only [Option.some.injEq, Prod.mk.injEq] at H
          obtain ⟨rfl, rfl⟩ := H
          go_wp2
          go_ret2
          exact ⟨by first | rfl | (simp [errW_none, errW_some] <;> rfl) | (simp [*, errW_none, errW_some] <;> rfl), by repeat (first | (with_reducible first | exact HB.out | apply below_alloc | apply pw_below_drewN | apply below_drew1 | exact Below.refl _ _) | exact HB.out)⟩
        · rw [if_neg c10] at H
          have c10b0 : decide ((l0.length : Int) ≤ a2) = false := decide_eq_false c10
          clear c10
          by_cases c11 : a3 ≥ (l0.length : Int)
          · rw [if_pos c11] at H
            have c11b0 : decide ((l0.length : Int) ≤ a3) = true := decide_eq_true c11
            clear c11
            (try simp only [c11b0])
            simp only [Option.some.injEq, Prod.mk.injEq] at H
            obtain ⟨rfl, rfl⟩ := H
            go_wp2
            go_ret2
            exact ⟨by first | rfl | (simp [errW_none, errW_some] <;> rfl) | (simp [*, errW_none, errW_some] <;> rfl), by repeat (first | (with_reducible first | exact HB.out | apply below_alloc | apply pw_below_drewN | apply below_drew1 | exact Below.refl _ _) | exact HB.out)⟩
          · rw [if_neg c11] at H
            have c11b0 : decide ((l0.length : Int) ≤ a3) = false := decide_eq_false c11
            clear c11
            (try simp only [c11b0])
            by_cases c12 : 0 ≤ a2
            · rw [if_pos c12] at H
              have c12b0 : decide (0 ≤ a2) = true := decide_eq_true c12
              clear c12
              by_cases c13 : a2 < (l0.length : Int)
              · rw [if_pos c13] at H
                have c13b0 : decide (a2 < (l0.length : Int)) = true := decide_eq_true c13
                clear c13
                by_cases c14 : 0 ≤ a3
                · rw [if_pos c14] at H
                  have c14b0 : decide (0 ≤ a3) = true := decide_eq_true c14
                  clear c14
                  by_cases c15 : a3 < (l0.length : Int)
                  · rw [if_pos c15] at H
                    have c15b0 : decide (a3 < (l0.length : Int)) = true := decide_eq_true c15
                    clear c15
                    replace H := Option.bind_eq_some_iff.mp H
                    obtain ⟨⟨t186, t187⟩, A160, H⟩ := H
                    replace H : (some (t186, t187)) = some (r1, r2) := H
                    have A16 := Aside0.mk A160
                    clear A160
                    simp only [Option.some.injEq, Prod.mk.injEq] at H
                    obtain ⟨rfl, rfl⟩ := H
                    try go_wp2
                    have n0_ := Aside0.mk (below_drew1 HB.out)
                    clear HB
                    have HB := n0_
                    clear n0_
                    have p184 : 0 ≤ (a2 : Int) := of_decide_eq_true (by first | (with_reducible assumption) | assumption)
                    have q184 : a2 < (l0.length : Int) := of_decide_eq_true (by first | (with_reducible assumption) | assumption)
                    obtain ⟨ad184, e184, hx184_0, hx184_1⟩ := at_T94 HR0.out a2 p184 q184
                    have hw184_1 := hx184_1
                    have hw184_0 := hx184_0
                    cases e184
                    replace hx184_0 := (HB.out.cell (World.block_lt_of_cell? w _ hx184_0)).trans hx184_0
                    replace hx184_1 := (HB.out.cell (World.block_lt_of_cell? w _ hx184_1)).trans hx184_1
                    replace p184 := eq_true p184
                    replace q184 := eq_true q184
                    have p185 : 0 ≤ (a3 : Int) := of_decide_eq_true (by first | (with_reducible assumption) | assumption)
                    have q185 : a3 < (l0.length : Int) := of_decide_eq_true (by first | (with_reducible assumption) | assumption)
                    obtain ⟨ad185, e185, hx185_0, hx185_1⟩ := at_T94 HR0.out a3 p185 q185
                    have hw185_1 := hx185_1
                    have hw185_0 := hx185_0
                    obtain rfl : ad184 = ad185 := (by injection e185)
                    replace hx185_0 := (HB.out.cell (World.block_lt_of_cell? w _ hx185_0)).trans hx185_0
                    replace hx185_1 := (HB.out.cell (World.block_lt_of_cell? w _ hx185_1)).trans hx185_1
                    replace p185 := eq_true p185
                    replace q185 := eq_true q185
                    refine start_ (n := 17) (S := fun w' => w'.cell? (ad184.add ((a2).toNat * 2)) = some (.string ((rd_T94 l0 a2).f0)) ∧ w'.cell? ⟨(ad184.add ((a2).toNat * 2)).block, (ad184.add ((a2).toNat * 2)).off + 1, none⟩ = some (.int .i64 ((rd_T94 l0 a2).f1)) ∧ w'.cell? (ad184.add ((a3).toNat * 2)) = some (.string ((rd_T94 l0 a3).f0)) ∧ w'.cell? ⟨(ad184.add ((a3).toNat * 2)).block, (ad184.add ((a3).toNat * 2)).off + 1, none⟩ = some (.int .i64 ((rd_T94 l0 a3).f1))) (ds := []) #[false, false, false, false, false, false, false, false, false, false, false, false, false, false, false, false, false] (by kernel_rfl) rfl rfl ⟨((HB.out.cell (World.block_lt_of_cell? w _ hw184_0)).trans hw184_0), ((HB.out.cell (World.block_lt_of_cell? w _ hw184_1)).trans hw184_1), ((HB.out.cell (World.block_lt_of_cell? w _ hw185_0)).trans hw185_0), ((HB.out.cell (World.block_lt_of_cell? w _ hw185_1)).trans hw185_1)⟩ (fun hHeld => ?_); refine with_tabW contangoref08_Convert.tab6 contangoref08_Convert.bits6 (fun HT_ HW_ => ?_)
                    generalize w.drew = w17 at HB hx184_0 hx184_1 hx185_0 hx185_1 hHeld ⊢
                    refine pure_ (i := 0) (N := some 36) (v := ?_) (a' := ?_) #[true, false, false, false, false, false, false, false, false, false, false, false, false, false, false, false, false] rfl rfl (any_of HT_.out (by kernel_rfl)) (fun _ _ _ h => h) (Or.inl ⟨by rfl, ?_⟩) ?_ ?_
                    rotate_left
                    · intro w'
                      go_simp
                      with_reducible rfl
                    rotate_left
                    · simp only [Act.put, List.setIfInBounds_toArray, List.set_cons_zero, List.set_cons_succ, i64_w, i32_w]
                      rfl
                    refine pure_ (i := 1) (N := some 37) (v := ?_) (a' := ?_) #[true, true, false, false, false, false, false, false, false, false, false, false, false, false, false, false, false] rfl rfl (any_of HT_.out (by kernel_rfl)) (fun _ _ _ h => h) (Or.inl ⟨by rfl, ?_⟩) ?_ ?_
                    rotate_left
                    · intro w'
                      go_simp
                      with_reducible rfl
                    rotate_left
                    · simp only [Act.put, List.setIfInBounds_toArray, List.set_cons_zero, List.set_cons_succ, i64_w, i32_w]
                      rfl
                    refine pure_ (i := 2) (N := some 38) (v := ?_) (a' := ?_) #[true, true, true, false, false, false, false, false, false, false, false, false, false, false, false, false, false] rfl rfl (any_of HT_.out (by kernel_rfl)) (fun _ _ _ h => h) (Or.inl ⟨by rfl, ?_⟩) ?_ ?_
                    rotate_left
                    · intro w'
                      go_simp
                      with_reducible rfl
                    rotate_left
                    · simp only [Act.put, List.setIfInBounds_toArray, List.set_cons_zero, List.set_cons_succ, i64_w, i32_w]
                      rfl
                    refine pure_ (i := 3) (N := some 39) (v := ?_) (a' := ?_) #[true, true, true, true, false, false, false, false, false, false, false, false, false, false, false, false, false] rfl rfl (any_of HT_.out (by kernel_rfl)) (fun _ _ _ h => h) (Or.inl ⟨by rfl, ?_⟩) ?_ ?_
                    rotate_left
                    · intro w'
                      go_simp
                      with_reducible rfl
                    rotate_left
                    · simp only [Act.put, List.setIfInBounds_toArray, List.set_cons_zero, List.set_cons_succ, i64_w, i32_w]
                      rfl
                    refine pure_ (i := 4) (N := some 40) (v := ?_) (a' := ?_) #[true, true, true, true, true, false, false, false, false, false, false, false, false, false, false, false, false] rfl rfl (any_of HT_.out (by kernel_rfl)) (fun _ _ _ h => h) (Or.inl ⟨by rfl, ?_⟩) ?_ ?_
                    rotate_left
                    · intro w'
                      go_simp
                      with_reducible rfl
                    rotate_left
                    · simp only [Act.put, List.setIfInBounds_toArray, List.set_cons_zero, List.set_cons_succ, i64_w, i32_w]
                      rfl
                    refine pure_ (i := 6) (N := some 42) (v := ?_) (a' := ?_) #[true, true, true, true, true, false, true, false, false, false, false, false, false, false, false, false, false] rfl rfl (any_of HT_.out (by kernel_rfl)) (fun _ _ _ h => h) (Or.inl ⟨by rfl, ?_⟩) ?_ ?_
                    rotate_left
                    · intro w'
                      go_simp
                      with_reducible rfl
                    rotate_left
                    · simp only [Act.put, List.setIfInBounds_toArray, List.set_cons_zero, List.set_cons_succ, i64_w, i32_w]
                      rfl
                    refine pure_ (i := 7) (N := some 43) (v := ?_) (a' := ?_) #[true, true, true, true, true, false, true, true, false, false, false, false, false, false, false, false, false] rfl rfl (any_of HT_.out (by kernel_rfl)) (fun _ _ _ h => h) (Or.inl ⟨by rfl, ?_⟩) ?_ ?_
                    rotate_left
                    · intro w'
                      go_simp
                      with_reducible rfl
                    rotate_left
                    · simp only [Act.put, List.setIfInBounds_toArray, List.set_cons_zero, List.set_cons_succ, i64_w, i32_w]
                      rfl
                    refine pure_ (i := 8) (N := some 44) (v := ?_) (a' := ?_) #[true, true, true, true, true, false, true, true, true, false, false, false, false, false, false, false, false] rfl rfl (any_of HT_.out (by kernel_rfl)) (fun _ _ _ h => h) (Or.inl ⟨by rfl, ?_⟩) ?_ ?_
                    rotate_left
                    · intro w'
                      go_simp
                      with_reducible rfl
                    rotate_left
                    · simp only [Act.put, List.setIfInBounds_toArray, List.set_cons_zero, List.set_cons_succ, i64_w, i32_w]
                      rfl
                    refine pure_ (i := 9) (N := some 45) (v := ?_) (a' := ?_) #[true, true, true, true, true, false, true, true, true, true, false, false, false, false, false, false, false] rfl rfl (any_of HT_.out (by kernel_rfl)) (fun _ _ _ h => h) (Or.inl ⟨by rfl, ?_⟩) ?_ ?_
                    rotate_left
                    · intro w'
                      go_simp
                      with_reducible rfl
                    rotate_left
                    · simp only [Act.put, List.setIfInBounds_toArray, List.set_cons_zero, List.set_cons_succ, i64_w, i32_w]
                      rfl
                    refine pure_ (i := 11) (N := some 47) (v := ?_) (a' := ?_) #[true, true, true, true, true, false, true, true, true, true, false, true, false, false, false, false, false] rfl rfl (any_of HT_.out (by kernel_rfl)) (fun _ _ _ h => h) (Or.inl ⟨by rfl, ?_⟩) ?_ ?_
                    rotate_left
                    · intro w'
                      go_simp
                      with_reducible rfl
                    rotate_left
                    · simp only [Act.put, List.setIfInBounds_toArray, List.set_cons_zero, List.set_cons_succ, i64_w, i32_w]
                      rfl
                    refine take_ (i := 5) (N := some 41) (v := ?_) (a' := ?_) #[true, true, true, true, true, true, true, true, true, true, false, true, false, false, false, false, false] rfl rfl (take_ofW HT_.out HW_.out (by kernel_rfl)) (fun _ _ _ h => h) (Or.inl ⟨by rfl, ?_⟩) hHeld ?_ ?_
                    rotate_left
                    · rintro w' ⟨s0, s1, s2, s3⟩
                      go_simp
                      with_reducible rfl
                    rotate_left
                    · simp only [Act.put, List.setIfInBounds_toArray, List.set_cons_zero, List.set_cons_succ, i64_w, i32_w]
                      rfl
                    refine take_ (i := 10) (N := some 46) (v := ?_) (a' := ?_) #[true, true, true, true, true, true, true, true, true, true, true, true, false, false, false, false, false] rfl rfl (take_ofW HT_.out HW_.out (by kernel_rfl)) (fun _ _ _ h => h) (Or.inl ⟨by rfl, ?_⟩) hHeld ?_ ?_
                    rotate_left
                    · rintro w' ⟨s0, s1, s2, s3⟩
                      go_simp
                      with_reducible rfl
                    rotate_left
                    · simp only [Act.put, List.setIfInBounds_toArray, List.set_cons_zero, List.set_cons_succ, i64_w, i32_w]
                      rfl
                    refine one_ (i := 12) (N := some 48) #[true, true, true, true, true, true, true, true, true, true, true, true, true, false, false, false, false] rfl rfl (one_of HT_.out (by kernel_rfl)) (by decide) (fun K hK => ?_)
                    refine goes_ Try.func57 (by kernel_rfl) rfl #[.int .i64 a1, .int .i64 ((rd_T94 l0 a2).f1), .int .i64 ((rd_T94 l0 a3).f1), .int .i64 a4] (by rfl) rfl rfl (by (try simp only [List.map_toArray, List.map_cons, List.map_nil]); first | done | rfl | (simp only [List.length_drop, List.length_take]; rfl)) ?_
                    with_reducible refine (contangoref01_MulDiv.calls a1 ((rd_T94 l0 a2).f1) ((rd_T94 l0 a3).f1) a4 t186 t187 _ A16.out).mono ?_
                    rintro e w18 ⟨rfl, hb⟩
                    refine ⟨_, rfl, ?_⟩
                    have n0_ := Aside0.mk (below_step (by repeat (first | (with_reducible first | exact HB.out | apply below_alloc | apply pw_below_drewN | apply below_drew1 | exact Below.refl _ _) | exact HB.out)) hb)
                    clear HB
                    have HB := n0_
                    clear n0_
                    (try clear hb)
                    (try clear hb2)
                    (try clear hk)
                    (try clear hi)
                    refine hK.out _ _ ⟨((HB.out.cell (World.block_lt_of_cell? w _ hw184_0)).trans hw184_0), ((HB.out.cell (World.block_lt_of_cell? w _ hw184_1)).trans hw184_1), ((HB.out.cell (World.block_lt_of_cell? w _ hw185_0)).trans hw185_0), ((HB.out.cell (World.block_lt_of_cell? w _ hw185_1)).trans hw185_1)⟩ (fun hHeld => ?_)
                    clear hK K
                    refine norm_ (a' := ?_) ?_ ?_
                    rotate_left
                    · show Act.put _ (some 48) _ = _
                      simp only [Act.put, List.setIfInBounds_toArray, List.set_cons_zero, List.set_cons_succ, i64_w, i32_w]
                      rfl
                    refine pure_ (i := 13) (N := some 49) (v := ?_) (a' := ?_) #[true, true, true, true, true, true, true, true, true, true, true, true, true, true, false, false, false] rfl rfl (any_of HT_.out (by kernel_rfl)) (fun _ _ _ h => h) (Or.inl ⟨by rfl, ?_⟩) ?_ ?_
                    rotate_left
                    · intro w'
                      go_simp
                      with_reducible rfl
                    rotate_left
                    · simp only [Act.put, List.setIfInBounds_toArray, List.set_cons_zero, List.set_cons_succ, i64_w, i32_w]
                      rfl
                    refine pure_ (i := 14) (N := some 50) (v := ?_) (a' := ?_) #[true, true, true, true, true, true, true, true, true, true, true, true, true, true, true, false, false] rfl rfl (any_of HT_.out (by kernel_rfl)) (fun _ _ _ h => h) (Or.inl ⟨by rfl, ?_⟩) ?_ ?_
                    rotate_left
                    · intro w'
                      go_simp
                      with_reducible rfl
                    rotate_left
                    · simp only [Act.put, List.setIfInBounds_toArray, List.set_cons_zero, List.set_cons_succ, i64_w, i32_w]
                      rfl
                    refine pure_ (i := 15) (N := some 10) (v := ?_) (a' := ?_) #[true, true, true, true, true, true, true, true, true, true, true, true, true, true, true, true, false] rfl rfl (any_of HT_.out (by kernel_rfl)) (fun _ _ _ h => h) (Or.inl ⟨by rfl, ?_⟩) ?_ ?_
                    rotate_left
                    · intro w'
                      go_simp
                      with_reducible rfl
                    rotate_left
                    · simp only [Act.put, List.setIfInBounds_toArray, List.set_cons_zero, List.set_cons_succ, i64_w, i32_w]
                      rfl
                    refine pure_ (i := 16) (N := some 11) (v := ?_) (a' := ?_) #[true, true, true, true, true, true, true, true, true, true, true, true, true, true, true, true, true] rfl rfl (any_of HT_.out (by kernel_rfl)) (fun _ _ _ h => h) (Or.inl ⟨by rfl, ?_⟩) ?_ ?_
                    rotate_left
                    · intro w'
                      go_simp
                      with_reducible rfl
                    rotate_left
                    · simp only [Act.put, List.setIfInBounds_toArray, List.set_cons_zero, List.set_cons_succ, i64_w, i32_w]
                      rfl
                    refine done_ (done_of HT_.out (by kernel_rfl)) ?_
                    try go_wp2
                    go_ret2
                    exact ⟨by first | rfl | (simp [errW_none, errW_some] <;> rfl) | (simp [*, errW_none, errW_some] <;> rfl), by repeat (first | (with_reducible first | exact HB.out | apply below_alloc | apply pw_below_drewN | apply below_drew1 | exact Below.refl _ _) | exact HB.out)⟩
                  · rw [if_neg c15] at H
                    exact absurd H (by simp)
                · rw [if_neg c14] at H
                  exact absurd H (by simp)
              · rw [if_neg c13] at H
                exact absurd H (by simp)
            · rw [if_neg c12] at H
              exact absurd H (by simp)
  · rw [if_neg c7] at H
    have c7b0 : (t183 == 0) = false := beq_eq_false_iff_ne.mpr c7
    have c7b1 : (t183 != 0) = true := bne_iff_ne.mpr c7
    (try simp only [c7b0, c7b1])
    simp only [Option.some.injEq, Prod.mk.injEq] at H
    obtain ⟨rfl, rfl⟩ := H
    go_wp2
    go_ret2
    exact ⟨by first | rfl | (simp [errW_none, errW_some] <;> rfl) | (simp [*, errW_none, errW_some] <;> rfl), by repeat (first | (with_reducible first | exact HB.out | apply below_alloc | apply pw_below_drewN | apply below_drew1 | exact Below.refl _ _) | exact HB.out)⟩
def contangoref08_Base.f (k : Nat) (l0 : List (S94)) (a1 : Int) (a2 : Int) (a3 : Int) : Option (Int × Int) := (contangoref08_Convert.f k l0 a1 a2 0 a3).bind fun bt188 => (some (bt188.1, bt188.2))
theorem contangoref08_Base.mono : ∀ a0 a1 a2 a3 k, LeO (contangoref08_Base.f k a0 a1 a2 a3) (contangoref08_Base.f (k + 1) a0 a1 a2 a3) := by
  intro a0 a1 a2 a3 k
  unfold contangoref08_Base.f
  repeat' first
      | (with_reducible exact contangoref08_Convert.mono _ _ _ _ _ _)
      | (with_reducible exact LeO.refl _)
      | (with_reducible exact LeO.none _)
      | (with_reducible refine LeO.ite ?_ ?_)
      | (with_reducible refine LeO.bind ?_ (fun _ => ?_))
      | exact contangoref08_Convert.mono _ _ _ _ _ _
      | exact LeO.none _
      | refine LeO.ite ?_ ?_
      | refine LeO.bind ?_ (fun _ => ?_)
set_option maxHeartbeats 8000000 in
set_option maxRecDepth 100000 in
theorem contangoref08_Base.calls (k : Nat) (A0 : Option Addr) (c0 : Nat) (l0 : List (S94)) (a1 : Int) (a2 : Int) (a3 : Int) (r1 : Int) (r2 : Int) (w : World) (hr0 : Kd.C k94 w A0 l0.length l0) (hc0 : l0.length ≤ c0) (h : contangoref08_Base.f k l0 a1 a2 a3 = some (r1, r2)) :
    Calls Try.prog 56 #[.slice A0 l0.length c0, .int .i64 a1, .int .i64 a2, .int .i64 a3] w fun e w' => e = .returned (.tuple #[.int .i64 r1, .int .i64 r2]) ∧ Below w.heap.size w w' := by
  have HR0 := Aside0.mk hr0
  have HC0 := Aside0.mk hc0
  clear hr0 hc0
  have HB := Aside0.mk (Below.refl w.heap.size w)
  have H : ((contangoref08_Convert.f k l0 a1 a2 0 a3).bind fun bt188 => (some (bt188.1, bt188.2))) = some (r1, r2) := h
  clear h
  replace H := Option.bind_eq_some_iff.mp H
  obtain ⟨⟨t188, t189⟩, A50, H⟩ := H
  replace H : (some (t188, t189)) = some (r1, r2) := H
  have A5 := Aside0.mk A50
  clear A50
  simp only [Option.some.injEq, Prod.mk.injEq] at H
  obtain ⟨rfl, rfl⟩ := H
  go_enter Try.func56, Try.ntmps56
  go_wp2_with (first | ((with_reducible refine gate_callee (f := 95) rfl ?_); refine goesL_ (some 14) rfl rfl Try.func95 (by kernel_rfl) rfl #[.slice A0 l0.length c0, .int .i64 a1, .int .i64 a2, .int .i64 0, .int .i64 a3] rfl (by (try simp only [List.map_toArray, List.map_cons, List.map_nil]); first | done | rfl | (simp only [List.length_drop, List.length_take]; rfl)) ?_; (with_reducible refine (contangoref08_Convert.calls k _ _ l0 a1 a2 0 a3 t188 t189 _ ?side1 ?side2 A5.out).mono ?_); (case side1 => repeat (first | exact HR0.out | (with_reducible refine Kd.C_alloc ?_ _) | (with_reducible refine Kd.C_drewN ?_ _) | (with_reducible refine Kd.C_drew ?_))); (case side2 => exact HC0.out); rintro e w6 ⟨rfl, hb⟩; refine ⟨_, rfl, ?_⟩; have n0_ := Aside0.mk (below_step (by repeat (first | (with_reducible first | exact HB.out | apply below_alloc | apply pw_below_drewN | apply below_drew1) | exact HB.out)) hb); clear HB; have HB := n0_; clear n0_; (try clear hb); (try clear hb2); (try clear hk); (try clear hi)))
  go_ret2
  exact ⟨by first | rfl | (simp [errW_none, errW_some] <;> rfl) | (simp [*, errW_none, errW_some] <;> rfl), by repeat (first | (with_reducible first | exact HB.out | apply below_alloc | apply pw_below_drewN | apply below_drew1) | exact HB.out)⟩
def contangoref31_Worth.f (k : Nat) (a0_0 : ByteArray) (a0_1 : Int) (a0_2 : Int) (a0_3 : Int) (a0_4 : Int) (a0_5 : Int) (a1 : Int) (l2 : List (S94)) : Option (Int × Int) := (contangoref31_Value.f k a0_0 a0_1 a0_2 a0_3 a0_4 a0_5 a1).bind fun bt191 => (if bt191.2 = 0 then ((contangoref08_Base.f k l2 bt191.1 a0_2 3).bind fun bt193 => (if bt193.2 = 0 then ((contangoref01_MulDiv.f bt193.1 (wrap64 (1000 - a0_4)) 1000 3).bind fun bt195 => (some (bt195.1, bt195.2))) else (some (0, bt193.2)))) else (some (0, bt191.2)))
theorem contangoref31_Worth.mono : ∀ a0 a1 a2 a3 a4 a5 a6 a7 k, LeO (contangoref31_Worth.f k a0 a1 a2 a3 a4 a5 a6 a7) (contangoref31_Worth.f (k + 1) a0 a1 a2 a3 a4 a5 a6 a7) := by
  intro a0 a1 a2 a3 a4 a5 a6 a7 k
  unfold contangoref31_Worth.f
  repeat' first
      | (with_reducible exact contangoref08_Base.mono _ _ _ _ _)
      | (with_reducible exact contangoref31_Value.mono _ _ _ _ _ _ _ _)
      | (with_reducible exact LeO.refl _)
      | (with_reducible exact LeO.none _)
      | (with_reducible refine LeO.ite ?_ ?_)
      | (with_reducible refine LeO.bind ?_ (fun _ => ?_))
      | exact contangoref08_Base.mono _ _ _ _ _
      | exact contangoref31_Value.mono _ _ _ _ _ _ _ _
      | exact LeO.none _
      | refine LeO.ite ?_ ?_
      | refine LeO.bind ?_ (fun _ => ?_)
set_option maxHeartbeats 8000000 in
set_option maxRecDepth 100000 in
theorem contangoref31_Worth.calls (k : Nat) (a0_0 : ByteArray) (a0_1 : Int) (a0_2 : Int) (a0_3 : Int) (a0_4 : Int) (a0_5 : Int) (a1 : Int) (A2 : Option Addr) (c2 : Nat) (l2 : List (S94)) (r1 : Int) (r2 : Int) (w : World) (hr2 : Kd.C k94 w A2 l2.length l2) (hc2 : l2.length ≤ c2) (h : contangoref31_Worth.f k a0_0 a0_1 a0_2 a0_3 a0_4 a0_5 a1 l2 = some (r1, r2)) :
    Calls Try.prog 18 #[.agg #[.string a0_0, .int .i64 a0_1, .int .i64 a0_2, .int .i64 a0_3, .int .i64 a0_4, .int .i64 a0_5], .int .i64 a1, .slice A2 l2.length c2] w fun e w' => e = .returned (.tuple #[.int .i64 r1, .int .i64 r2]) ∧ Below w.heap.size w w' := by
  have hu23 := Try.underlying23
  have HR2 := Aside0.mk hr2
  have HC2 := Aside0.mk hc2
  clear hr2 hc2
  have HB := Aside0.mk (Below.refl w.heap.size w)
  have H : ((contangoref31_Value.f k a0_0 a0_1 a0_2 a0_3 a0_4 a0_5 a1).bind fun bt191 => (if bt191.2 = 0 then ((contangoref08_Base.f k l2 bt191.1 a0_2 3).bind fun bt193 => (if bt193.2 = 0 then ((contangoref01_MulDiv.f bt193.1 (wrap64 (1000 - a0_4)) 1000 3).bind fun bt195 => (some (bt195.1, bt195.2))) else (some (0, bt193.2)))) else (some (0, bt191.2)))) = some (r1, r2) := h
  clear h
  replace H := Option.bind_eq_some_iff.mp H
  obtain ⟨⟨t191, t192⟩, A40, H⟩ := H
  replace H : (if t192 = 0 then ((contangoref08_Base.f k l2 t191 a0_2 3).bind fun bt193 => (if bt193.2 = 0 then ((contangoref01_MulDiv.f bt193.1 (wrap64 (1000 - a0_4)) 1000 3).bind fun bt195 => (some (bt195.1, bt195.2))) else (some (0, bt193.2)))) else (some (0, t192))) = some (r1, r2) := H
  have A4 := Aside0.mk A40
  clear A40
  go_enter Try.func18, Try.ntmps18
  go_upto_if 19 with (first | ((with_reducible refine gate_dst (N := 3) rfl ?_); refine box_event ?hg (N := 3) ?hd (cs := #[.string a0_0, .int .i64 a0_1, .int .i64 a0_2, .int .i64 a0_3, .int .i64 a0_4, .int .i64 a0_5]) (t := 23) ?hr ?_; (case hd => rfl); (case hg => rfl); (case hr => first | (go_simp; done) | (go_simp; rfl)); intro gb190 hg w5 hbox hb; have n0_ := Aside0.mk (below_step (by repeat (first | (with_reducible first | exact HB.out | apply below_alloc | apply pw_below_drewN | apply below_drew1) | exact HB.out)) hb); have n1_ := Aside0.mk (hbox); have n2_ := Aside0.mk ((by rw [hg]; exact (below_size (by repeat (first | (with_reducible first | exact HB.out | apply below_alloc | apply pw_below_drewN | apply below_drew1) | exact HB.out))) : w.heap.size ≤ gb190)); have n3_ := Aside0.mk ((by rw [hg]; exact (below_size (by repeat (first | (with_reducible first | exact HB.out | apply below_alloc | apply pw_below_drewN | apply below_drew1) | exact HB.out))) : w.heap.size ≤ gb190)); clear HB; have HB := n0_; have BK190 := n1_; have GW190 := n2_; have GE190 := n3_; clear n0_ n1_ n2_ n3_; clear hb hbox hg; have hcz6_0 : w5.cell? ⟨gb190, 0, none⟩ = some (.string a0_0) := (blk_cell BK190.out 0).trans rfl; have hcz6_1 : w5.cell? ⟨gb190, 1, none⟩ = some (.int .i64 a0_1) := (blk_cell BK190.out 1).trans rfl; have hcz6_2 : w5.cell? ⟨gb190, 2, none⟩ = some (.int .i64 a0_2) := (blk_cell BK190.out 2).trans rfl; have hcz6_3 : w5.cell? ⟨gb190, 3, none⟩ = some (.int .i64 a0_3) := (blk_cell BK190.out 3).trans rfl; have hcz6_4 : w5.cell? ⟨gb190, 4, none⟩ = some (.int .i64 a0_4) := (blk_cell BK190.out 4).trans rfl; have hcz6_5 : w5.cell? ⟨gb190, 5, none⟩ = some (.int .i64 a0_5) := (blk_cell BK190.out 5).trans rfl; have hfz6_0 := blk_frozen BK190.out 0; have hfz6_1 := blk_frozen BK190.out 1; have hfz6_2 := blk_frozen BK190.out 2; have hfz6_3 := blk_frozen BK190.out 3; have hfz6_4 := blk_frozen BK190.out 4; have hfz6_5 := blk_frozen BK190.out 5) | ((with_reducible refine gate_callee (f := 16) rfl ?_); refine goesL_ (some 15) rfl rfl Try.func16 (by kernel_rfl) rfl #[.agg #[.string a0_0, .int .i64 a0_1, .int .i64 a0_2, .int .i64 a0_3, .int .i64 a0_4, .int .i64 a0_5], .int .i64 a1] rfl (by (try simp only [List.map_toArray, List.map_cons, List.map_nil]); first | done | rfl | (simp only [List.length_drop, List.length_take]; rfl)) ?_; (with_reducible refine (contangoref31_Value.calls k a0_0 a0_1 a0_2 a0_3 a0_4 a0_5 a1 t191 t192 _ A4.out).mono ?_); rintro e w7 ⟨rfl, hb⟩; refine ⟨_, rfl, ?_⟩; have n0_ := Aside0.mk (blk_below (g := gb190) (o := .cells #[.string a0_0, .int .i64 a0_1, .int .i64 a0_2, .int .i64 a0_3, .int .i64 a0_4, .int .i64 a0_5] 23 (0, 0)) (by (with_reducible repeat (first | refine blk_drewN ?_ _ | refine blk_drew ?_ | refine blk_alloc ?_ _)); exact BK190.out) hb); have n1_ := Aside0.mk (below_step (by repeat (first | (with_reducible first | exact HB.out | apply below_alloc | apply pw_below_drewN | apply below_drew1 | refine below_set ?_ GE190.out) | exact HB.out)) hb); clear BK190; clear HB; have BK190 := n0_; have HB := n1_; clear n0_ n1_; (try clear hb); (try clear hb2); (try clear hk); (try clear hi)))
  (try simp only [Act.put, List.setIfInBounds_toArray, List.set_cons_zero, List.set_cons_succ])
  by_cases c8 : t192 = 0
  · rw [if_pos c8] at H
    have c8b0 : (t192 == 0) = true := beq_iff_eq.mpr c8
    have c8b1 : (t192 != 0) = false := bne_eq_false_iff_eq.mpr c8
    clear c8
    (try simp only [c8b0, c8b1])
    replace H := Option.bind_eq_some_iff.mp H
    obtain ⟨⟨t193, t194⟩, A90, H⟩ := H
    replace H : (if t194 = 0 then ((contangoref01_MulDiv.f t193 (wrap64 (1000 - a0_4)) 1000 3).bind fun bt195 => (some (bt195.1, bt195.2))) else (some (0, t194))) = some (r1, r2) := H
    have A9 := Aside0.mk A90
    clear A90
    have hcz10_0 : w7.cell? ⟨gb190, 0, none⟩ = some (.string a0_0) := (blk_cell BK190.out 0).trans rfl
    have hcz10_1 : w7.cell? ⟨gb190, 1, none⟩ = some (.int .i64 a0_1) := (blk_cell BK190.out 1).trans rfl
    have hcz10_2 : w7.cell? ⟨gb190, 2, none⟩ = some (.int .i64 a0_2) := (blk_cell BK190.out 2).trans rfl
    have hcz10_3 : w7.cell? ⟨gb190, 3, none⟩ = some (.int .i64 a0_3) := (blk_cell BK190.out 3).trans rfl
    have hcz10_4 : w7.cell? ⟨gb190, 4, none⟩ = some (.int .i64 a0_4) := (blk_cell BK190.out 4).trans rfl
    have hcz10_5 : w7.cell? ⟨gb190, 5, none⟩ = some (.int .i64 a0_5) := (blk_cell BK190.out 5).trans rfl
    have hfz10_0 := blk_frozen BK190.out 0
    have hfz10_1 := blk_frozen BK190.out 1
    have hfz10_2 := blk_frozen BK190.out 2
    have hfz10_3 := blk_frozen BK190.out 3
    have hfz10_4 := blk_frozen BK190.out 4
    have hfz10_5 := blk_frozen BK190.out 5
    go_upto_if 30 with (first | ((with_reducible refine gate_callee (f := 56) rfl ?_); refine goesL_ (some 26) rfl rfl Try.func56 (by kernel_rfl) rfl #[.slice A2 l2.length c2, .int .i64 t191, .int .i64 a0_2, .int .i64 3] rfl (by (try simp only [List.map_toArray, List.map_cons, List.map_nil]); first | done | rfl | (simp only [List.length_drop, List.length_take]; rfl)) ?_; (with_reducible refine (contangoref08_Base.calls k _ _ l2 t191 a0_2 3 t193 t194 _ ?side1 ?side2 A9.out).mono ?_); (case side1 => repeat (first | exact (Kd.C_below HR2.out HB.out) | (with_reducible refine Kd.C_alloc ?_ _) | (with_reducible refine Kd.C_drewN ?_ _) | (with_reducible refine Kd.C_drew ?_))); (case side2 => exact HC2.out); rintro e w11 ⟨rfl, hb⟩; refine ⟨_, rfl, ?_⟩; have n0_ := Aside0.mk (blk_below (g := gb190) (o := .cells #[.string a0_0, .int .i64 a0_1, .int .i64 a0_2, .int .i64 a0_3, .int .i64 a0_4, .int .i64 a0_5] 23 (0, 0)) (by (with_reducible repeat (first | refine blk_drewN ?_ _ | refine blk_drew ?_ | refine blk_alloc ?_ _)); exact BK190.out) hb); have n1_ := Aside0.mk (below_step (by repeat (first | (with_reducible first | exact HB.out | apply below_alloc | apply pw_below_drewN | apply below_drew1 | refine below_set ?_ GE190.out) | exact HB.out)) hb); clear BK190; clear HB; have BK190 := n0_; have HB := n1_; clear n0_ n1_; (try clear hb); (try clear hb2); (try clear hk); (try clear hi)))
    (try simp only [Act.put, List.setIfInBounds_toArray, List.set_cons_zero, List.set_cons_succ])
    by_cases c12 : t194 = 0
    · rw [if_pos c12] at H
      have c12b0 : (t194 == 0) = true := beq_iff_eq.mpr c12
      have c12b1 : (t194 != 0) = false := bne_eq_false_iff_eq.mpr c12
      clear c12
      (try simp only [c12b0, c12b1])
      replace H := Option.bind_eq_some_iff.mp H
      obtain ⟨⟨t195, t196⟩, A130, H⟩ := H
      replace H : (some (t195, t196)) = some (r1, r2) := H
      have A13 := Aside0.mk A130
      clear A130
      simp only [Option.some.injEq, Prod.mk.injEq] at H
      obtain ⟨rfl, rfl⟩ := H
      have hcz14_0 : w11.cell? ⟨gb190, 0, none⟩ = some (.string a0_0) := (blk_cell BK190.out 0).trans rfl
      have hcz14_1 : w11.cell? ⟨gb190, 1, none⟩ = some (.int .i64 a0_1) := (blk_cell BK190.out 1).trans rfl
      have hcz14_2 : w11.cell? ⟨gb190, 2, none⟩ = some (.int .i64 a0_2) := (blk_cell BK190.out 2).trans rfl
      have hcz14_3 : w11.cell? ⟨gb190, 3, none⟩ = some (.int .i64 a0_3) := (blk_cell BK190.out 3).trans rfl
      have hcz14_4 : w11.cell? ⟨gb190, 4, none⟩ = some (.int .i64 a0_4) := (blk_cell BK190.out 4).trans rfl
      have hcz14_5 : w11.cell? ⟨gb190, 5, none⟩ = some (.int .i64 a0_5) := (blk_cell BK190.out 5).trans rfl
      have hfz14_0 := blk_frozen BK190.out 0
      have hfz14_1 := blk_frozen BK190.out 1
      have hfz14_2 := blk_frozen BK190.out 2
      have hfz14_3 := blk_frozen BK190.out 3
      have hfz14_4 := blk_frozen BK190.out 4
      have hfz14_5 := blk_frozen BK190.out 5
      go_wp2_with (first | ((with_reducible refine gate_callee (f := 57) rfl ?_); refine goesL_ (some 36) rfl rfl Try.func57 (by kernel_rfl) rfl #[.int .i64 t193, .int .i64 (wrap64 (1000 - a0_4)), .int .i64 1000, .int .i64 3] rfl (by (try simp only [List.map_toArray, List.map_cons, List.map_nil]); first | done | rfl | (simp only [List.length_drop, List.length_take]; rfl)) ?_; (with_reducible refine (contangoref01_MulDiv.calls t193 (wrap64 (1000 - a0_4)) 1000 3 t195 t196 _ A13.out).mono ?_); rintro e w15 ⟨rfl, hb⟩; refine ⟨_, rfl, ?_⟩; have n0_ := Aside0.mk (blk_below (g := gb190) (o := .cells #[.string a0_0, .int .i64 a0_1, .int .i64 a0_2, .int .i64 a0_3, .int .i64 a0_4, .int .i64 a0_5] 23 (0, 0)) (by (with_reducible repeat (first | refine blk_drewN ?_ _ | refine blk_drew ?_ | refine blk_alloc ?_ _)); exact BK190.out) hb); have n1_ := Aside0.mk (below_step (by repeat (first | (with_reducible first | exact HB.out | apply below_alloc | apply pw_below_drewN | apply below_drew1 | refine below_set ?_ GE190.out) | exact HB.out)) hb); clear BK190; clear HB; have BK190 := n0_; have HB := n1_; clear n0_ n1_; (try clear hb); (try clear hb2); (try clear hk); (try clear hi)))
      go_ret2
      exact ⟨by first | rfl | (simp [errW_none, errW_some] <;> rfl) | (simp [*, errW_none, errW_some] <;> rfl), by repeat (first | (with_reducible first | exact HB.out | apply below_alloc | apply pw_below_drewN | apply below_drew1 | refine below_set ?_ GE190.out) | exact HB.out)⟩
    · rw [if_neg c12] at H
      have c12b0 : (t194 == 0) = false := beq_eq_false_iff_ne.mpr c12
      have c12b1 : (t194 != 0) = true := bne_iff_ne.mpr c12
      (try simp only [c12b0, c12b1])
      simp only [Option.some.injEq, Prod.mk.injEq] at H
      obtain ⟨rfl, rfl⟩ := H
      go_wp2
      go_ret2
      exact ⟨by first | rfl | (simp [errW_none, errW_some] <;> rfl) | (simp [*, errW_none, errW_some] <;> rfl), by repeat (first | (with_reducible first | exact HB.out | apply below_alloc | apply pw_below_drewN | apply below_drew1 | refine below_set ?_ GE190.out) | exact HB.out)⟩
  · rw [if_neg c8] at H
    have c8b0 : (t192 == 0) = false := beq_eq_false_iff_ne.mpr c8
    have c8b1 : (t192 != 0) = true := bne_iff_ne.mpr c8
    (try simp only [c8b0, c8b1])
    simp only [Option.some.injEq, Prod.mk.injEq] at H
    obtain ⟨rfl, rfl⟩ := H
    go_wp2
    go_ret2
    exact ⟨by first | rfl | (simp [errW_none, errW_some] <;> rfl) | (simp [*, errW_none, errW_some] <;> rfl), by repeat (first | (with_reducible first | exact HB.out | apply below_alloc | apply pw_below_drewN | apply below_drew1 | refine below_set ?_ GE190.out) | exact HB.out)⟩
set_option maxHeartbeats 8000000 in
set_option maxRecDepth 100000 in
theorem asset_Units_1.calls (k : Nat) (ba br bn : Nat) (s : ByteArray) (a1 a2 a3 a4 a5 n qty m e : Int) (A : Option Addr) (c : Nat) (l : List S94) (w : World)
    (ha : Aside0 (w.heap[ba]? = some (.cells #[.string s, .int .i64 a1, .int .i64 a2, .int .i64 a3, .int .i64 a4, .int .i64 a5] 23 (0, 0)))) (hr : Aside0 (w.heap[br]? = some (.cells #[.slice A l.length c] 24 (0, 0)))) (hn : Aside0 (w.heap[bn]? = some (.cells #[.int .i64 n] 3 (0, 0))))
    (hC : Aside0 (Kd.C k94 w A l.length l)) (hc : Aside0 (l.length ≤ c)) (hw : Aside0 (asset_Worth.f k s a1 a2 a3 a4 a5 qty l = some (m, e))) :
    Calls Try.prog 59 #[.int .i64 qty, .pointer (some ⟨ba, 0, none⟩), .pointer (some ⟨br, 0, none⟩), .pointer (some ⟨bn, 0, none⟩)] w fun en w' => en = .returned (.bool (decide (e ≠ 0) || decide (n ≤ m))) ∧ Below w.heap.size w w' := by
  have hu23 := Try.underlying23
  have la : ba < w.heap.size := blk_lt ha.out
  have lr : br < w.heap.size := blk_lt hr.out
  have ln : bn < w.heap.size := blk_lt hn.out
  have c0' : w.cell? ⟨ba, 0, none⟩ = some (.string s) := (blk_cell ha.out 0).trans rfl
  have c1' : w.cell? ⟨ba, 1, none⟩ = some (.int .i64 a1) := (blk_cell ha.out 1).trans rfl
  have c2' : w.cell? ⟨ba, 2, none⟩ = some (.int .i64 a2) := (blk_cell ha.out 2).trans rfl
  have c3' : w.cell? ⟨ba, 3, none⟩ = some (.int .i64 a3) := (blk_cell ha.out 3).trans rfl
  have c4' : w.cell? ⟨ba, 4, none⟩ = some (.int .i64 a4) := (blk_cell ha.out 4).trans rfl
  have c5' : w.cell? ⟨ba, 5, none⟩ = some (.int .i64 a5) := (blk_cell ha.out 5).trans rfl
  have cr' : w.cell? ⟨br, 0, none⟩ = some (.slice A l.length c) := (blk_cell hr.out 0).trans rfl
  go_enter Try.func59, Try.ntmps59
  go_wp2_with fail
  refine (asset_Worth.calls k s a1 a2 a3 a4 a5 qty A c l m e _ (Kd.C_below hC.out ?_) hc.out hw.out).mono ?_
  · repeat (first | exact Below.refl _ _ | apply below_alloc | apply pw_below_drewN | apply below_drew)
  rintro en w1 ⟨rfl, hb⟩
  have HB := Aside0.mk (below_then (by repeat (first | exact Below.refl _ _ | apply below_alloc | apply pw_below_drewN | apply below_drew)) (Nat.le_refl _) hb)
  have hnn := (hb.block bn (by first | omega | (simp; omega))).trans (by first | exact hn.out | (simp; exact hn.out))
  have cn' : w1.cell? ⟨bn, 0, none⟩ = some (.int .i64 n) := (blk_cell hnn 0).trans rfl
  have ln1 : bn < w1.heap.size := blk_lt hnn
  clear hb hnn
  by_cases he : e = 0
  · subst he
    by_cases hm : n ≤ m
    · go_wp2
      go_ret
      exact ⟨by simp [hm], by repeat (first | exact HB.out | apply below_alloc | apply pw_below_drewN | apply below_drew)⟩
    · have hm' : m < n := by omega
      go_wp2
      go_ret
      exact ⟨by simp [hm], by repeat (first | exact HB.out | apply below_alloc | apply pw_below_drewN | apply below_drew)⟩
  · go_wp2
    go_ret
    exact ⟨by simp [he], by repeat (first | exact HB.out | apply below_alloc | apply pw_below_drewN | apply below_drew)⟩
def asset_Units.l0 : Nat → ByteArray → Int → Int → Int → Int → Int → Int → List S94 → Int → Int → Option Int
  | 0, _, _, _, _, _, _, _, _, _, _ => none
  | k + 1, s, a1, a2, a3, a4, a5, n, l, lo, hi => if lo < hi then (asset_Worth.f k s a1 a2 a3 a4 a5 (wrap64 (lo + (wrap64 (Int.tdiv (wrap64 (hi - lo)) 2)))) l).bind fun t => if t.2 ≠ 0 ∨ n ≤ t.1 then asset_Units.l0 k s a1 a2 a3 a4 a5 n l lo (wrap64 (lo + (wrap64 (Int.tdiv (wrap64 (hi - lo)) 2)))) else asset_Units.l0 k s a1 a2 a3 a4 a5 n l (wrap64 ((wrap64 (lo + (wrap64 (Int.tdiv (wrap64 (hi - lo)) 2)))) + 1)) hi else some lo
theorem asset_Units.mono_l : ∀ k s a1 a2 a3 a4 a5 n l lo hi, LeO (asset_Units.l0 k s a1 a2 a3 a4 a5 n l lo hi) (asset_Units.l0 (k + 1) s a1 a2 a3 a4 a5 n l lo hi)
  | 0 => fun _ _ _ _ _ _ _ _ _ _ r h => by simp [asset_Units.l0] at h
  | k + 1 => by
    intro s a1 a2 a3 a4 a5 n l lo hi
    have ih := asset_Units.mono_l k
    rw [asset_Units.l0, asset_Units.l0]
    refine LeO.ite (LeO.bind (asset_Worth.mono _ _ _ _ _ _ _ _ _) fun _ => LeO.ite (ih _ _ _ _ _ _ _ _ _ _) (ih _ _ _ _ _ _ _ _ _ _)) (LeO.refl _)
def asset_Units.f (k : Nat) (s : ByteArray) (a1 a2 a3 a4 a5 n : Int) (l : List S94) : Option (Int × Int) :=
  (asset_Check.f k s a1 a2 a3 a4 a5).bind fun t => if t = 0 then
    (rate_Check.f k l).bind fun u => if u = 0 then
      if a2 ≥ (l.length : Int) then some (0, 25) else
        (asset_money.f n).bind fun b => if b = true then
          if a4 = 1000 then some (0, 4) else
            (asset_Units.l0 k s a1 a2 a3 a4 a5 n l 0 1152921504606846976).bind fun low => (asset_Worth.f k s a1 a2 a3 a4 a5 low l).bind fun t => if t.2 ≠ 0 ∨ t.1 < n then some (0, 3) else some (low, 0)
        else some (0, 2)
    else some (0, u)
  else some (0, t)
theorem asset_Units.mono : ∀ s a1 a2 a3 a4 a5 n l k, LeO (asset_Units.f k s a1 a2 a3 a4 a5 n l) (asset_Units.f (k + 1) s a1 a2 a3 a4 a5 n l) := by
  intro s a1 a2 a3 a4 a5 n l k
  unfold asset_Units.f
  refine LeO.bind (asset_Check.mono _ _ _ _ _ _ _) fun _ => LeO.ite (LeO.bind (rate_Check.mono _ _) fun _ => LeO.ite (LeO.ite (LeO.refl _) (LeO.bind (LeO.refl _) fun _ => LeO.ite (LeO.ite (LeO.refl _) (LeO.bind (asset_Units.mono_l _ _ _ _ _ _ _ _ _ _ _) fun _ => LeO.bind (asset_Worth.mono _ _ _ _ _ _ _ _ _) fun _ => LeO.refl _)) (LeO.refl _))) (LeO.refl _)) (LeO.refl _)
set_option maxHeartbeats 8000000 in
set_option maxRecDepth 100000 in
theorem asset_Units.calls (k : Nat) (s : ByteArray) (a1 a2 a3 a4 a5 n : Int) (A2 : Option Addr) (c2 : Nat) (l2 : List S94) (r1 r2 : Int) (w : World) (hr2 : Kd.C k94 w A2 l2.length l2) (hc2 : l2.length ≤ c2) (h : asset_Units.f k s a1 a2 a3 a4 a5 n l2 = some (r1, r2)) :
    Calls Try.prog 20 #[.agg #[.string s, .int .i64 a1, .int .i64 a2, .int .i64 a3, .int .i64 a4, .int .i64 a5], .int .i64 n, .slice A2 l2.length c2] w fun e w' => e = .returned (.tuple #[.int .i64 r1, .int .i64 r2]) ∧ Below w.heap.size w w' := by
  have hu23 := Try.underlying23
  have HR := Aside0.mk hr2
  have HC := Aside0.mk hc2
  clear hr2 hc2
  obtain ⟨t, ht, h⟩ := Option.bind_eq_some_iff.1 h
  have HT := Aside0.mk ht
  clear ht
  go_enter Try.func20, Try.ntmps20
  go_wp2_with fail
  refine (asset_Check.calls k s a1 a2 a3 a4 a5 t _ HT.out).mono ?_
  rintro e w1 ⟨rfl, hb⟩
  have HA := Aside0.mk (show w1.heap[w.heap.size]? = some (.cells #[.string s, .int .i64 a1, .int .i64 a2, .int .i64 a3, .int .i64 a4, .int .i64 a5] 23 (0, 0)) from (hb.block _ (by first | (simp; done) | (simp; omega) | omega)).trans (blk_alloc (blk_alloc (heap_alloc_new w _) _) _))
  have HN := Aside0.mk (show w1.heap[w.heap.size + 1]? = some (.cells #[.int .i64 n] 3 (0, 0)) from (hb.block _ (by first | (simp; done) | (simp; omega) | omega)).trans (blk_alloc (by simpa using heap_alloc_new (w.alloc (.cells #[.string s, .int .i64 a1, .int .i64 a2, .int .i64 a3, .int .i64 a4, .int .i64 a5] 23 (0, 0))) (.cells #[.int .i64 n] 3 (0, 0))) _))
  have HS := Aside0.mk (show w1.heap[w.heap.size + 2]? = some (.cells #[.slice A2 l2.length c2] 24 (0, 0)) from (hb.block _ (by first | (simp; done) | (simp; omega) | omega)).trans (by simpa using heap_alloc_new ((w.alloc (.cells #[.string s, .int .i64 a1, .int .i64 a2, .int .i64 a3, .int .i64 a4, .int .i64 a5] 23 (0, 0))).alloc (.cells #[.int .i64 n] 3 (0, 0))) (.cells #[.slice A2 l2.length c2] 24 (0, 0))))
  have HB := Aside0.mk ((below_alloc (below_alloc (below_alloc (Below.refl w.heap.size w) _) _) _).trans (hb.mono (by first | (simp; done) | (simp; omega) | omega)))
  clear hb
  by_cases ht0 : t = 0
  · subst ht0
    simp only [if_true] at h
    obtain ⟨u, hu, h⟩ := Option.bind_eq_some_iff.1 h
    have HU := Aside0.mk hu
    clear hu
    have ls1 : w.heap.size + 2 < w1.heap.size := blk_lt HS.out
    have cs1 : w1.cell? ⟨w.heap.size + 2, 0, none⟩ = some (.slice A2 l2.length c2) := (blk_cell HS.out 0).trans rfl
    go_wp2_with fail
    refine (rate_Check.calls k A2 c2 l2 u _ (Kd.C_below HR.out ?_) HC.out HU.out).mono ?_
    · repeat (first | exact HB.out | apply below_alloc | apply pw_below_drewN | apply below_drew)
    rintro e w2 ⟨rfl, hb⟩
    have hA := (hb.block w.heap.size (by first | omega | (simp; omega))).trans (by first | exact HA.out | (simp; exact HA.out))
    have hN := (hb.block (w.heap.size + 1) (by first | omega | (simp; omega))).trans (by first | exact HN.out | (simp; exact HN.out))
    have hS := (hb.block (w.heap.size + 2) (by first | omega | (simp; omega))).trans (by first | exact HS.out | (simp; exact HS.out))
    have hB := HB.out.trans (hb.mono (by omega))
    clear HA HN HS HB hb ls1 cs1
    have HA := Aside0.mk hA
    have HN := Aside0.mk hN
    have HS := Aside0.mk hS
    have HB := Aside0.mk hB
    clear hA hN hS hB
    by_cases hu0 : u = 0
    · subst hu0
      simp only [if_true] at h
      have ls : w.heap.size + 2 < w2.heap.size := blk_lt HS.out
      have cs' : w2.cell? ⟨w.heap.size + 2, 0, none⟩ = some (.slice A2 l2.length c2) := (blk_cell HS.out 0).trans rfl
      have ln : w.heap.size + 1 < w2.heap.size := by omega
      have cn' : w2.cell? ⟨w.heap.size + 1, 0, none⟩ = some (.int .i64 n) := (blk_cell HN.out 0).trans rfl
      have la : w.heap.size < w2.heap.size := by omega
      have c2' : w2.cell? ⟨w.heap.size, 2, none⟩ = some (.int .i64 a2) := (blk_cell HA.out 2).trans rfl
      have c4' : w2.cell? ⟨w.heap.size, 4, none⟩ = some (.int .i64 a4) := (blk_cell HA.out 4).trans rfl
      by_cases hcu : a2 ≥ (l2.length : Int)
      · rw [if_pos hcu] at h
        obtain ⟨rfl, rfl⟩ : (0 : Int) = r1 ∧ (25 : Int) = r2 := by simpa using h
        have hcu' : (l2.length : Int) ≤ a2 := hcu
        go_wp2
        go_ret2
        exact ⟨rfl, by repeat (first | exact HB.out | apply below_alloc | apply pw_below_drewN | apply below_drew)⟩
      · rw [if_neg hcu] at h
        have hcu' : a2 < (l2.length : Int) := by omega
        obtain ⟨b, hb, h⟩ := Option.bind_eq_some_iff.1 h
        have HM := Aside0.mk hb
        clear hb
        cases b with
        | false =>
          obtain ⟨rfl, rfl⟩ : (0 : Int) = r1 ∧ (2 : Int) = r2 := by simpa using h
          go_wp2_with (first | (go_at_call 50; (with_reducible refine (asset_money.calls n _ _ HM.out).mono ?_); rintro e w' ⟨rfl, ⟨nd, rfl⟩⟩))
          go_ret2
          exact ⟨rfl, by repeat (first | exact HB.out | apply below_alloc | apply pw_below_drewN | apply below_drew)⟩
        | true =>
          simp only [if_true] at h
          by_cases h4 : a4 = 1000
          · rw [if_pos h4] at h
            obtain ⟨rfl, rfl⟩ : (0 : Int) = r1 ∧ (4 : Int) = r2 := by simpa using h
            have h4b : (a4 == 1000) = true := beq_iff_eq.2 h4
            go_wp2_with (first | (go_at_call 50; (with_reducible refine (asset_money.calls n _ _ HM.out).mono ?_); rintro e w' ⟨rfl, ⟨nd, rfl⟩⟩))
            go_ret2
            exact ⟨rfl, by repeat (first | exact HB.out | apply below_alloc | apply pw_below_drewN | apply below_drew)⟩
          · rw [if_neg h4] at h
            have h4b : (a4 == 1000) = false := beq_eq_false_iff_ne.2 h4
            obtain ⟨low, hlow, h⟩ := Option.bind_eq_some_iff.1 h
            have H' := Aside0.mk hlow
            clear hlow
            obtain ⟨⟨m1, m2⟩, hm, h⟩ := Option.bind_eq_some_iff.1 h
            have HE := Aside0.mk hm
            have HZ := Aside0.mk h
            clear hm h
            go_wp2_with (first | (go_at_call 50; (with_reducible refine (asset_money.calls n _ _ HM.out).mono ?_); rintro e w' ⟨rfl, ⟨nd, rfl⟩⟩))
            go_loopg [11, 12] k (fun kq v11 v12 w' => ∃ (lo hi : Int), v11 = .int .i64 lo ∧ v12 = .int .i64 hi ∧ Aside0 (asset_Units.l0 kq s a1 a2 a3 a4 a5 n l2 lo hi = some low) ∧ Aside0 (kq ≤ k) ∧ Aside0 (w'.heap[w.heap.size]? = some (.cells #[.string s, .int .i64 a1, .int .i64 a2, .int .i64 a3, .int .i64 a4, .int .i64 a5] 23 (0, 0))) ∧ Aside0 (w'.heap[w.heap.size + 1]? = some (.cells #[.int .i64 n] 3 (0, 0))) ∧ Aside0 (w'.heap[w.heap.size + 2]? = some (.cells #[.slice A2 l2.length c2] 24 (0, 0))) ∧ Aside0 (Below w.heap.size w w'))
            case atStart => exact ⟨0, 1152921504606846976, rfl, rfl, H', ⟨Nat.le_refl _⟩, ⟨by (with_reducible repeat (first | refine blk_drewN ?_ _ | refine blk_drew ?_ | refine blk_alloc ?_ _)); exact HA.out⟩, ⟨by (with_reducible repeat (first | refine blk_drewN ?_ _ | refine blk_drew ?_ | refine blk_alloc ?_ _)); exact HN.out⟩, ⟨by (with_reducible repeat (first | refine blk_drewN ?_ _ | refine blk_drew ?_ | refine blk_alloc ?_ _)); exact HS.out⟩, ⟨by repeat (first | exact HB.out | apply below_alloc | apply pw_below_drewN | apply below_drew)⟩⟩
            case round =>
              clear H' HA HN HS HB ls cs' ln cn' la c2' c4'
              obtain ⟨lo, hi, rfl, rfl, HL, HK1, HA, HN, HS, HB⟩ := hrel
              have ls : w.heap.size + 2 < wr.heap.size := blk_lt HS.out
              cases gk with
              | zero => exact absurd HL.out (by simp [asset_Units.l0])
              | succ k1 =>
                have H := HL.out
                clear HL
                simp only [asset_Units.l0] at H
                by_cases c3 : lo < hi
                · rw [if_pos c3] at H
                  have c3b0 : decide (lo < hi) = true := decide_eq_true c3
                  obtain ⟨md, hmd⟩ : ∃ j : Int, wrap64 (lo + (wrap64 (Int.tdiv (wrap64 (hi - lo)) 2))) = j := ⟨_, rfl⟩
                  rw [hmd] at H
                  obtain ⟨⟨t1, t2⟩, hT, H⟩ := Option.bind_eq_some_iff.1 H
                  have HW := Aside0.mk hT
                  have hmdw : IntKind.i64.wrap (lo + (wrap64 (Int.tdiv (wrap64 (hi - lo)) 2))) = md := (i64_w _).trans hmd
                  clear hT
                  by_cases ct : t2 ≠ 0 ∨ n ≤ t1
                  · rw [if_pos ct] at H
                    have H' := Aside0.mk H
                    clear H
                    have hbv : (decide (t2 ≠ 0) || decide (n ≤ t1)) = true := by simpa using ct
                    go_wp2_with (first | (go_at_call 59; refine (asset_Units_1.calls k1 w.heap.size (w.heap.size + 2) (w.heap.size + 1) s a1 a2 a3 a4 a5 n md t1 t2 A2 c2 l2 _ ⟨by (with_reducible repeat (first | refine blk_drewN ?_ _ | refine blk_drew ?_ | refine blk_alloc ?_ _)); exact HA.out⟩ ⟨by (with_reducible repeat (first | refine blk_drewN ?_ _ | refine blk_drew ?_ | refine blk_alloc ?_ _)); exact HS.out⟩ ⟨by (with_reducible repeat (first | refine blk_drewN ?_ _ | refine blk_drew ?_ | refine blk_alloc ?_ _)); exact HN.out⟩ ⟨Kd.C_below HR.out (by repeat (first | exact HB.out | apply below_alloc | apply pw_below_drewN | apply below_drew))⟩ HC HW).mono ?_; rintro en wx ⟨hen, hb⟩; rw [hbv] at hen; subst hen; have hA := (hb.block w.heap.size (by first | (simp; done) | (simp; omega) | omega)).trans (by first | exact HA.out | (simp; exact HA.out)); have hN := (hb.block (w.heap.size + 1) (by first | (simp; done) | (simp; omega) | omega)).trans (by first | exact HN.out | (simp; exact HN.out)); have hS := (hb.block (w.heap.size + 2) (by first | (simp; done) | (simp; omega) | omega)).trans (by first | exact HS.out | (simp; exact HS.out)); have hB := below_then (by repeat (first | exact HB.out | apply below_alloc | apply pw_below_drewN | apply below_drew)) (by first | (simp; done) | (simp; omega) | omega) hb; clear HA HN HS HB hb; have HA := Aside0.mk hA; have HN := Aside0.mk hN; have HS := Aside0.mk hS; have HB := Aside0.mk hB; clear hA hN hS hB))
                    go_roundg k1
                    case measure => have := HK1.out; omega
                    case rel => exact ⟨lo, md, (by first | rfl | (simp; done) | (simp [*]; done)), (by first | rfl | (simp; done) | (simp [*]; done)), H', ⟨by have := HK1.out; omega⟩, ⟨by (with_reducible repeat (first | refine blk_drewN ?_ _ | refine blk_drew ?_ | refine blk_alloc ?_ _)); exact HA.out⟩, ⟨by (with_reducible repeat (first | refine blk_drewN ?_ _ | refine blk_drew ?_ | refine blk_alloc ?_ _)); exact HN.out⟩, ⟨by (with_reducible repeat (first | refine blk_drewN ?_ _ | refine blk_drew ?_ | refine blk_alloc ?_ _)); exact HS.out⟩, ⟨by repeat (first | exact HB.out | apply below_alloc | apply pw_below_drewN | apply below_drew)⟩⟩
                  · rw [if_neg ct] at H
                    have H' := Aside0.mk H
                    clear H
                    have hbv : (decide (t2 ≠ 0) || decide (n ≤ t1)) = false := by
                      have := not_or.1 ct
                      simp only [Bool.or_eq_false_iff, decide_eq_false_iff_not]
                      exact this
                    go_wp2_with (first | (go_at_call 59; refine (asset_Units_1.calls k1 w.heap.size (w.heap.size + 2) (w.heap.size + 1) s a1 a2 a3 a4 a5 n md t1 t2 A2 c2 l2 _ ⟨by (with_reducible repeat (first | refine blk_drewN ?_ _ | refine blk_drew ?_ | refine blk_alloc ?_ _)); exact HA.out⟩ ⟨by (with_reducible repeat (first | refine blk_drewN ?_ _ | refine blk_drew ?_ | refine blk_alloc ?_ _)); exact HS.out⟩ ⟨by (with_reducible repeat (first | refine blk_drewN ?_ _ | refine blk_drew ?_ | refine blk_alloc ?_ _)); exact HN.out⟩ ⟨Kd.C_below HR.out (by repeat (first | exact HB.out | apply below_alloc | apply pw_below_drewN | apply below_drew))⟩ HC HW).mono ?_; rintro en wx ⟨hen, hb⟩; rw [hbv] at hen; subst hen; have hA := (hb.block w.heap.size (by first | (simp; done) | (simp; omega) | omega)).trans (by first | exact HA.out | (simp; exact HA.out)); have hN := (hb.block (w.heap.size + 1) (by first | (simp; done) | (simp; omega) | omega)).trans (by first | exact HN.out | (simp; exact HN.out)); have hS := (hb.block (w.heap.size + 2) (by first | (simp; done) | (simp; omega) | omega)).trans (by first | exact HS.out | (simp; exact HS.out)); have hB := below_then (by repeat (first | exact HB.out | apply below_alloc | apply pw_below_drewN | apply below_drew)) (by first | (simp; done) | (simp; omega) | omega) hb; clear HA HN HS HB hb; have HA := Aside0.mk hA; have HN := Aside0.mk hN; have HS := Aside0.mk hS; have HB := Aside0.mk hB; clear hA hN hS hB))
                    go_roundg k1
                    case measure => have := HK1.out; omega
                    case rel => exact ⟨wrap64 (md + 1), hi, (by first | rfl | (simp; done) | (simp [*]; done)), (by first | rfl | (simp; done) | (simp [*]; done)), H', ⟨by have := HK1.out; omega⟩, ⟨by (with_reducible repeat (first | refine blk_drewN ?_ _ | refine blk_drew ?_ | refine blk_alloc ?_ _)); exact HA.out⟩, ⟨by (with_reducible repeat (first | refine blk_drewN ?_ _ | refine blk_drew ?_ | refine blk_alloc ?_ _)); exact HN.out⟩, ⟨by (with_reducible repeat (first | refine blk_drewN ?_ _ | refine blk_drew ?_ | refine blk_alloc ?_ _)); exact HS.out⟩, ⟨by repeat (first | exact HB.out | apply below_alloc | apply pw_below_drewN | apply below_drew)⟩⟩
                · rw [if_neg c3] at H
                  have c3b0 : decide (lo < hi) = false := decide_eq_false c3
                  obtain rfl := Option.some.inj H
                  have la : w.heap.size < wr.heap.size := by omega
                  have e0' : wr.cell? ⟨w.heap.size, 0, none⟩ = some (.string s) := (blk_cell HA.out 0).trans rfl
                  have e1' : wr.cell? ⟨w.heap.size, 1, none⟩ = some (.int .i64 a1) := (blk_cell HA.out 1).trans rfl
                  have e2' : wr.cell? ⟨w.heap.size, 2, none⟩ = some (.int .i64 a2) := (blk_cell HA.out 2).trans rfl
                  have e3' : wr.cell? ⟨w.heap.size, 3, none⟩ = some (.int .i64 a3) := (blk_cell HA.out 3).trans rfl
                  have e4' : wr.cell? ⟨w.heap.size, 4, none⟩ = some (.int .i64 a4) := (blk_cell HA.out 4).trans rfl
                  have e5' : wr.cell? ⟨w.heap.size, 5, none⟩ = some (.int .i64 a5) := (blk_cell HA.out 5).trans rfl
                  have es' : wr.cell? ⟨w.heap.size + 2, 0, none⟩ = some (.slice A2 l2.length c2) := (blk_cell HS.out 0).trans rfl
                  have hz := HZ.out
                  clear HZ
                  by_cases z0 : m2 = 0
                  · subst z0
                    by_cases z1 : m1 < n
                    · rw [if_pos (Or.inr z1)] at hz
                      obtain ⟨rfl, rfl⟩ : (0 : Int) = r1 ∧ (3 : Int) = r2 := by simpa using hz
                      go_wp2_with (first | (go_at_call 17; refine (asset_Worth.calls k s a1 a2 a3 a4 a5 lo A2 c2 l2 _ _ _ (Kd.C_below HR.out (by repeat (first | exact HB.out | apply below_alloc | apply pw_below_drewN | apply below_drew))) HC.out HE.out).mono ?_; rintro en wx ⟨rfl, hb⟩; have hN := (hb.block (w.heap.size + 1) (by first | (simp; done) | (simp; omega) | omega)).trans (by first | exact HN.out | (simp; exact HN.out)); have hB := below_then (by repeat (first | exact HB.out | apply below_alloc | apply pw_below_drewN | apply below_drew)) (by first | (simp; done) | (simp; omega) | omega) hb; clear HB hb; have HB := Aside0.mk hB; have lx : w.heap.size + 1 < wx.heap.size := blk_lt hN; have cx' : wx.cell? ⟨w.heap.size + 1, 0, none⟩ = some (.int .i64 n) := (blk_cell hN 0).trans rfl; clear hB hN))
                      go_ret2
                      exact ⟨rfl, by repeat (first | exact HB.out | apply below_alloc | apply pw_below_drewN | apply below_drew)⟩
                    · have z2 : n ≤ m1 := by omega
                      rw [if_neg (by omega)] at hz
                      obtain ⟨rfl, rfl⟩ : lo = r1 ∧ (0 : Int) = r2 := by simpa using hz
                      go_wp2_with (first | (go_at_call 17; refine (asset_Worth.calls k s a1 a2 a3 a4 a5 lo A2 c2 l2 _ _ _ (Kd.C_below HR.out (by repeat (first | exact HB.out | apply below_alloc | apply pw_below_drewN | apply below_drew))) HC.out HE.out).mono ?_; rintro en wx ⟨rfl, hb⟩; have hN := (hb.block (w.heap.size + 1) (by first | (simp; done) | (simp; omega) | omega)).trans (by first | exact HN.out | (simp; exact HN.out)); have hB := below_then (by repeat (first | exact HB.out | apply below_alloc | apply pw_below_drewN | apply below_drew)) (by first | (simp; done) | (simp; omega) | omega) hb; clear HB hb; have HB := Aside0.mk hB; have lx : w.heap.size + 1 < wx.heap.size := blk_lt hN; have cx' : wx.cell? ⟨w.heap.size + 1, 0, none⟩ = some (.int .i64 n) := (blk_cell hN 0).trans rfl; clear hB hN))
                      go_ret2
                      exact ⟨rfl, by repeat (first | exact HB.out | apply below_alloc | apply pw_below_drewN | apply below_drew)⟩
                  · rw [if_pos (Or.inl z0)] at hz
                    obtain ⟨rfl, rfl⟩ : (0 : Int) = r1 ∧ (3 : Int) = r2 := by simpa using hz
                    go_wp2_with (first | (go_at_call 17; refine (asset_Worth.calls k s a1 a2 a3 a4 a5 lo A2 c2 l2 _ _ _ (Kd.C_below HR.out (by repeat (first | exact HB.out | apply below_alloc | apply pw_below_drewN | apply below_drew))) HC.out HE.out).mono ?_; rintro en wx ⟨rfl, hb⟩; have hN := (hb.block (w.heap.size + 1) (by first | (simp; done) | (simp; omega) | omega)).trans (by first | exact HN.out | (simp; exact HN.out)); have hB := below_then (by repeat (first | exact HB.out | apply below_alloc | apply pw_below_drewN | apply below_drew)) (by first | (simp; done) | (simp; omega) | omega) hb; clear HB hb; have HB := Aside0.mk hB; have lx : w.heap.size + 1 < wx.heap.size := blk_lt hN; have cx' : wx.cell? ⟨w.heap.size + 1, 0, none⟩ = some (.int .i64 n) := (blk_cell hN 0).trans rfl; clear hB hN))
                    go_ret2
                    exact ⟨rfl, by repeat (first | exact HB.out | apply below_alloc | apply pw_below_drewN | apply below_drew)⟩
    · rw [if_neg hu0] at h
      obtain ⟨rfl, rfl⟩ : (0 : Int) = r1 ∧ u = r2 := by simpa using h
      go_wp2
      go_ret2
      exact ⟨rfl, by repeat (first | exact HB.out | apply below_alloc | apply pw_below_drewN | apply below_drew)⟩
  · rw [if_neg ht0] at h
    obtain ⟨rfl, rfl⟩ : (0 : Int) = r1 ∧ t = r2 := by simpa using h
    go_wp2
    go_ret2
    exact ⟨rfl, by repeat (first | exact HB.out | apply below_alloc | apply pw_below_drewN | apply below_drew)⟩
def contangolaw31_goes.f (k : Nat)  : Option (Bool) := (some (([(⟨(⟨#[117, 115, 100]⟩ : ByteArray), 1000000⟩ : S94), (⟨(⟨#[101, 117, 114]⟩ : ByteArray), 500000⟩ : S94)] : List (S94)) : List (S94))).bind fun y197 => ((asset_Value.f k (⟨#[116, 98]⟩ : ByteArray) 2 1 10000 100 0 3).bind fun bt201 => ((asset_Worth.f k (⟨#[116, 98]⟩ : ByteArray) 2 1 10000 100 0 3 y197).bind fun bt203 => ((asset_Units.f k (⟨#[116, 98]⟩ : ByteArray) 2 1 10000 100 0 13500 y197).bind fun bt205 => ((asset_Units.f k (⟨#[116, 98]⟩ : ByteArray) 2 1 10000 100 0 13501 y197).bind fun bt207 => (if bt201.1 = 30000 then (if bt201.2 = 0 then (if bt203.1 = 13500 then (if bt203.2 = 0 then (if bt205.1 = 3 then (if bt205.2 = 0 then (if bt207.1 = 4 then (some (bt207.2 == 0)) else (some false)) else (some false)) else (some false)) else (some false)) else (some false)) else (some false)) else (some false))))))
theorem contangolaw31_goes.mono : ∀ k, LeO (contangolaw31_goes.f k ) (contangolaw31_goes.f (k + 1) ) := by
  intro  k
  unfold contangolaw31_goes.f
  repeat' first
      | (with_reducible exact asset_Units.mono _ _ _ _ _ _ _ _ _)
      | (with_reducible exact asset_Value.mono _ _ _ _ _ _ _ _)
      | (with_reducible exact asset_Worth.mono _ _ _ _ _ _ _ _ _)
      | (with_reducible exact LeO.refl _)
      | (with_reducible exact LeO.none _)
      | (with_reducible refine LeO.ite ?_ ?_)
      | (with_reducible refine LeO.bind ?_ (fun _ => ?_))
      | exact asset_Units.mono _ _ _ _ _ _ _ _ _
      | exact asset_Value.mono _ _ _ _ _ _ _ _
      | exact asset_Worth.mono _ _ _ _ _ _ _ _ _
      | exact LeO.none _
      | refine LeO.ite ?_ ?_
      | refine LeO.bind ?_ (fun _ => ?_)
set_option maxHeartbeats 8000000 in
set_option maxRecDepth 100000 in
theorem contangolaw31_goes.calls (k : Nat)  (r : Bool) (w : World) (h : contangolaw31_goes.f k  = some r) :
    Calls Try.prog 19 #[] w fun e w' => e = .returned (.bool r) ∧ Below w.heap.size w w' := by
  have hu94 := Try.underlying94
  have hu23 := Try.underlying23
  have HB := Aside0.mk (Below.refl w.heap.size w)
  have H : ((some (([(⟨(⟨#[117, 115, 100]⟩ : ByteArray), 1000000⟩ : S94), (⟨(⟨#[101, 117, 114]⟩ : ByteArray), 500000⟩ : S94)] : List (S94)) : List (S94))).bind fun y197 => ((asset_Value.f k (⟨#[116, 98]⟩ : ByteArray) 2 1 10000 100 0 3).bind fun bt201 => ((asset_Worth.f k (⟨#[116, 98]⟩ : ByteArray) 2 1 10000 100 0 3 y197).bind fun bt203 => ((asset_Units.f k (⟨#[116, 98]⟩ : ByteArray) 2 1 10000 100 0 13500 y197).bind fun bt205 => ((asset_Units.f k (⟨#[116, 98]⟩ : ByteArray) 2 1 10000 100 0 13501 y197).bind fun bt207 => (if bt201.1 = 30000 then (if bt201.2 = 0 then (if bt203.1 = 13500 then (if bt203.2 = 0 then (if bt205.1 = 3 then (if bt205.2 = 0 then (if bt207.1 = 4 then (some (bt207.2 == 0)) else (some false)) else (some false)) else (some false)) else (some false)) else (some false)) else (some false)) else (some false))))))) = some r := h
  clear h
  obtain ⟨y197, hy197⟩ : ∃ y_ : List (S94), y_ = (([(⟨(⟨#[117, 115, 100]⟩ : ByteArray), 1000000⟩ : S94), (⟨(⟨#[101, 117, 114]⟩ : ByteArray), 500000⟩ : S94)] : List (S94))) := ⟨_, rfl⟩
  replace H : ((asset_Value.f k (⟨#[116, 98]⟩ : ByteArray) 2 1 10000 100 0 3).bind fun bt201 => ((asset_Worth.f k (⟨#[116, 98]⟩ : ByteArray) 2 1 10000 100 0 3 y197).bind fun bt203 => ((asset_Units.f k (⟨#[116, 98]⟩ : ByteArray) 2 1 10000 100 0 13500 y197).bind fun bt205 => ((asset_Units.f k (⟨#[116, 98]⟩ : ByteArray) 2 1 10000 100 0 13501 y197).bind fun bt207 => (if bt201.1 = 30000 then (if bt201.2 = 0 then (if bt203.1 = 13500 then (if bt203.2 = 0 then (if bt205.1 = 3 then (if bt205.2 = 0 then (if bt207.1 = 4 then (some (bt207.2 == 0)) else (some false)) else (some false)) else (some false)) else (some false)) else (some false)) else (some false)) else (some false)))))) = some r := by first | (rw [hy197]; with_reducible exact H) | (have H2_ := (Option.bind_some _ _).symm.trans H; rw [hy197]; with_reducible exact H2_) | (have H2_ := (Option.bind_some _ _).symm.trans H; with_reducible exact H2_) | with_reducible exact H | (rw [hy197]; exact H) | exact H
  have Ny197 := Aside0.mk hy197
  clear hy197
  replace H := Option.bind_eq_some_iff.mp H
  obtain ⟨⟨t201, t202⟩, A10, H⟩ := H
  replace H : ((asset_Worth.f k (⟨#[116, 98]⟩ : ByteArray) 2 1 10000 100 0 3 y197).bind fun bt203 => ((asset_Units.f k (⟨#[116, 98]⟩ : ByteArray) 2 1 10000 100 0 13500 y197).bind fun bt205 => ((asset_Units.f k (⟨#[116, 98]⟩ : ByteArray) 2 1 10000 100 0 13501 y197).bind fun bt207 => (if t201 = 30000 then (if t202 = 0 then (if bt203.1 = 13500 then (if bt203.2 = 0 then (if bt205.1 = 3 then (if bt205.2 = 0 then (if bt207.1 = 4 then (some (bt207.2 == 0)) else (some false)) else (some false)) else (some false)) else (some false)) else (some false)) else (some false)) else (some false))))) = some r := H
  have A1 := Aside0.mk A10
  clear A10
  replace H := Option.bind_eq_some_iff.mp H
  obtain ⟨⟨t203, t204⟩, A20, H⟩ := H
  replace H : ((asset_Units.f k (⟨#[116, 98]⟩ : ByteArray) 2 1 10000 100 0 13500 y197).bind fun bt205 => ((asset_Units.f k (⟨#[116, 98]⟩ : ByteArray) 2 1 10000 100 0 13501 y197).bind fun bt207 => (if t201 = 30000 then (if t202 = 0 then (if t203 = 13500 then (if t204 = 0 then (if bt205.1 = 3 then (if bt205.2 = 0 then (if bt207.1 = 4 then (some (bt207.2 == 0)) else (some false)) else (some false)) else (some false)) else (some false)) else (some false)) else (some false)) else (some false)))) = some r := H
  have A2 := Aside0.mk A20
  clear A20
  replace H := Option.bind_eq_some_iff.mp H
  obtain ⟨⟨t205, t206⟩, A30, H⟩ := H
  replace H : ((asset_Units.f k (⟨#[116, 98]⟩ : ByteArray) 2 1 10000 100 0 13501 y197).bind fun bt207 => (if t201 = 30000 then (if t202 = 0 then (if t203 = 13500 then (if t204 = 0 then (if t205 = 3 then (if t206 = 0 then (if bt207.1 = 4 then (some (bt207.2 == 0)) else (some false)) else (some false)) else (some false)) else (some false)) else (some false)) else (some false)) else (some false))) = some r := H
  have A3 := Aside0.mk A30
  clear A30
  replace H := Option.bind_eq_some_iff.mp H
  obtain ⟨⟨t207, t208⟩, A40, H⟩ := H
  replace H : (if t201 = 30000 then (if t202 = 0 then (if t203 = 13500 then (if t204 = 0 then (if t205 = 3 then (if t206 = 0 then (if t207 = 4 then (some (t208 == 0)) else (some false)) else (some false)) else (some false)) else (some false)) else (some false)) else (some false)) else (some false)) = some r := H
  have A4 := Aside0.mk A40
  clear A40
  go_enter Try.func19, Try.ntmps19
  go_upto_region 7 with (first | ((with_reducible refine gate_dst (N := 13) rfl ?_); refine Kd.R_lit k94 _ 94 ?hg (N := 13) ?hd (xs := ([(⟨(⟨#[117, 115, 100]⟩ : ByteArray), 1000000⟩ : S94), (⟨(⟨#[101, 117, 114]⟩ : ByteArray), 500000⟩ : S94)] : List (S94))) (inner := [.string (⟨#[117, 115, 100]⟩ : ByteArray), .int .i64 1000000, .string (⟨#[101, 117, 114]⟩ : ByteArray), .int .i64 500000]) (ok := fun _ => True) (okp := fun _ => True) ?hr ?hp (fun _ hk => hk) trivial (Below.refl _ _) (Nat.le_refl _) (by simp) ?_; (case hd => rfl); (case hg => rfl); (case hr => first | (go_simp; done) | (go_simp; rfl)); (case hp => exact (Reps.c2 (show Kd.M k94 _ _ _ (⟨(⟨#[117, 115, 100]⟩ : ByteArray), 1000000⟩ : S94) [.string (⟨#[117, 115, 100]⟩ : ByteArray), .int .i64 1000000] from (k94_mkM _ _ _ (⟨(⟨#[117, 115, 100]⟩ : ByteArray), 1000000⟩ : S94) )) (Reps.c2 (show Kd.M k94 _ _ _ (⟨(⟨#[101, 117, 114]⟩ : ByteArray), 500000⟩ : S94) [.string (⟨#[101, 117, 114]⟩ : ByteArray), .int .i64 500000] from (k94_mkM _ _ _ (⟨(⟨#[101, 117, 114]⟩ : ByteArray), 500000⟩ : S94) )) (Reps.none _ _)))); intro v198 w5 ho6 hb hg_ hnew_; clear hg_ hnew_; (first | rw [← Ny197.out] at ho6 | (simp only [Int.reduceToNat] at ho6; rw [← Ny197.out] at ho6)); have n0_ := Aside0.mk (Kd.R_lower ho6 (below_size (by repeat (first | (with_reducible first | exact HB.out | apply below_alloc | apply pw_below_drewN | apply below_drew1) | exact HB.out)))); have n1_ := Aside0.mk (below_step (by repeat (first | (with_reducible first | exact HB.out | apply below_alloc | apply pw_below_drewN | apply below_drew1) | exact HB.out)) hb); clear HB; have HO199 := n0_; have HB := n1_; clear n0_ n1_; clear hb ho6) | ((with_reducible refine gate_dst (N := 2) rfl ?_); refine box_event ?hg (N := 2) ?hd (cs := #[.string (⟨#[]⟩ : ByteArray), .int .i64 0, .int .i64 0, .int .i64 0, .int .i64 0, .int .i64 0]) (t := 23) ?hr ?_; (case hd => rfl); (case hg => rfl); (case hr => first | (go_simp; done) | (go_simp; rfl)); intro gb200 hg w7 hbox hb; have n0_ := Aside0.mk (Kd.R_below (by (with_reducible repeat (first | apply Kd.R_alloc | apply Kd.R_drewN | apply Kd.R_drew)); exact HO199.out) hb); have n1_ := Aside0.mk (below_step (by repeat (first | (with_reducible first | exact HB.out | apply below_alloc | apply pw_below_drewN | apply below_drew1) | exact HB.out)) hb); have n2_ := Aside0.mk (hbox); have n3_ := Aside0.mk ((by rw [hg]; exact (below_size (by repeat (first | (with_reducible first | exact HB.out | apply below_alloc | apply pw_below_drewN | apply below_drew1) | exact HB.out))) : w.heap.size ≤ gb200)); have n4_ := Aside0.mk ((by rw [hg]; exact (below_size (by repeat (first | (with_reducible first | exact HB.out | apply below_alloc | apply pw_below_drewN | apply below_drew1) | exact HB.out))) : w.heap.size ≤ gb200)); clear HO199; clear HB; have HO199 := n0_; have HB := n1_; have BK200 := n2_; have GW200 := n3_; have GE200 := n4_; clear n0_ n1_ n2_ n3_ n4_; clear hb hbox hg; have hcz8_0 : w7.cell? ⟨gb200, 0, none⟩ = some (.string (⟨#[]⟩ : ByteArray)) := (blk_cell BK200.out 0).trans rfl; have hcz8_1 : w7.cell? ⟨gb200, 1, none⟩ = some (.int .i64 0) := (blk_cell BK200.out 1).trans rfl; have hcz8_2 : w7.cell? ⟨gb200, 2, none⟩ = some (.int .i64 0) := (blk_cell BK200.out 2).trans rfl; have hcz8_3 : w7.cell? ⟨gb200, 3, none⟩ = some (.int .i64 0) := (blk_cell BK200.out 3).trans rfl; have hcz8_4 : w7.cell? ⟨gb200, 4, none⟩ = some (.int .i64 0) := (blk_cell BK200.out 4).trans rfl; have hcz8_5 : w7.cell? ⟨gb200, 5, none⟩ = some (.int .i64 0) := (blk_cell BK200.out 5).trans rfl; have hfz8_0 := blk_frozen BK200.out 0; have hfz8_1 := blk_frozen BK200.out 1; have hfz8_2 := blk_frozen BK200.out 2; have hfz8_3 := blk_frozen BK200.out 3; have hfz8_4 := blk_frozen BK200.out 4; have hfz8_5 := blk_frozen BK200.out 5) | ((with_reducible refine gate_callee (f := 15) rfl ?_); refine goesL_ (some 17) rfl rfl Try.func15 (by kernel_rfl) rfl #[.agg #[.string (⟨#[116, 98]⟩ : ByteArray), .int .i64 2, .int .i64 1, .int .i64 10000, .int .i64 100, .int .i64 0], .int .i64 3] rfl (by (try simp only [List.map_toArray, List.map_cons, List.map_nil]); first | done | rfl | (simp only [List.length_drop, List.length_take]; rfl)) ?_; (with_reducible refine (asset_Value.calls k (⟨#[116, 98]⟩ : ByteArray) 2 1 10000 100 0 3 t201 t202 _ A1.out).mono ?_); rintro e w9 ⟨rfl, hb⟩; refine ⟨_, rfl, ?_⟩; have n0_ := Aside0.mk (Kd.R_below (by (with_reducible repeat (first | apply Kd.R_alloc | apply Kd.R_drewN | apply Kd.R_drew)); exact (Kd.R_mono (Kd.R_far (p := ⟨gb200, 5, none⟩) (Kd.R_far (p := ⟨gb200, 4, none⟩) (Kd.R_far (p := ⟨gb200, 3, none⟩) (Kd.R_far (p := ⟨gb200, 2, none⟩) (Kd.R_far (p := ⟨gb200, 1, none⟩) (Kd.R_far (p := ⟨gb200, 0, none⟩) (Kd.R_types HO199.out BK200.out (by decide)) (fun _ hk => hk.2) (.string (⟨#[116, 98]⟩ : ByteArray))) (fun _ hk => hk.2) (.int .i64 2)) (fun _ hk => hk.2) (.int .i64 1)) (fun _ hk => hk.2) (.int .i64 10000)) (fun _ hk => hk.2) (.int .i64 100)) (fun _ hk => hk.2) (.int .i64 0)) (fun _ h_ => h_.1))) hb); have n1_ := Aside0.mk (blk_below (g := gb200) (o := .cells #[.string (⟨#[116, 98]⟩ : ByteArray), .int .i64 2, .int .i64 1, .int .i64 10000, .int .i64 100, .int .i64 0] 23 (0, 0)) (by (with_reducible repeat (first | refine blk_drewN ?_ _ | refine blk_drew ?_ | refine blk_alloc ?_ _)); refine blk_put (cs := #[.string (⟨#[116, 98]⟩ : ByteArray), .int .i64 2, .int .i64 1, .int .i64 10000, .int .i64 100, .int .i64 0]) ?_ 5 _ rfl; (with_reducible repeat (first | refine blk_drewN ?_ _ | refine blk_drew ?_ | refine blk_alloc ?_ _)); refine blk_put (cs := #[.string (⟨#[116, 98]⟩ : ByteArray), .int .i64 2, .int .i64 1, .int .i64 10000, .int .i64 0, .int .i64 0]) ?_ 4 _ rfl; (with_reducible repeat (first | refine blk_drewN ?_ _ | refine blk_drew ?_ | refine blk_alloc ?_ _)); refine blk_put (cs := #[.string (⟨#[116, 98]⟩ : ByteArray), .int .i64 2, .int .i64 1, .int .i64 0, .int .i64 0, .int .i64 0]) ?_ 3 _ rfl; (with_reducible repeat (first | refine blk_drewN ?_ _ | refine blk_drew ?_ | refine blk_alloc ?_ _)); refine blk_put (cs := #[.string (⟨#[116, 98]⟩ : ByteArray), .int .i64 2, .int .i64 0, .int .i64 0, .int .i64 0, .int .i64 0]) ?_ 2 _ rfl; (with_reducible repeat (first | refine blk_drewN ?_ _ | refine blk_drew ?_ | refine blk_alloc ?_ _)); refine blk_put (cs := #[.string (⟨#[116, 98]⟩ : ByteArray), .int .i64 0, .int .i64 0, .int .i64 0, .int .i64 0, .int .i64 0]) ?_ 1 _ rfl; (with_reducible repeat (first | refine blk_drewN ?_ _ | refine blk_drew ?_ | refine blk_alloc ?_ _)); refine blk_put (cs := #[.string (⟨#[]⟩ : ByteArray), .int .i64 0, .int .i64 0, .int .i64 0, .int .i64 0, .int .i64 0]) ?_ 0 _ rfl; (with_reducible repeat (first | refine blk_drewN ?_ _ | refine blk_drew ?_ | refine blk_alloc ?_ _)); exact BK200.out) hb); have n2_ := Aside0.mk (below_step (by repeat (first | (with_reducible first | exact HB.out | apply below_alloc | apply pw_below_drewN | apply below_drew1 | refine below_set ?_ GE200.out) | exact HB.out)) hb); clear HO199; clear BK200; clear HB; have HO199 := n0_; have BK200 := n1_; have HB := n2_; clear n0_ n1_ n2_; (try clear hb); (try clear hb2); (try clear hk); (try clear hi); have hcz10_0 : w9.cell? ⟨gb200, 0, none⟩ = some (.string (⟨#[116, 98]⟩ : ByteArray)) := (blk_cell BK200.out 0).trans rfl; have hcz10_1 : w9.cell? ⟨gb200, 1, none⟩ = some (.int .i64 2) := (blk_cell BK200.out 1).trans rfl; have hcz10_2 : w9.cell? ⟨gb200, 2, none⟩ = some (.int .i64 1) := (blk_cell BK200.out 2).trans rfl; have hcz10_3 : w9.cell? ⟨gb200, 3, none⟩ = some (.int .i64 10000) := (blk_cell BK200.out 3).trans rfl; have hcz10_4 : w9.cell? ⟨gb200, 4, none⟩ = some (.int .i64 100) := (blk_cell BK200.out 4).trans rfl; have hcz10_5 : w9.cell? ⟨gb200, 5, none⟩ = some (.int .i64 0) := (blk_cell BK200.out 5).trans rfl; have hfz10_0 := blk_frozen BK200.out 0; have hfz10_1 := blk_frozen BK200.out 1; have hfz10_2 := blk_frozen BK200.out 2; have hfz10_3 := blk_frozen BK200.out 3; have hfz10_4 := blk_frozen BK200.out 4; have hfz10_5 := blk_frozen BK200.out 5; obtain ⟨Ao11, co11, eo11⟩ := Kd.R_slice HO199.out; subst eo11) | ((with_reducible refine gate_callee (f := 17) rfl ?_); refine goesL_ (some 23) rfl rfl Try.func17 (by kernel_rfl) rfl #[.agg #[.string (⟨#[116, 98]⟩ : ByteArray), .int .i64 2, .int .i64 1, .int .i64 10000, .int .i64 100, .int .i64 0], .int .i64 3, .slice Ao11 y197.length co11] rfl (by (try simp only [List.map_toArray, List.map_cons, List.map_nil]); first | done | rfl | (simp only [List.length_drop, List.length_take]; rfl)) ?_; (with_reducible refine (asset_Worth.calls k (⟨#[116, 98]⟩ : ByteArray) 2 1 10000 100 0 3 _ _ y197 t203 t204 _ ?side1 ?side2 A2.out).mono ?_); (case side1 => repeat (first | exact (Kd.R_reads' HO199.out).2.2 | (with_reducible refine Kd.C_alloc ?_ _) | (with_reducible refine Kd.C_drewN ?_ _) | (with_reducible refine Kd.C_drew ?_))); (case side2 => exact (Kd.R_reads' HO199.out).2.1); rintro e w12 ⟨rfl, hb⟩; refine ⟨_, rfl, ?_⟩; have n0_ := Aside0.mk (Kd.R_below (by (with_reducible repeat (first | apply Kd.R_alloc | apply Kd.R_drewN | apply Kd.R_drew)); exact HO199.out) hb); have n1_ := Aside0.mk (blk_below (g := gb200) (o := .cells #[.string (⟨#[116, 98]⟩ : ByteArray), .int .i64 2, .int .i64 1, .int .i64 10000, .int .i64 100, .int .i64 0] 23 (0, 0)) (by (with_reducible repeat (first | refine blk_drewN ?_ _ | refine blk_drew ?_ | refine blk_alloc ?_ _)); exact BK200.out) hb); have n2_ := Aside0.mk (below_step (by repeat (first | (with_reducible first | exact HB.out | apply below_alloc | apply pw_below_drewN | apply below_drew1 | refine below_set ?_ GE200.out) | exact HB.out)) hb); clear HO199; clear BK200; clear HB; have HO199 := n0_; have BK200 := n1_; have HB := n2_; clear n0_ n1_ n2_; (try clear hb); (try clear hb2); (try clear hk); (try clear hi); have hcz13_0 : w12.cell? ⟨gb200, 0, none⟩ = some (.string (⟨#[116, 98]⟩ : ByteArray)) := (blk_cell BK200.out 0).trans rfl; have hcz13_1 : w12.cell? ⟨gb200, 1, none⟩ = some (.int .i64 2) := (blk_cell BK200.out 1).trans rfl; have hcz13_2 : w12.cell? ⟨gb200, 2, none⟩ = some (.int .i64 1) := (blk_cell BK200.out 2).trans rfl; have hcz13_3 : w12.cell? ⟨gb200, 3, none⟩ = some (.int .i64 10000) := (blk_cell BK200.out 3).trans rfl; have hcz13_4 : w12.cell? ⟨gb200, 4, none⟩ = some (.int .i64 100) := (blk_cell BK200.out 4).trans rfl; have hcz13_5 : w12.cell? ⟨gb200, 5, none⟩ = some (.int .i64 0) := (blk_cell BK200.out 5).trans rfl; have hfz13_0 := blk_frozen BK200.out 0; have hfz13_1 := blk_frozen BK200.out 1; have hfz13_2 := blk_frozen BK200.out 2; have hfz13_3 := blk_frozen BK200.out 3; have hfz13_4 := blk_frozen BK200.out 4; have hfz13_5 := blk_frozen BK200.out 5) | ((with_reducible refine gate_callee (f := 20) rfl ?_); refine goesL_ (some 29) rfl rfl Try.func20 (by kernel_rfl) rfl #[.agg #[.string (⟨#[116, 98]⟩ : ByteArray), .int .i64 2, .int .i64 1, .int .i64 10000, .int .i64 100, .int .i64 0], .int .i64 13500, .slice Ao11 y197.length co11] rfl (by (try simp only [List.map_toArray, List.map_cons, List.map_nil]); first | done | rfl | (simp only [List.length_drop, List.length_take]; rfl)) ?_; (with_reducible refine (asset_Units.calls k (⟨#[116, 98]⟩ : ByteArray) 2 1 10000 100 0 13500 _ _ y197 t205 t206 _ ?side1 ?side2 A3.out).mono ?_); (case side1 => repeat (first | exact (Kd.R_reads' HO199.out).2.2 | (with_reducible refine Kd.C_alloc ?_ _) | (with_reducible refine Kd.C_drewN ?_ _) | (with_reducible refine Kd.C_drew ?_))); (case side2 => exact (Kd.R_reads' HO199.out).2.1); rintro e w14 ⟨rfl, hb⟩; refine ⟨_, rfl, ?_⟩; have n0_ := Aside0.mk (Kd.R_below (by (with_reducible repeat (first | apply Kd.R_alloc | apply Kd.R_drewN | apply Kd.R_drew)); exact HO199.out) hb); have n1_ := Aside0.mk (blk_below (g := gb200) (o := .cells #[.string (⟨#[116, 98]⟩ : ByteArray), .int .i64 2, .int .i64 1, .int .i64 10000, .int .i64 100, .int .i64 0] 23 (0, 0)) (by (with_reducible repeat (first | refine blk_drewN ?_ _ | refine blk_drew ?_ | refine blk_alloc ?_ _)); exact BK200.out) hb); have n2_ := Aside0.mk (below_step (by repeat (first | (with_reducible first | exact HB.out | apply below_alloc | apply pw_below_drewN | apply below_drew1 | refine below_set ?_ GE200.out) | exact HB.out)) hb); clear HO199; clear BK200; clear HB; have HO199 := n0_; have BK200 := n1_; have HB := n2_; clear n0_ n1_ n2_; (try clear hb); (try clear hb2); (try clear hk); (try clear hi); have hcz15_0 : w14.cell? ⟨gb200, 0, none⟩ = some (.string (⟨#[116, 98]⟩ : ByteArray)) := (blk_cell BK200.out 0).trans rfl; have hcz15_1 : w14.cell? ⟨gb200, 1, none⟩ = some (.int .i64 2) := (blk_cell BK200.out 1).trans rfl; have hcz15_2 : w14.cell? ⟨gb200, 2, none⟩ = some (.int .i64 1) := (blk_cell BK200.out 2).trans rfl; have hcz15_3 : w14.cell? ⟨gb200, 3, none⟩ = some (.int .i64 10000) := (blk_cell BK200.out 3).trans rfl; have hcz15_4 : w14.cell? ⟨gb200, 4, none⟩ = some (.int .i64 100) := (blk_cell BK200.out 4).trans rfl; have hcz15_5 : w14.cell? ⟨gb200, 5, none⟩ = some (.int .i64 0) := (blk_cell BK200.out 5).trans rfl; have hfz15_0 := blk_frozen BK200.out 0; have hfz15_1 := blk_frozen BK200.out 1; have hfz15_2 := blk_frozen BK200.out 2; have hfz15_3 := blk_frozen BK200.out 3; have hfz15_4 := blk_frozen BK200.out 4; have hfz15_5 := blk_frozen BK200.out 5) | ((with_reducible refine gate_callee (f := 20) rfl ?_); refine goesL_ (some 35) rfl rfl Try.func20 (by kernel_rfl) rfl #[.agg #[.string (⟨#[116, 98]⟩ : ByteArray), .int .i64 2, .int .i64 1, .int .i64 10000, .int .i64 100, .int .i64 0], .int .i64 13501, .slice Ao11 y197.length co11] rfl (by (try simp only [List.map_toArray, List.map_cons, List.map_nil]); first | done | rfl | (simp only [List.length_drop, List.length_take]; rfl)) ?_; (with_reducible refine (asset_Units.calls k (⟨#[116, 98]⟩ : ByteArray) 2 1 10000 100 0 13501 _ _ y197 t207 t208 _ ?side1 ?side2 A4.out).mono ?_); (case side1 => repeat (first | exact (Kd.R_reads' HO199.out).2.2 | (with_reducible refine Kd.C_alloc ?_ _) | (with_reducible refine Kd.C_drewN ?_ _) | (with_reducible refine Kd.C_drew ?_))); (case side2 => exact (Kd.R_reads' HO199.out).2.1); rintro e w16 ⟨rfl, hb⟩; refine ⟨_, rfl, ?_⟩; have n0_ := Aside0.mk (Kd.R_below (by (with_reducible repeat (first | apply Kd.R_alloc | apply Kd.R_drewN | apply Kd.R_drew)); exact HO199.out) hb); have n1_ := Aside0.mk (blk_below (g := gb200) (o := .cells #[.string (⟨#[116, 98]⟩ : ByteArray), .int .i64 2, .int .i64 1, .int .i64 10000, .int .i64 100, .int .i64 0] 23 (0, 0)) (by (with_reducible repeat (first | refine blk_drewN ?_ _ | refine blk_drew ?_ | refine blk_alloc ?_ _)); exact BK200.out) hb); have n2_ := Aside0.mk (below_step (by repeat (first | (with_reducible first | exact HB.out | apply below_alloc | apply pw_below_drewN | apply below_drew1 | refine below_set ?_ GE200.out) | exact HB.out)) hb); clear HO199; clear BK200; clear HB; have HO199 := n0_; have BK200 := n1_; have HB := n2_; clear n0_ n1_ n2_; (try clear hb); (try clear hb2); (try clear hk); (try clear hi)))
  (try simp only [Act.put, List.setIfInBounds_toArray, List.set_cons_zero, List.set_cons_succ])
  by_cases c17 : t201 = 30000
  · rw [if_pos c17] at H
    have c17b0 : (t201 == 30000) = true := beq_iff_eq.mpr c17
    have c17b1 : (t201 != 30000) = false := bne_eq_false_iff_eq.mpr c17
    clear c17
    (try simp only [c17b0, c17b1])
    by_cases c18 : t202 = 0
    · rw [if_pos c18] at H
      have c18b0 : (t202 == 0) = true := beq_iff_eq.mpr c18
      have c18b1 : (t202 != 0) = false := bne_eq_false_iff_eq.mpr c18
      clear c18
      by_cases c19 : t203 = 13500
      · rw [if_pos c19] at H
        have c19b0 : (t203 == 13500) = true := beq_iff_eq.mpr c19
        have c19b1 : (t203 != 13500) = false := bne_eq_false_iff_eq.mpr c19
        clear c19
        by_cases c20 : t204 = 0
        · rw [if_pos c20] at H
          have c20b0 : (t204 == 0) = true := beq_iff_eq.mpr c20
          have c20b1 : (t204 != 0) = false := bne_eq_false_iff_eq.mpr c20
          clear c20
          by_cases c21 : t205 = 3
          · rw [if_pos c21] at H
            have c21b0 : (t205 == 3) = true := beq_iff_eq.mpr c21
            have c21b1 : (t205 != 3) = false := bne_eq_false_iff_eq.mpr c21
            clear c21
            by_cases c22 : t206 = 0
            · rw [if_pos c22] at H
              have c22b0 : (t206 == 0) = true := beq_iff_eq.mpr c22
              have c22b1 : (t206 != 0) = false := bne_eq_false_iff_eq.mpr c22
              clear c22
              by_cases c23 : t207 = 4
              · rw [if_pos c23] at H
                have c23b0 : (t207 == 4) = true := beq_iff_eq.mpr c23
                have c23b1 : (t207 != 4) = false := bne_eq_false_iff_eq.mpr c23
                clear c23
                obtain rfl := Option.some.inj H
                go_wp2
                go_ret
                exact ⟨by first | rfl | (simp [errW_none, errW_some] <;> rfl) | (simp [*, errW_none, errW_some] <;> rfl), by repeat (first | (with_reducible first | exact HB.out | apply below_alloc | apply pw_below_drewN | apply below_drew1 | refine below_set ?_ GE200.out) | exact HB.out)⟩
              · rw [if_neg c23] at H
                have c23b0 : (t207 == 4) = false := beq_eq_false_iff_ne.mpr c23
                have c23b1 : (t207 != 4) = true := bne_iff_ne.mpr c23
                obtain rfl := Option.some.inj H
                go_wp2
                go_ret
                exact ⟨by first | rfl | (simp [errW_none, errW_some] <;> rfl) | (simp [*, errW_none, errW_some] <;> rfl), by repeat (first | (with_reducible first | exact HB.out | apply below_alloc | apply pw_below_drewN | apply below_drew1 | refine below_set ?_ GE200.out) | exact HB.out)⟩
            · rw [if_neg c22] at H
              have c22b0 : (t206 == 0) = false := beq_eq_false_iff_ne.mpr c22
              have c22b1 : (t206 != 0) = true := bne_iff_ne.mpr c22
              obtain rfl := Option.some.inj H
              go_wp2
              go_ret
              exact ⟨by first | rfl | (simp [errW_none, errW_some] <;> rfl) | (simp [*, errW_none, errW_some] <;> rfl), by repeat (first | (with_reducible first | exact HB.out | apply below_alloc | apply pw_below_drewN | apply below_drew1 | refine below_set ?_ GE200.out) | exact HB.out)⟩
          · rw [if_neg c21] at H
            have c21b0 : (t205 == 3) = false := beq_eq_false_iff_ne.mpr c21
            have c21b1 : (t205 != 3) = true := bne_iff_ne.mpr c21
            obtain rfl := Option.some.inj H
            go_wp2
            go_ret
            exact ⟨by first | rfl | (simp [errW_none, errW_some] <;> rfl) | (simp [*, errW_none, errW_some] <;> rfl), by repeat (first | (with_reducible first | exact HB.out | apply below_alloc | apply pw_below_drewN | apply below_drew1 | refine below_set ?_ GE200.out) | exact HB.out)⟩
        · rw [if_neg c20] at H
          have c20b0 : (t204 == 0) = false := beq_eq_false_iff_ne.mpr c20
          have c20b1 : (t204 != 0) = true := bne_iff_ne.mpr c20
          obtain rfl := Option.some.inj H
          go_wp2
          go_ret
          exact ⟨by first | rfl | (simp [errW_none, errW_some] <;> rfl) | (simp [*, errW_none, errW_some] <;> rfl), by repeat (first | (with_reducible first | exact HB.out | apply below_alloc | apply pw_below_drewN | apply below_drew1 | refine below_set ?_ GE200.out) | exact HB.out)⟩
      · rw [if_neg c19] at H
        have c19b0 : (t203 == 13500) = false := beq_eq_false_iff_ne.mpr c19
        have c19b1 : (t203 != 13500) = true := bne_iff_ne.mpr c19
        obtain rfl := Option.some.inj H
        go_wp2
        go_ret
        exact ⟨by first | rfl | (simp [errW_none, errW_some] <;> rfl) | (simp [*, errW_none, errW_some] <;> rfl), by repeat (first | (with_reducible first | exact HB.out | apply below_alloc | apply pw_below_drewN | apply below_drew1 | refine below_set ?_ GE200.out) | exact HB.out)⟩
    · rw [if_neg c18] at H
      have c18b0 : (t202 == 0) = false := beq_eq_false_iff_ne.mpr c18
      have c18b1 : (t202 != 0) = true := bne_iff_ne.mpr c18
      obtain rfl := Option.some.inj H
      go_wp2
      go_ret
      exact ⟨by first | rfl | (simp [errW_none, errW_some] <;> rfl) | (simp [*, errW_none, errW_some] <;> rfl), by repeat (first | (with_reducible first | exact HB.out | apply below_alloc | apply pw_below_drewN | apply below_drew1 | refine below_set ?_ GE200.out) | exact HB.out)⟩
  · rw [if_neg c17] at H
    have c17b0 : (t201 == 30000) = false := beq_eq_false_iff_ne.mpr c17
    have c17b1 : (t201 != 30000) = true := bne_iff_ne.mpr c17
    (try simp only [c17b0, c17b1])
    obtain rfl := Option.some.inj H
    go_wp2
    go_ret
    exact ⟨by first | rfl | (simp [errW_none, errW_some] <;> rfl) | (simp [*, errW_none, errW_some] <;> rfl), by repeat (first | (with_reducible first | exact HB.out | apply below_alloc | apply pw_below_drewN | apply below_drew1 | refine below_set ?_ GE200.out) | exact HB.out)⟩
def contangolaw31_AssetWorths.f (k : Nat) (a0_0 : ByteArray) (a0_1 : Int) (a0_2 : Int) (a0_3 : Int) (a0_4 : Int) (a0_5 : Int) (a1 : Int) (l2 : List (S94)) : Option (Bool) := (asset_Value.f k a0_0 a0_1 a0_2 a0_3 a0_4 a0_5 a1).bind fun bt210 => ((contangoref31_Value.f k a0_0 a0_1 a0_2 a0_3 a0_4 a0_5 a1).bind fun bt212 => ((asset_Worth.f k a0_0 a0_1 a0_2 a0_3 a0_4 a0_5 a1 l2).bind fun bt214 => ((contangoref31_Worth.f k a0_0 a0_1 a0_2 a0_3 a0_4 a0_5 a1 l2).bind fun bt216 => (if bt210.1 = bt212.1 then (if bt210.2 = bt212.2 then (if bt214.1 = bt216.1 then (if bt214.2 = bt216.2 then ((contangolaw31_goes.f k).bind fun t218 => (some t218)) else (some false)) else (some false)) else (some false)) else (some false)))))
theorem contangolaw31_AssetWorths.mono : ∀ a0 a1 a2 a3 a4 a5 a6 a7 k, LeO (contangolaw31_AssetWorths.f k a0 a1 a2 a3 a4 a5 a6 a7) (contangolaw31_AssetWorths.f (k + 1) a0 a1 a2 a3 a4 a5 a6 a7) := by
  intro a0 a1 a2 a3 a4 a5 a6 a7 k
  unfold contangolaw31_AssetWorths.f
  repeat' first
      | (with_reducible exact asset_Value.mono _ _ _ _ _ _ _ _)
      | (with_reducible exact asset_Worth.mono _ _ _ _ _ _ _ _ _)
      | (with_reducible exact contangolaw31_goes.mono _)
      | (with_reducible exact contangoref31_Value.mono _ _ _ _ _ _ _ _)
      | (with_reducible exact contangoref31_Worth.mono _ _ _ _ _ _ _ _ _)
      | (with_reducible exact LeO.refl _)
      | (with_reducible exact LeO.none _)
      | (with_reducible refine LeO.ite ?_ ?_)
      | (with_reducible refine LeO.bind ?_ (fun _ => ?_))
      | exact asset_Value.mono _ _ _ _ _ _ _ _
      | exact asset_Worth.mono _ _ _ _ _ _ _ _ _
      | exact contangolaw31_goes.mono _
      | exact contangoref31_Value.mono _ _ _ _ _ _ _ _
      | exact contangoref31_Worth.mono _ _ _ _ _ _ _ _ _
      | exact LeO.none _
      | refine LeO.ite ?_ ?_
      | refine LeO.bind ?_ (fun _ => ?_)
set_option maxHeartbeats 8000000 in
set_option maxRecDepth 100000 in
theorem contangolaw31_AssetWorths.calls (k : Nat) (a0_0 : ByteArray) (a0_1 : Int) (a0_2 : Int) (a0_3 : Int) (a0_4 : Int) (a0_5 : Int) (a1 : Int) (A2 : Option Addr) (c2 : Nat) (l2 : List (S94)) (r : Bool) (w : World) (hr2 : Kd.C k94 w A2 l2.length l2) (hc2 : l2.length ≤ c2) (h : contangolaw31_AssetWorths.f k a0_0 a0_1 a0_2 a0_3 a0_4 a0_5 a1 l2 = some r) :
    Calls Try.prog 3 #[.agg #[.string a0_0, .int .i64 a0_1, .int .i64 a0_2, .int .i64 a0_3, .int .i64 a0_4, .int .i64 a0_5], .int .i64 a1, .slice A2 l2.length c2] w fun e w' => e = .returned (.bool r) ∧ Below w.heap.size w w' := by
  have hu23 := Try.underlying23
  have HR2 := Aside0.mk hr2
  have HC2 := Aside0.mk hc2
  clear hr2 hc2
  have HB := Aside0.mk (Below.refl w.heap.size w)
  have H : ((asset_Value.f k a0_0 a0_1 a0_2 a0_3 a0_4 a0_5 a1).bind fun bt210 => ((contangoref31_Value.f k a0_0 a0_1 a0_2 a0_3 a0_4 a0_5 a1).bind fun bt212 => ((asset_Worth.f k a0_0 a0_1 a0_2 a0_3 a0_4 a0_5 a1 l2).bind fun bt214 => ((contangoref31_Worth.f k a0_0 a0_1 a0_2 a0_3 a0_4 a0_5 a1 l2).bind fun bt216 => (if bt210.1 = bt212.1 then (if bt210.2 = bt212.2 then (if bt214.1 = bt216.1 then (if bt214.2 = bt216.2 then ((contangolaw31_goes.f k).bind fun t218 => (some t218)) else (some false)) else (some false)) else (some false)) else (some false)))))) = some r := h
  clear h
  replace H := Option.bind_eq_some_iff.mp H
  obtain ⟨⟨t210, t211⟩, A40, H⟩ := H
  replace H : ((contangoref31_Value.f k a0_0 a0_1 a0_2 a0_3 a0_4 a0_5 a1).bind fun bt212 => ((asset_Worth.f k a0_0 a0_1 a0_2 a0_3 a0_4 a0_5 a1 l2).bind fun bt214 => ((contangoref31_Worth.f k a0_0 a0_1 a0_2 a0_3 a0_4 a0_5 a1 l2).bind fun bt216 => (if t210 = bt212.1 then (if t211 = bt212.2 then (if bt214.1 = bt216.1 then (if bt214.2 = bt216.2 then ((contangolaw31_goes.f k).bind fun t218 => (some t218)) else (some false)) else (some false)) else (some false)) else (some false))))) = some r := H
  have A4 := Aside0.mk A40
  clear A40
  replace H := Option.bind_eq_some_iff.mp H
  obtain ⟨⟨t212, t213⟩, A50, H⟩ := H
  replace H : ((asset_Worth.f k a0_0 a0_1 a0_2 a0_3 a0_4 a0_5 a1 l2).bind fun bt214 => ((contangoref31_Worth.f k a0_0 a0_1 a0_2 a0_3 a0_4 a0_5 a1 l2).bind fun bt216 => (if t210 = t212 then (if t211 = t213 then (if bt214.1 = bt216.1 then (if bt214.2 = bt216.2 then ((contangolaw31_goes.f k).bind fun t218 => (some t218)) else (some false)) else (some false)) else (some false)) else (some false)))) = some r := H
  have A5 := Aside0.mk A50
  clear A50
  replace H := Option.bind_eq_some_iff.mp H
  obtain ⟨⟨t214, t215⟩, A60, H⟩ := H
  replace H : ((contangoref31_Worth.f k a0_0 a0_1 a0_2 a0_3 a0_4 a0_5 a1 l2).bind fun bt216 => (if t210 = t212 then (if t211 = t213 then (if t214 = bt216.1 then (if t215 = bt216.2 then ((contangolaw31_goes.f k).bind fun t218 => (some t218)) else (some false)) else (some false)) else (some false)) else (some false))) = some r := H
  have A6 := Aside0.mk A60
  clear A60
  replace H := Option.bind_eq_some_iff.mp H
  obtain ⟨⟨t216, t217⟩, A70, H⟩ := H
  replace H : (if t210 = t212 then (if t211 = t213 then (if t214 = t216 then (if t215 = t217 then ((contangolaw31_goes.f k).bind fun t218 => (some t218)) else (some false)) else (some false)) else (some false)) else (some false)) = some r := H
  have A7 := Aside0.mk A70
  clear A70
  go_enter Try.func3, Try.ntmps3
  go_upto_region 5 with (first | ((with_reducible refine gate_dst (N := 3) rfl ?_); refine box_event ?hg (N := 3) ?hd (cs := #[.string a0_0, .int .i64 a0_1, .int .i64 a0_2, .int .i64 a0_3, .int .i64 a0_4, .int .i64 a0_5]) (t := 23) ?hr ?_; (case hd => rfl); (case hg => rfl); (case hr => first | (go_simp; done) | (go_simp; rfl)); intro gb209 hg w8 hbox hb; have n0_ := Aside0.mk (below_step (by repeat (first | (with_reducible first | exact HB.out | apply below_alloc | apply pw_below_drewN | apply below_drew1) | exact HB.out)) hb); have n1_ := Aside0.mk (hbox); have n2_ := Aside0.mk ((by rw [hg]; exact (below_size (by repeat (first | (with_reducible first | exact HB.out | apply below_alloc | apply pw_below_drewN | apply below_drew1) | exact HB.out))) : w.heap.size ≤ gb209)); have n3_ := Aside0.mk ((by rw [hg]; exact (below_size (by repeat (first | (with_reducible first | exact HB.out | apply below_alloc | apply pw_below_drewN | apply below_drew1) | exact HB.out))) : w.heap.size ≤ gb209)); clear HB; have HB := n0_; have BK209 := n1_; have GW209 := n2_; have GE209 := n3_; clear n0_ n1_ n2_ n3_; clear hb hbox hg; have hcz9_0 : w8.cell? ⟨gb209, 0, none⟩ = some (.string a0_0) := (blk_cell BK209.out 0).trans rfl; have hcz9_1 : w8.cell? ⟨gb209, 1, none⟩ = some (.int .i64 a0_1) := (blk_cell BK209.out 1).trans rfl; have hcz9_2 : w8.cell? ⟨gb209, 2, none⟩ = some (.int .i64 a0_2) := (blk_cell BK209.out 2).trans rfl; have hcz9_3 : w8.cell? ⟨gb209, 3, none⟩ = some (.int .i64 a0_3) := (blk_cell BK209.out 3).trans rfl; have hcz9_4 : w8.cell? ⟨gb209, 4, none⟩ = some (.int .i64 a0_4) := (blk_cell BK209.out 4).trans rfl; have hcz9_5 : w8.cell? ⟨gb209, 5, none⟩ = some (.int .i64 a0_5) := (blk_cell BK209.out 5).trans rfl; have hfz9_0 := blk_frozen BK209.out 0; have hfz9_1 := blk_frozen BK209.out 1; have hfz9_2 := blk_frozen BK209.out 2; have hfz9_3 := blk_frozen BK209.out 3; have hfz9_4 := blk_frozen BK209.out 4; have hfz9_5 := blk_frozen BK209.out 5) | ((with_reducible refine gate_callee (f := 15) rfl ?_); refine goesL_ (some 18) rfl rfl Try.func15 (by kernel_rfl) rfl #[.agg #[.string a0_0, .int .i64 a0_1, .int .i64 a0_2, .int .i64 a0_3, .int .i64 a0_4, .int .i64 a0_5], .int .i64 a1] rfl (by (try simp only [List.map_toArray, List.map_cons, List.map_nil]); first | done | rfl | (simp only [List.length_drop, List.length_take]; rfl)) ?_; (with_reducible refine (asset_Value.calls k a0_0 a0_1 a0_2 a0_3 a0_4 a0_5 a1 t210 t211 _ A4.out).mono ?_); rintro e w10 ⟨rfl, hb⟩; refine ⟨_, rfl, ?_⟩; have n0_ := Aside0.mk (blk_below (g := gb209) (o := .cells #[.string a0_0, .int .i64 a0_1, .int .i64 a0_2, .int .i64 a0_3, .int .i64 a0_4, .int .i64 a0_5] 23 (0, 0)) (by (with_reducible repeat (first | refine blk_drewN ?_ _ | refine blk_drew ?_ | refine blk_alloc ?_ _)); exact BK209.out) hb); have n1_ := Aside0.mk (below_step (by repeat (first | (with_reducible first | exact HB.out | apply below_alloc | apply pw_below_drewN | apply below_drew1 | refine below_set ?_ GE209.out) | exact HB.out)) hb); clear BK209; clear HB; have BK209 := n0_; have HB := n1_; clear n0_ n1_; (try clear hb); (try clear hb2); (try clear hk); (try clear hi); have hcz11_0 : w10.cell? ⟨gb209, 0, none⟩ = some (.string a0_0) := (blk_cell BK209.out 0).trans rfl; have hcz11_1 : w10.cell? ⟨gb209, 1, none⟩ = some (.int .i64 a0_1) := (blk_cell BK209.out 1).trans rfl; have hcz11_2 : w10.cell? ⟨gb209, 2, none⟩ = some (.int .i64 a0_2) := (blk_cell BK209.out 2).trans rfl; have hcz11_3 : w10.cell? ⟨gb209, 3, none⟩ = some (.int .i64 a0_3) := (blk_cell BK209.out 3).trans rfl; have hcz11_4 : w10.cell? ⟨gb209, 4, none⟩ = some (.int .i64 a0_4) := (blk_cell BK209.out 4).trans rfl; have hcz11_5 : w10.cell? ⟨gb209, 5, none⟩ = some (.int .i64 a0_5) := (blk_cell BK209.out 5).trans rfl; have hfz11_0 := blk_frozen BK209.out 0; have hfz11_1 := blk_frozen BK209.out 1; have hfz11_2 := blk_frozen BK209.out 2; have hfz11_3 := blk_frozen BK209.out 3; have hfz11_4 := blk_frozen BK209.out 4; have hfz11_5 := blk_frozen BK209.out 5) | ((with_reducible refine gate_callee (f := 16) rfl ?_); refine goesL_ (some 24) rfl rfl Try.func16 (by kernel_rfl) rfl #[.agg #[.string a0_0, .int .i64 a0_1, .int .i64 a0_2, .int .i64 a0_3, .int .i64 a0_4, .int .i64 a0_5], .int .i64 a1] rfl (by (try simp only [List.map_toArray, List.map_cons, List.map_nil]); first | done | rfl | (simp only [List.length_drop, List.length_take]; rfl)) ?_; (with_reducible refine (contangoref31_Value.calls k a0_0 a0_1 a0_2 a0_3 a0_4 a0_5 a1 t212 t213 _ A5.out).mono ?_); rintro e w12 ⟨rfl, hb⟩; refine ⟨_, rfl, ?_⟩; have n0_ := Aside0.mk (blk_below (g := gb209) (o := .cells #[.string a0_0, .int .i64 a0_1, .int .i64 a0_2, .int .i64 a0_3, .int .i64 a0_4, .int .i64 a0_5] 23 (0, 0)) (by (with_reducible repeat (first | refine blk_drewN ?_ _ | refine blk_drew ?_ | refine blk_alloc ?_ _)); exact BK209.out) hb); have n1_ := Aside0.mk (below_step (by repeat (first | (with_reducible first | exact HB.out | apply below_alloc | apply pw_below_drewN | apply below_drew1 | refine below_set ?_ GE209.out) | exact HB.out)) hb); clear BK209; clear HB; have BK209 := n0_; have HB := n1_; clear n0_ n1_; (try clear hb); (try clear hb2); (try clear hk); (try clear hi); have hcz13_0 : w12.cell? ⟨gb209, 0, none⟩ = some (.string a0_0) := (blk_cell BK209.out 0).trans rfl; have hcz13_1 : w12.cell? ⟨gb209, 1, none⟩ = some (.int .i64 a0_1) := (blk_cell BK209.out 1).trans rfl; have hcz13_2 : w12.cell? ⟨gb209, 2, none⟩ = some (.int .i64 a0_2) := (blk_cell BK209.out 2).trans rfl; have hcz13_3 : w12.cell? ⟨gb209, 3, none⟩ = some (.int .i64 a0_3) := (blk_cell BK209.out 3).trans rfl; have hcz13_4 : w12.cell? ⟨gb209, 4, none⟩ = some (.int .i64 a0_4) := (blk_cell BK209.out 4).trans rfl; have hcz13_5 : w12.cell? ⟨gb209, 5, none⟩ = some (.int .i64 a0_5) := (blk_cell BK209.out 5).trans rfl; have hfz13_0 := blk_frozen BK209.out 0; have hfz13_1 := blk_frozen BK209.out 1; have hfz13_2 := blk_frozen BK209.out 2; have hfz13_3 := blk_frozen BK209.out 3; have hfz13_4 := blk_frozen BK209.out 4; have hfz13_5 := blk_frozen BK209.out 5) | ((with_reducible refine gate_callee (f := 17) rfl ?_); refine goesL_ (some 31) rfl rfl Try.func17 (by kernel_rfl) rfl #[.agg #[.string a0_0, .int .i64 a0_1, .int .i64 a0_2, .int .i64 a0_3, .int .i64 a0_4, .int .i64 a0_5], .int .i64 a1, .slice A2 l2.length c2] rfl (by (try simp only [List.map_toArray, List.map_cons, List.map_nil]); first | done | rfl | (simp only [List.length_drop, List.length_take]; rfl)) ?_; (with_reducible refine (asset_Worth.calls k a0_0 a0_1 a0_2 a0_3 a0_4 a0_5 a1 _ _ l2 t214 t215 _ ?side1 ?side2 A6.out).mono ?_); (case side1 => repeat (first | exact (Kd.C_below HR2.out HB.out) | (with_reducible refine Kd.C_alloc ?_ _) | (with_reducible refine Kd.C_drewN ?_ _) | (with_reducible refine Kd.C_drew ?_))); (case side2 => exact HC2.out); rintro e w14 ⟨rfl, hb⟩; refine ⟨_, rfl, ?_⟩; have n0_ := Aside0.mk (blk_below (g := gb209) (o := .cells #[.string a0_0, .int .i64 a0_1, .int .i64 a0_2, .int .i64 a0_3, .int .i64 a0_4, .int .i64 a0_5] 23 (0, 0)) (by (with_reducible repeat (first | refine blk_drewN ?_ _ | refine blk_drew ?_ | refine blk_alloc ?_ _)); exact BK209.out) hb); have n1_ := Aside0.mk (below_step (by repeat (first | (with_reducible first | exact HB.out | apply below_alloc | apply pw_below_drewN | apply below_drew1 | refine below_set ?_ GE209.out) | exact HB.out)) hb); clear BK209; clear HB; have BK209 := n0_; have HB := n1_; clear n0_ n1_; (try clear hb); (try clear hb2); (try clear hk); (try clear hi); have hcz15_0 : w14.cell? ⟨gb209, 0, none⟩ = some (.string a0_0) := (blk_cell BK209.out 0).trans rfl; have hcz15_1 : w14.cell? ⟨gb209, 1, none⟩ = some (.int .i64 a0_1) := (blk_cell BK209.out 1).trans rfl; have hcz15_2 : w14.cell? ⟨gb209, 2, none⟩ = some (.int .i64 a0_2) := (blk_cell BK209.out 2).trans rfl; have hcz15_3 : w14.cell? ⟨gb209, 3, none⟩ = some (.int .i64 a0_3) := (blk_cell BK209.out 3).trans rfl; have hcz15_4 : w14.cell? ⟨gb209, 4, none⟩ = some (.int .i64 a0_4) := (blk_cell BK209.out 4).trans rfl; have hcz15_5 : w14.cell? ⟨gb209, 5, none⟩ = some (.int .i64 a0_5) := (blk_cell BK209.out 5).trans rfl; have hfz15_0 := blk_frozen BK209.out 0; have hfz15_1 := blk_frozen BK209.out 1; have hfz15_2 := blk_frozen BK209.out 2; have hfz15_3 := blk_frozen BK209.out 3; have hfz15_4 := blk_frozen BK209.out 4; have hfz15_5 := blk_frozen BK209.out 5) | ((with_reducible refine gate_callee (f := 18) rfl ?_); refine goesL_ (some 38) rfl rfl Try.func18 (by kernel_rfl) rfl #[.agg #[.string a0_0, .int .i64 a0_1, .int .i64 a0_2, .int .i64 a0_3, .int .i64 a0_4, .int .i64 a0_5], .int .i64 a1, .slice A2 l2.length c2] rfl (by (try simp only [List.map_toArray, List.map_cons, List.map_nil]); first | done | rfl | (simp only [List.length_drop, List.length_take]; rfl)) ?_; (with_reducible refine (contangoref31_Worth.calls k a0_0 a0_1 a0_2 a0_3 a0_4 a0_5 a1 _ _ l2 t216 t217 _ ?side1 ?side2 A7.out).mono ?_); (case side1 => repeat (first | exact (Kd.C_below HR2.out HB.out) | (with_reducible refine Kd.C_alloc ?_ _) | (with_reducible refine Kd.C_drewN ?_ _) | (with_reducible refine Kd.C_drew ?_))); (case side2 => exact HC2.out); rintro e w16 ⟨rfl, hb⟩; refine ⟨_, rfl, ?_⟩; have n0_ := Aside0.mk (blk_below (g := gb209) (o := .cells #[.string a0_0, .int .i64 a0_1, .int .i64 a0_2, .int .i64 a0_3, .int .i64 a0_4, .int .i64 a0_5] 23 (0, 0)) (by (with_reducible repeat (first | refine blk_drewN ?_ _ | refine blk_drew ?_ | refine blk_alloc ?_ _)); exact BK209.out) hb); have n1_ := Aside0.mk (below_step (by repeat (first | (with_reducible first | exact HB.out | apply below_alloc | apply pw_below_drewN | apply below_drew1 | refine below_set ?_ GE209.out) | exact HB.out)) hb); clear BK209; clear HB; have BK209 := n0_; have HB := n1_; clear n0_ n1_; (try clear hb); (try clear hb2); (try clear hk); (try clear hi)))
  (try simp only [Act.put, List.setIfInBounds_toArray, List.set_cons_zero, List.set_cons_succ])
  by_cases c17 : t210 = t212
  · rw [if_pos c17] at H
    have c17b0 : (t210 == t212) = true := beq_iff_eq.mpr c17
    have c17b1 : (t210 != t212) = false := bne_eq_false_iff_eq.mpr c17
    clear c17
    (try simp only [c17b0, c17b1])
    by_cases c18 : t211 = t213
    · rw [if_pos c18] at H
      have c18b0 : (t211 == t213) = true := beq_iff_eq.mpr c18
      have c18b1 : (t211 != t213) = false := bne_eq_false_iff_eq.mpr c18
      clear c18
      by_cases c19 : t214 = t216
      · rw [if_pos c19] at H
        have c19b0 : (t214 == t216) = true := beq_iff_eq.mpr c19
        have c19b1 : (t214 != t216) = false := bne_eq_false_iff_eq.mpr c19
        clear c19
        by_cases c20 : t215 = t217
        · rw [if_pos c20] at H
          have c20b0 : (t215 == t217) = true := beq_iff_eq.mpr c20
          have c20b1 : (t215 != t217) = false := bne_eq_false_iff_eq.mpr c20
          clear c20
          replace H := Option.bind_eq_some_iff.mp H
          obtain ⟨t218, A210, H⟩ := H
          replace H : (some t218) = some r := H
          have A21 := Aside0.mk A210
          clear A210
          obtain rfl := Option.some.inj H
          go_wp2_with (first | (go_at_call 19; (with_reducible refine (contangolaw31_goes.calls k  t218 _ A21.out).mono ?_); rintro e w22 ⟨rfl, hb⟩; have n0_ := Aside0.mk (blk_below (g := gb209) (o := .cells #[.string a0_0, .int .i64 a0_1, .int .i64 a0_2, .int .i64 a0_3, .int .i64 a0_4, .int .i64 a0_5] 23 (0, 0)) (by (with_reducible repeat (first | refine blk_drewN ?_ _ | refine blk_drew ?_ | refine blk_alloc ?_ _)); exact BK209.out) hb); have n1_ := Aside0.mk (below_step (by repeat (first | (with_reducible first | exact HB.out | apply below_alloc | apply pw_below_drewN | apply below_drew1 | refine below_set ?_ GE209.out) | exact HB.out)) hb); clear BK209; clear HB; have BK209 := n0_; have HB := n1_; clear n0_ n1_; (try clear hb); (try clear hb2); (try clear hk); (try clear hi)))
          go_ret
          exact ⟨by first | rfl | (simp [errW_none, errW_some] <;> rfl) | (simp [*, errW_none, errW_some] <;> rfl), by repeat (first | (with_reducible first | exact HB.out | apply below_alloc | apply pw_below_drewN | apply below_drew1 | refine below_set ?_ GE209.out) | exact HB.out)⟩
        · rw [if_neg c20] at H
          have c20b0 : (t215 == t217) = false := beq_eq_false_iff_ne.mpr c20
          have c20b1 : (t215 != t217) = true := bne_iff_ne.mpr c20
          obtain rfl := Option.some.inj H
          go_wp2
          go_ret
          exact ⟨by first | rfl | (simp [errW_none, errW_some] <;> rfl) | (simp [*, errW_none, errW_some] <;> rfl), by repeat (first | (with_reducible first | exact HB.out | apply below_alloc | apply pw_below_drewN | apply below_drew1 | refine below_set ?_ GE209.out) | exact HB.out)⟩
      · rw [if_neg c19] at H
        have c19b0 : (t214 == t216) = false := beq_eq_false_iff_ne.mpr c19
        have c19b1 : (t214 != t216) = true := bne_iff_ne.mpr c19
        obtain rfl := Option.some.inj H
        go_wp2
        go_ret
        exact ⟨by first | rfl | (simp [errW_none, errW_some] <;> rfl) | (simp [*, errW_none, errW_some] <;> rfl), by repeat (first | (with_reducible first | exact HB.out | apply below_alloc | apply pw_below_drewN | apply below_drew1 | refine below_set ?_ GE209.out) | exact HB.out)⟩
    · rw [if_neg c18] at H
      have c18b0 : (t211 == t213) = false := beq_eq_false_iff_ne.mpr c18
      have c18b1 : (t211 != t213) = true := bne_iff_ne.mpr c18
      obtain rfl := Option.some.inj H
      go_wp2
      go_ret
      exact ⟨by first | rfl | (simp [errW_none, errW_some] <;> rfl) | (simp [*, errW_none, errW_some] <;> rfl), by repeat (first | (with_reducible first | exact HB.out | apply below_alloc | apply pw_below_drewN | apply below_drew1 | refine below_set ?_ GE209.out) | exact HB.out)⟩
  · rw [if_neg c17] at H
    have c17b0 : (t210 == t212) = false := beq_eq_false_iff_ne.mpr c17
    have c17b1 : (t210 != t212) = true := bne_iff_ne.mpr c17
    (try simp only [c17b0, c17b1])
    obtain rfl := Option.some.inj H
    go_wp2
    go_ret
    exact ⟨by first | rfl | (simp [errW_none, errW_some] <;> rfl) | (simp [*, errW_none, errW_some] <;> rfl), by repeat (first | (with_reducible first | exact HB.out | apply below_alloc | apply pw_below_drewN | apply below_drew1 | refine below_set ?_ GE209.out) | exact HB.out)⟩
def asset_Find_1.f (a0_0 : ByteArray) (a0_1 : Int) (a0_2 : Int) (a0_3 : Int) (a0_4 : Int) (a0_5 : Int) : Option (ByteArray) := some a0_0
set_option maxHeartbeats 8000000 in
set_option maxRecDepth 100000 in
theorem asset_Find_1.calls (a0_0 : ByteArray) (a0_1 : Int) (a0_2 : Int) (a0_3 : Int) (a0_4 : Int) (a0_5 : Int) (r : ByteArray) (w : World) (h : asset_Find_1.f a0_0 a0_1 a0_2 a0_3 a0_4 a0_5 = some r) :
    Calls Try.prog 63 #[.agg #[.string a0_0, .int .i64 a0_1, .int .i64 a0_2, .int .i64 a0_3, .int .i64 a0_4, .int .i64 a0_5]] w fun e w' => e = .returned (.string r) ∧ Below w.heap.size w w' := by
  have hu23 := Try.underlying23
  have HB := Aside0.mk (Below.refl w.heap.size w)
  have H : (some a0_0) = some r := h
  clear h
  obtain rfl := Option.some.inj H
  go_enter Try.func63, Try.ntmps63
  go_wp2_with (first | ((with_reducible refine gate_dst (N := 1) rfl ?_); refine box_event ?hg (N := 1) ?hd (cs := #[.string a0_0, .int .i64 a0_1, .int .i64 a0_2, .int .i64 a0_3, .int .i64 a0_4, .int .i64 a0_5]) (t := 23) ?hr ?_; (case hd => rfl); (case hg => rfl); (case hr => first | (go_simp; done) | (go_simp; rfl)); intro gb257 hg w2 hbox hb; have n0_ := Aside0.mk (below_step (by repeat (first | (with_reducible first | exact HB.out | apply below_alloc | apply pw_below_drewN | apply below_drew1) | exact HB.out)) hb); have n1_ := Aside0.mk (hbox); have n2_ := Aside0.mk ((by rw [hg]; exact (below_size (by repeat (first | (with_reducible first | exact HB.out | apply below_alloc | apply pw_below_drewN | apply below_drew1) | exact HB.out))) : w.heap.size ≤ gb257)); have n3_ := Aside0.mk ((by rw [hg]; exact (below_size (by repeat (first | (with_reducible first | exact HB.out | apply below_alloc | apply pw_below_drewN | apply below_drew1) | exact HB.out))) : w.heap.size ≤ gb257)); clear HB; have HB := n0_; have BK257 := n1_; have GW257 := n2_; have GE257 := n3_; clear n0_ n1_ n2_ n3_; clear hb hbox hg; have hcz3_0 : w2.cell? ⟨gb257, 0, none⟩ = some (.string a0_0) := (blk_cell BK257.out 0).trans rfl; have hcz3_1 : w2.cell? ⟨gb257, 1, none⟩ = some (.int .i64 a0_1) := (blk_cell BK257.out 1).trans rfl; have hcz3_2 : w2.cell? ⟨gb257, 2, none⟩ = some (.int .i64 a0_2) := (blk_cell BK257.out 2).trans rfl; have hcz3_3 : w2.cell? ⟨gb257, 3, none⟩ = some (.int .i64 a0_3) := (blk_cell BK257.out 3).trans rfl; have hcz3_4 : w2.cell? ⟨gb257, 4, none⟩ = some (.int .i64 a0_4) := (blk_cell BK257.out 4).trans rfl; have hcz3_5 : w2.cell? ⟨gb257, 5, none⟩ = some (.int .i64 a0_5) := (blk_cell BK257.out 5).trans rfl; have hfz3_0 := blk_frozen BK257.out 0; have hfz3_1 := blk_frozen BK257.out 1; have hfz3_2 := blk_frozen BK257.out 2; have hfz3_3 := blk_frozen BK257.out 3; have hfz3_4 := blk_frozen BK257.out 4; have hfz3_5 := blk_frozen BK257.out 5))
  go_ret
  exact ⟨by first | rfl | (simp [errW_none, errW_some] <;> rfl) | (simp [*, errW_none, errW_some] <;> rfl), by repeat (first | (with_reducible first | exact HB.out | apply below_alloc | apply pw_below_drewN | apply below_drew1 | refine below_set ?_ GE257.out) | exact HB.out)⟩
end Go.Proofs.Ytaiekjimdjlgbaa.Pr
