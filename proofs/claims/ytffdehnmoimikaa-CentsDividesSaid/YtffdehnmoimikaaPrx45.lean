-- printed by xprint.py, a program of this session (wip/tool), which drives the print. Lean checks it.
import Derived.Test.YtffdehnmoimikaaPrx0
import Derived.Test.YtffdehnmoimikaaPrx11
import Derived.Test.YtffdehnmoimikaaPrx12
import Derived.Test.YtffdehnmoimikaaPrx13
import Derived.Test.YtffdehnmoimikaaPrx43
namespace Go.Proofs.Ytffdehnmoimikaa.Pr
open Go.RowKit Go.Proofs.YtffdehnmoimikaaW.PrintWords Go.Proofs.YtffdehnmoimikaaW.PrintLast Go.Proofs.YtffdehnmoimikaaW.PrintMore
attribute [local go_sem] max2_int min2_int max_two min_two max_three min_three max_four min_four   -- for this text's walks alone
set_option linter.unusedVariables false
set_option linter.unusedSimpArgs false

/-! ### cents_MulDiv: function 24 -/
def mdFits (n : Int) : Prop := -1152921504606846976 ≤ n ∧ n ≤ 1152921504606846976
def mdAway (mode : Int) (below : Bool) (q r c : Int) : Bool :=
  decide (mode = 2) || (decide (mode = 3) && below) || (decide (mode = 4) && !below) || (decide (mode = 5) && (decide (c - r < r) || (decide (r = c - r) && decide (q % 2 = 1))))
def mdBelow (a b c : Int) : Bool := !((!(decide (a < 0) == decide (b < 0))) == decide (c < 0))
def mdQ (a b c mode : Int) : Int :=
  if 0 < (a.natAbs : Int) * b.natAbs % c.natAbs ∧ mdAway mode (mdBelow a b c) ((a.natAbs : Int) * b.natAbs / c.natAbs) ((a.natAbs : Int) * b.natAbs % c.natAbs) c.natAbs = true then (a.natAbs : Int) * b.natAbs / c.natAbs + 1
  else (a.natAbs : Int) * b.natAbs / c.natAbs
def mdRes (a b c mode : Int) : Int × Int :=
  if 1152921504606846976 < mdQ a b c mode then (0, 3) else (if mdBelow a b c = true then -mdQ a b c mode else mdQ a b c mode, 0)
instance (n : Int) : Decidable (mdFits n) := inferInstanceAs (Decidable (_ ∧ _))
theorem md_bad_cases (a0 a1 a2 a3 : Int) (h : ¬ (mdFits a0 ∧ mdFits a1 ∧ mdFits a2 ∧ 1 ≤ a3 ∧ a3 ≤ 5)) :
    (a0 < -1152921504606846976) ∨ (1152921504606846976 < a0) ∨
    ((-1152921504606846976 ≤ a0 ∧ a0 ≤ 1152921504606846976) ∧ (a1 < -1152921504606846976)) ∨ ((-1152921504606846976 ≤ a0 ∧ a0 ≤ 1152921504606846976) ∧ (1152921504606846976 < a1)) ∨
    ((-1152921504606846976 ≤ a0 ∧ a0 ≤ 1152921504606846976) ∧ (-1152921504606846976 ≤ a1 ∧ a1 ≤ 1152921504606846976) ∧ (a2 < -1152921504606846976)) ∨
    ((-1152921504606846976 ≤ a0 ∧ a0 ≤ 1152921504606846976) ∧ (-1152921504606846976 ≤ a1 ∧ a1 ≤ 1152921504606846976) ∧ (1152921504606846976 < a2)) ∨
    ((-1152921504606846976 ≤ a0 ∧ a0 ≤ 1152921504606846976) ∧ (-1152921504606846976 ≤ a1 ∧ a1 ≤ 1152921504606846976) ∧ (-1152921504606846976 ≤ a2 ∧ a2 ≤ 1152921504606846976) ∧ a3 < 1) ∨
    ((-1152921504606846976 ≤ a0 ∧ a0 ≤ 1152921504606846976) ∧ (-1152921504606846976 ≤ a1 ∧ a1 ≤ 1152921504606846976) ∧ (-1152921504606846976 ≤ a2 ∧ a2 ≤ 1152921504606846976) ∧ 5 < a3) := by
  unfold mdFits at h; omega
set_option maxHeartbeats 4000000 in
set_option maxRecDepth 100000 in
theorem cents_MulDiv.bad (a0 a1 a2 a3 : Int) (w : World) (h : ¬ (mdFits a0 ∧ mdFits a1 ∧ mdFits a2 ∧ 1 ≤ a3 ∧ a3 ≤ 5)) :
    Calls Try.prog 24 #[.int .i64 a0, .int .i64 a1, .int .i64 a2, .int .i64 a3] w fun e w' => e = .returned (.tuple #[.int .i64 0, .int .i64 2]) ∧ w' = w := by
  rcases md_bad_cases a0 a1 a2 a3 h with h1 | h1 | ⟨⟨h1, h2⟩, h3⟩ | ⟨⟨h1, h2⟩, h3⟩ | ⟨⟨h1, h2⟩, ⟨h3, h4⟩, h5⟩ | ⟨⟨h1, h2⟩, ⟨h3, h4⟩, h5⟩ | ⟨⟨h1, h2⟩, ⟨h3, h4⟩, ⟨h5, h6⟩, h7⟩ | ⟨⟨h1, h2⟩, ⟨h3, h4⟩, ⟨h5, h6⟩, h7⟩
  all_goals
    clear h
    go_enter Try.func24, Try.ntmps24
    go_wp2
    go_ret2
    exact ⟨rfl, rfl⟩

theorem bits_Div64.walkp (p y : Nat) (h : p / 18446744073709551616 < y) (hy : y < 18446744073709551616) (w : World) :
    Calls Try.prog 49 #[.int .u64 ((p / 18446744073709551616 : Nat) : Int), .int .u64 ((p % 18446744073709551616 : Nat) : Int), .int .u64 (y : Int)] w fun e w' =>
      e = .returned (.tuple #[.int .u64 ((p / y : Nat) : Int), .int .u64 ((p % y : Nat) : Int)]) ∧ Drawn0 w w' := by
  have e := bits_Div64.eq ((p / 18446744073709551616 : Nat) : Int) ((p % 18446744073709551616 : Nat) : Int) (y : Int) (by omega) (by omega) (by omega) (by omega) (by omega) 20 (by omega)
  have e2 : ((p / 18446744073709551616 : Nat) : Int) * 18446744073709551616 + ((p % 18446744073709551616 : Nat) : Int) = (p : Int) := by omega
  rw [e2] at e
  exact bits_Div64.calls 20 _ _ _ _ _ w (by rw [e]; rfl)
def MdPost (a b c mode : Int) (w : World) (e : Ending) (w' : World) : Prop := e = .returned (.tuple #[.int .i64 (mdRes a b c mode).1, .int .i64 (mdRes a b c mode).2]) ∧ Below w.heap.size w w'
theorem md_post {a b c mode : Int} {w w' : World} {n er : Int} (h : mdRes a b c mode = (n, er)) (hb : Below w.heap.size w w') : MdPost a b c mode w (.returned (.tuple #[.int .i64 n, .int .i64 er])) w' := by
  unfold MdPost; rw [h]; exact ⟨rfl, hb⟩
def mdHalf (q r c : Int) : Bool := decide (c - r < r) || (decide (r = c - r) && decide (q % 2 = 1))
set_option maxHeartbeats 1000000 in
set_option maxRecDepth 100000 in
theorem cents_away1.half (q r c : Int) (b1 b2 : Nat) (w : World) (hm : w.cell? ⟨b1, 0, none⟩ = some (.int .i64 5)) (h0 : 0 ≤ q) (h1 : 0 ≤ r) (h2 : r < c) (h3 : c ≤ 1152921504606846976) :
    Calls Try.prog 59 #[.int .u64 q, .int .u64 r, .int .u64 c, .pointer (some ⟨b1, 0, none⟩), .pointer (some ⟨b2, 0, none⟩)] w fun e w' => e = .returned (.bool (mdHalf q r c)) ∧ w' = w := by
  by_cases g1 : c - r < r
  · have e : mdHalf q r c = true := by unfold mdHalf; rw [decide_eq_true g1]; rfl
    rw [e]
    go_enter Try.func59, Try.ntmps59
    go_wp2
    go_ret
    exact ⟨rfl, rfl⟩
  by_cases g2 : r = c - r
  · have f2 : (r == c - r) = true := beq_iff_eq.mpr g2
    by_cases g3 : q % 2 = 1
    · have f3 : (q % 2 == 1) = true := beq_iff_eq.mpr g3
      have e : mdHalf q r c = true := by unfold mdHalf; rw [decide_eq_true g2, decide_eq_true g3, decide_eq_false g1]; rfl
      rw [e]
      clear g2 g3 e
      go_enter Try.func59, Try.ntmps59
      go_wp2
      go_ret
      exact ⟨rfl, rfl⟩
    · have f3 : (q % 2 == 1) = false := beq_eq_false_iff_ne.mpr g3
      have e : mdHalf q r c = false := by unfold mdHalf; rw [decide_eq_true g2, decide_eq_false g3, decide_eq_false g1]; rfl
      rw [e]
      clear g2 g3 e
      go_enter Try.func59, Try.ntmps59
      go_wp2
      go_ret
      exact ⟨rfl, rfl⟩
  · have f2 : (r == c - r) = false := beq_eq_false_iff_ne.mpr g2
    have e : mdHalf q r c = false := by unfold mdHalf; rw [decide_eq_false g2, decide_eq_false g1]; rfl
    rw [e]
    clear e
    go_enter Try.func59, Try.ntmps59
    go_wp2
    go_ret
    exact ⟨rfl, rfl⟩


def mdSgn (q : Int) (b : Bool) : Int × Int := if q > 1152921504606846976 then (0, 3) else if b = true then (wrap64 (-(wrap64 q)), 0) else (wrap64 q, 0)
theorem md_sgn (q : Int) (b : Bool) : cents_signed.f q b = some ((mdSgn q b).1, (mdSgn q b).2) := by
  unfold cents_signed.f mdSgn
  repeat' split
  all_goals rfl
theorem md_sgn_eq (q : Int) (b : Bool) (h : 0 ≤ q) : mdSgn q b = if 1152921504606846976 < q then (0, 3) else (if b = true then -q else q, 0) := by
  unfold mdSgn
  by_cases c : q > 1152921504606846976
  · rw [if_pos c, if_pos c]
  · rw [if_neg c, if_neg c]
    cases b <;> simp [wrap64] <;> omega
set_option maxHeartbeats 4000000 in
set_option maxRecDepth 100000 in
theorem cents_MulDiv.m0 (a0 a1 a2 a3 : Int) (w : World) (h1 : -1152921504606846976 ≤ a0) (h2 : a0 ≤ 1152921504606846976) (h3 : -1152921504606846976 ≤ a1) (h4 : a1 ≤ 1152921504606846976)
    (h5 : -1152921504606846976 ≤ a2) (h6 : a2 ≤ 1152921504606846976) (hc : (a2 == 0) = false) (m1 : 1 ≤ a3) (m2 : a3 ≤ 5)
    (hh : a0.natAbs * a1.natAbs / 18446744073709551616 < a2.natAbs) (hq : (a0.natAbs : Int) * a1.natAbs / a2.natAbs ≤ 1152921504606846976) (hr : (a0.natAbs : Int) * a1.natAbs % a2.natAbs ≤ 0) :
    Calls Try.prog 24 #[.int .i64 a0, .int .i64 a1, .int .i64 a2, .int .i64 a3] w fun e w' => e = .returned (.tuple #[.int .i64 (mdSgn ((a0.natAbs : Int) * a1.natAbs / a2.natAbs) (mdBelow a0 a1 a2)).1, .int .i64 (mdSgn ((a0.natAbs : Int) * a1.natAbs / a2.natAbs) (mdBelow a0 a1 a2)).2]) ∧ Below w.heap.size w w' := by
  have hmf : ∀ (fn : Fn) (first cap : Array Value) (w : World), (Instr.makeFunc fn first cap).run Try.prog w = .ok (.func fn first cap) w := fun _ _ _ _ => rfl
  go_enter Try.func24, Try.ntmps24
  go_wp2_with (first | (go_at_call 48; refine (cents_size.walk _ _ (by omega) (by omega)).mono ?_; rintro e w' ⟨rfl, rfl⟩) | (go_at_call 47; refine (bits_Mul64.walk _ _ (by omega) (by omega) _).mono ?_; rintro e w' ⟨rfl, rfl⟩) | (go_at_call 49; refine (bits_Div64.walkp _ _ hh (by omega) _).mono ?_; rintro e w1 ⟨rfl, hd⟩) | (go_at_call 51; refine (cents_signed.calls _ _ _ _ _ (md_sgn _ _)).mono ?_; rintro e w2 ⟨rfl, hd2⟩) | (go_at_call 28; go_in) | (go_at_call 50; go_in))
  go_ret2
  exact ⟨rfl, below_then hd.below hd.below.size hd2.below⟩
set_option maxHeartbeats 4000000 in
set_option maxRecDepth 100000 in
theorem cents_MulDiv.o1 (a0 a1 a2 a3 : Int) (w : World) (h1 : -1152921504606846976 ≤ a0) (h2 : a0 ≤ 1152921504606846976) (h3 : -1152921504606846976 ≤ a1) (h4 : a1 ≤ 1152921504606846976)
    (h5 : -1152921504606846976 ≤ a2) (h6 : a2 ≤ 1152921504606846976) (hc : (a2 == 0) = false) (m1 : 1 ≤ a3) (m2 : a3 ≤ 5)
    (hh : (a2.natAbs : Int) ≤ (a0.natAbs : Int) * a1.natAbs / 18446744073709551616) :
    Calls Try.prog 24 #[.int .i64 a0, .int .i64 a1, .int .i64 a2, .int .i64 a3] w fun e w' => e = .returned (.tuple #[.int .i64 0, .int .i64 3]) ∧ Below w.heap.size w w' := by
  go_enter Try.func24, Try.ntmps24
  go_wp2_with (first | (go_at_call 48; refine (cents_size.walk _ _ (by omega) (by omega)).mono ?_; rintro e w' ⟨rfl, rfl⟩) | (go_at_call 47; refine (bits_Mul64.walk _ _ (by omega) (by omega) _).mono ?_; rintro e w' ⟨rfl, rfl⟩) | (go_at_call 49; refine (bits_Div64.walkp _ _ hh (by omega) _).mono ?_; rintro e w1 ⟨rfl, hd⟩) | (go_at_call 51; refine (cents_signed.calls _ _ _ _ _ (md_sgn _ _)).mono ?_; rintro e w2 ⟨rfl, hd2⟩) | (go_at_call 28; go_in) | (go_at_call 50; go_in))
  go_ret2
  exact ⟨rfl, Below.refl _ _⟩
set_option maxHeartbeats 4000000 in
set_option maxRecDepth 100000 in
theorem cents_MulDiv.o2 (a0 a1 a2 a3 : Int) (w : World) (h1 : -1152921504606846976 ≤ a0) (h2 : a0 ≤ 1152921504606846976) (h3 : -1152921504606846976 ≤ a1) (h4 : a1 ≤ 1152921504606846976)
    (h5 : -1152921504606846976 ≤ a2) (h6 : a2 ≤ 1152921504606846976) (hc : (a2 == 0) = false) (m1 : 1 ≤ a3) (m2 : a3 ≤ 5)
    (hh : a0.natAbs * a1.natAbs / 18446744073709551616 < a2.natAbs) (hq : 1152921504606846976 < (a0.natAbs : Int) * a1.natAbs / a2.natAbs) :
    Calls Try.prog 24 #[.int .i64 a0, .int .i64 a1, .int .i64 a2, .int .i64 a3] w fun e w' => e = .returned (.tuple #[.int .i64 0, .int .i64 3]) ∧ Below w.heap.size w w' := by
  go_enter Try.func24, Try.ntmps24
  go_wp2_with (first | (go_at_call 48; refine (cents_size.walk _ _ (by omega) (by omega)).mono ?_; rintro e w' ⟨rfl, rfl⟩) | (go_at_call 47; refine (bits_Mul64.walk _ _ (by omega) (by omega) _).mono ?_; rintro e w' ⟨rfl, rfl⟩) | (go_at_call 49; refine (bits_Div64.walkp _ _ hh (by omega) _).mono ?_; rintro e w1 ⟨rfl, hd⟩) | (go_at_call 51; refine (cents_signed.calls _ _ _ _ _ (md_sgn _ _)).mono ?_; rintro e w2 ⟨rfl, hd2⟩) | (go_at_call 28; go_in) | (go_at_call 50; go_in))
  go_ret2
  exact ⟨rfl, hd.below⟩
set_option maxHeartbeats 4000000 in
set_option maxRecDepth 100000 in
theorem cents_MulDiv.z (a0 a1 a2 a3 : Int) (w : World) (h1 : -1152921504606846976 ≤ a0) (h2 : a0 ≤ 1152921504606846976) (h3 : -1152921504606846976 ≤ a1) (h4 : a1 ≤ 1152921504606846976)
    (h5 : -1152921504606846976 ≤ a2) (h6 : a2 ≤ 1152921504606846976) (hc : (a2 == 0) = true) (m1 : 1 ≤ a3) (m2 : a3 ≤ 5) :
    Calls Try.prog 24 #[.int .i64 a0, .int .i64 a1, .int .i64 a2, .int .i64 a3] w fun e w' => e = .returned (.tuple #[.int .i64 0, .int .i64 4]) ∧ Below w.heap.size w w' := by
  go_enter Try.func24, Try.ntmps24
  go_wp2_with (go_at_call 28; go_in)
  go_ret2
  exact ⟨rfl, Below.refl _ _⟩
theorem md_end {w w1 w2 : World} {o1 o2 : Obj} (hd : Drawn0 w w1) (hd2 : Drawn0 ((w1.alloc o1).alloc o2) w2) : Below w.heap.size w w2 :=
  below_then (below_alloc (below_alloc hd.below _) _) (Nat.le_trans hd.below.size (by simp; omega)) hd2.below
set_option maxHeartbeats 4000000 in
set_option maxRecDepth 100000 in
theorem cents_MulDiv.r1 (a0 a1 a2 : Int) (w : World) (h1 : -1152921504606846976 ≤ a0) (h2 : a0 ≤ 1152921504606846976) (h3 : -1152921504606846976 ≤ a1) (h4 : a1 ≤ 1152921504606846976)
    (h5 : -1152921504606846976 ≤ a2) (h6 : a2 ≤ 1152921504606846976) (hc : (a2 == 0) = false)
    (hh : a0.natAbs * a1.natAbs / 18446744073709551616 < a2.natAbs) (hq : (a0.natAbs : Int) * a1.natAbs / a2.natAbs ≤ 1152921504606846976) (hr : 0 < (a0.natAbs : Int) * a1.natAbs % a2.natAbs) :
    Calls Try.prog 24 #[.int .i64 a0, .int .i64 a1, .int .i64 a2, .int .i64 1] w fun e w' => e = .returned (.tuple #[.int .i64 (mdSgn ((a0.natAbs : Int) * a1.natAbs / a2.natAbs) (mdBelow a0 a1 a2)).1, .int .i64 (mdSgn ((a0.natAbs : Int) * a1.natAbs / a2.natAbs) (mdBelow a0 a1 a2)).2]) ∧ Below w.heap.size w w' := by
  have hmf : ∀ (fn : Fn) (first cap : Array Value) (w : World), (Instr.makeFunc fn first cap).run Try.prog w = .ok (.func fn first cap) w := fun _ _ _ _ => rfl
  go_enter Try.func24, Try.ntmps24
  go_wp2_with (first | (go_at_call 48; refine (cents_size.walk _ _ (by omega) (by omega)).mono ?_; rintro e w' ⟨rfl, rfl⟩) | (go_at_call 47; refine (bits_Mul64.walk _ _ (by omega) (by omega) _).mono ?_; rintro e w' ⟨rfl, rfl⟩) | (go_at_call 49; refine (bits_Div64.walkp _ _ hh (by omega) _).mono ?_; rintro e w1 ⟨rfl, hd⟩) | (go_at_call 51; refine (cents_signed.calls _ _ _ _ _ (md_sgn _ _)).mono ?_; rintro e w2 ⟨rfl, hd2⟩) | (go_at_call 28; go_in) | (go_at_call 50; go_in) | (go_at_call 59; go_in))
  go_ret2
  exact ⟨rfl, md_end hd hd2⟩
set_option maxHeartbeats 4000000 in
set_option maxRecDepth 100000 in
theorem cents_MulDiv.r2 (a0 a1 a2 : Int) (w : World) (h1 : -1152921504606846976 ≤ a0) (h2 : a0 ≤ 1152921504606846976) (h3 : -1152921504606846976 ≤ a1) (h4 : a1 ≤ 1152921504606846976)
    (h5 : -1152921504606846976 ≤ a2) (h6 : a2 ≤ 1152921504606846976) (hc : (a2 == 0) = false)
    (hh : a0.natAbs * a1.natAbs / 18446744073709551616 < a2.natAbs) (hq : (a0.natAbs : Int) * a1.natAbs / a2.natAbs ≤ 1152921504606846976) (hr : 0 < (a0.natAbs : Int) * a1.natAbs % a2.natAbs) :
    Calls Try.prog 24 #[.int .i64 a0, .int .i64 a1, .int .i64 a2, .int .i64 2] w fun e w' => e = .returned (.tuple #[.int .i64 (mdSgn ((a0.natAbs : Int) * a1.natAbs / a2.natAbs + 1) (mdBelow a0 a1 a2)).1, .int .i64 (mdSgn ((a0.natAbs : Int) * a1.natAbs / a2.natAbs + 1) (mdBelow a0 a1 a2)).2]) ∧ Below w.heap.size w w' := by
  have hmf : ∀ (fn : Fn) (first cap : Array Value) (w : World), (Instr.makeFunc fn first cap).run Try.prog w = .ok (.func fn first cap) w := fun _ _ _ _ => rfl
  have hw : IntKind.u64.wrap ((a0.natAbs : Int) * a1.natAbs / a2.natAbs + 1) = (a0.natAbs : Int) * a1.natAbs / a2.natAbs + 1 := by
    have : 0 ≤ (a0.natAbs : Int) * a1.natAbs / a2.natAbs := Int.ediv_nonneg (Int.mul_nonneg (by omega) (by omega)) (by omega)
    rw [IntKind.wrap_u64]; omega
  go_enter Try.func24, Try.ntmps24
  go_wp2_with (first | (go_at_call 48; refine (cents_size.walk _ _ (by omega) (by omega)).mono ?_; rintro e w' ⟨rfl, rfl⟩) | (go_at_call 47; refine (bits_Mul64.walk _ _ (by omega) (by omega) _).mono ?_; rintro e w' ⟨rfl, rfl⟩) | (go_at_call 49; refine (bits_Div64.walkp _ _ hh (by omega) _).mono ?_; rintro e w1 ⟨rfl, hd⟩) | (go_at_call 51; refine (cents_signed.calls _ _ _ _ _ (md_sgn _ _)).mono ?_; rintro e w2 ⟨rfl, hd2⟩) | (go_at_call 28; go_in) | (go_at_call 50; go_in) | (go_at_call 59; go_in))
  go_ret2
  exact ⟨rfl, md_end hd hd2⟩
set_option maxHeartbeats 4000000 in
set_option maxRecDepth 100000 in
theorem cents_MulDiv.r3t (a0 a1 a2 : Int) (w : World) (h1 : -1152921504606846976 ≤ a0) (h2 : a0 ≤ 1152921504606846976) (h3 : -1152921504606846976 ≤ a1) (h4 : a1 ≤ 1152921504606846976)
    (h5 : -1152921504606846976 ≤ a2) (h6 : a2 ≤ 1152921504606846976) (hc : (a2 == 0) = false) (fb : (!((!(decide (a0 < 0) == decide (a1 < 0))) == decide (a2 < 0))) = true)
    (hh : a0.natAbs * a1.natAbs / 18446744073709551616 < a2.natAbs) (hq : (a0.natAbs : Int) * a1.natAbs / a2.natAbs ≤ 1152921504606846976) (hr : 0 < (a0.natAbs : Int) * a1.natAbs % a2.natAbs) :
    Calls Try.prog 24 #[.int .i64 a0, .int .i64 a1, .int .i64 a2, .int .i64 3] w fun e w' => e = .returned (.tuple #[.int .i64 (mdSgn ((a0.natAbs : Int) * a1.natAbs / a2.natAbs + 1) true).1, .int .i64 (mdSgn ((a0.natAbs : Int) * a1.natAbs / a2.natAbs + 1) true).2]) ∧ Below w.heap.size w w' := by
  have hmf : ∀ (fn : Fn) (first cap : Array Value) (w : World), (Instr.makeFunc fn first cap).run Try.prog w = .ok (.func fn first cap) w := fun _ _ _ _ => rfl
  have hw : IntKind.u64.wrap ((a0.natAbs : Int) * a1.natAbs / a2.natAbs + 1) = (a0.natAbs : Int) * a1.natAbs / a2.natAbs + 1 := by
    have : 0 ≤ (a0.natAbs : Int) * a1.natAbs / a2.natAbs := Int.ediv_nonneg (Int.mul_nonneg (by omega) (by omega)) (by omega)
    rw [IntKind.wrap_u64]; omega
  go_enter Try.func24, Try.ntmps24
  go_wp2_with (first | (go_at_call 48; refine (cents_size.walk _ _ (by omega) (by omega)).mono ?_; rintro e w' ⟨rfl, rfl⟩) | (go_at_call 47; refine (bits_Mul64.walk _ _ (by omega) (by omega) _).mono ?_; rintro e w' ⟨rfl, rfl⟩) | (go_at_call 49; refine (bits_Div64.walkp _ _ hh (by omega) _).mono ?_; rintro e w1 ⟨rfl, hd⟩) | (go_at_call 51; refine (cents_signed.calls _ _ _ _ _ (md_sgn _ _)).mono ?_; rintro e w2 ⟨rfl, hd2⟩) | (go_at_call 28; go_in) | (go_at_call 50; go_in) | (go_at_call 59; go_in))
  go_ret2
  exact ⟨rfl, md_end hd hd2⟩
set_option maxHeartbeats 4000000 in
set_option maxRecDepth 100000 in
theorem cents_MulDiv.r3f (a0 a1 a2 : Int) (w : World) (h1 : -1152921504606846976 ≤ a0) (h2 : a0 ≤ 1152921504606846976) (h3 : -1152921504606846976 ≤ a1) (h4 : a1 ≤ 1152921504606846976)
    (h5 : -1152921504606846976 ≤ a2) (h6 : a2 ≤ 1152921504606846976) (hc : (a2 == 0) = false) (fb : (!((!(decide (a0 < 0) == decide (a1 < 0))) == decide (a2 < 0))) = false)
    (hh : a0.natAbs * a1.natAbs / 18446744073709551616 < a2.natAbs) (hq : (a0.natAbs : Int) * a1.natAbs / a2.natAbs ≤ 1152921504606846976) (hr : 0 < (a0.natAbs : Int) * a1.natAbs % a2.natAbs) :
    Calls Try.prog 24 #[.int .i64 a0, .int .i64 a1, .int .i64 a2, .int .i64 3] w fun e w' => e = .returned (.tuple #[.int .i64 (mdSgn ((a0.natAbs : Int) * a1.natAbs / a2.natAbs) false).1, .int .i64 (mdSgn ((a0.natAbs : Int) * a1.natAbs / a2.natAbs) false).2]) ∧ Below w.heap.size w w' := by
  have hmf : ∀ (fn : Fn) (first cap : Array Value) (w : World), (Instr.makeFunc fn first cap).run Try.prog w = .ok (.func fn first cap) w := fun _ _ _ _ => rfl
  go_enter Try.func24, Try.ntmps24
  go_wp2_with (first | (go_at_call 48; refine (cents_size.walk _ _ (by omega) (by omega)).mono ?_; rintro e w' ⟨rfl, rfl⟩) | (go_at_call 47; refine (bits_Mul64.walk _ _ (by omega) (by omega) _).mono ?_; rintro e w' ⟨rfl, rfl⟩) | (go_at_call 49; refine (bits_Div64.walkp _ _ hh (by omega) _).mono ?_; rintro e w1 ⟨rfl, hd⟩) | (go_at_call 51; refine (cents_signed.calls _ _ _ _ _ (md_sgn _ _)).mono ?_; rintro e w2 ⟨rfl, hd2⟩) | (go_at_call 28; go_in) | (go_at_call 50; go_in) | (go_at_call 59; go_in))
  go_ret2
  exact ⟨rfl, md_end hd hd2⟩
set_option maxHeartbeats 4000000 in
set_option maxRecDepth 100000 in
theorem cents_MulDiv.r4t (a0 a1 a2 : Int) (w : World) (h1 : -1152921504606846976 ≤ a0) (h2 : a0 ≤ 1152921504606846976) (h3 : -1152921504606846976 ≤ a1) (h4 : a1 ≤ 1152921504606846976)
    (h5 : -1152921504606846976 ≤ a2) (h6 : a2 ≤ 1152921504606846976) (hc : (a2 == 0) = false) (fb : (!((!(decide (a0 < 0) == decide (a1 < 0))) == decide (a2 < 0))) = true)
    (hh : a0.natAbs * a1.natAbs / 18446744073709551616 < a2.natAbs) (hq : (a0.natAbs : Int) * a1.natAbs / a2.natAbs ≤ 1152921504606846976) (hr : 0 < (a0.natAbs : Int) * a1.natAbs % a2.natAbs) :
    Calls Try.prog 24 #[.int .i64 a0, .int .i64 a1, .int .i64 a2, .int .i64 4] w fun e w' => e = .returned (.tuple #[.int .i64 (mdSgn ((a0.natAbs : Int) * a1.natAbs / a2.natAbs) true).1, .int .i64 (mdSgn ((a0.natAbs : Int) * a1.natAbs / a2.natAbs) true).2]) ∧ Below w.heap.size w w' := by
  have hmf : ∀ (fn : Fn) (first cap : Array Value) (w : World), (Instr.makeFunc fn first cap).run Try.prog w = .ok (.func fn first cap) w := fun _ _ _ _ => rfl
  go_enter Try.func24, Try.ntmps24
  go_wp2_with (first | (go_at_call 48; refine (cents_size.walk _ _ (by omega) (by omega)).mono ?_; rintro e w' ⟨rfl, rfl⟩) | (go_at_call 47; refine (bits_Mul64.walk _ _ (by omega) (by omega) _).mono ?_; rintro e w' ⟨rfl, rfl⟩) | (go_at_call 49; refine (bits_Div64.walkp _ _ hh (by omega) _).mono ?_; rintro e w1 ⟨rfl, hd⟩) | (go_at_call 51; refine (cents_signed.calls _ _ _ _ _ (md_sgn _ _)).mono ?_; rintro e w2 ⟨rfl, hd2⟩) | (go_at_call 28; go_in) | (go_at_call 50; go_in) | (go_at_call 59; go_in))
  go_ret2
  exact ⟨rfl, md_end hd hd2⟩
set_option maxHeartbeats 4000000 in
set_option maxRecDepth 100000 in
theorem cents_MulDiv.r4f (a0 a1 a2 : Int) (w : World) (h1 : -1152921504606846976 ≤ a0) (h2 : a0 ≤ 1152921504606846976) (h3 : -1152921504606846976 ≤ a1) (h4 : a1 ≤ 1152921504606846976)
    (h5 : -1152921504606846976 ≤ a2) (h6 : a2 ≤ 1152921504606846976) (hc : (a2 == 0) = false) (fb : (!((!(decide (a0 < 0) == decide (a1 < 0))) == decide (a2 < 0))) = false)
    (hh : a0.natAbs * a1.natAbs / 18446744073709551616 < a2.natAbs) (hq : (a0.natAbs : Int) * a1.natAbs / a2.natAbs ≤ 1152921504606846976) (hr : 0 < (a0.natAbs : Int) * a1.natAbs % a2.natAbs) :
    Calls Try.prog 24 #[.int .i64 a0, .int .i64 a1, .int .i64 a2, .int .i64 4] w fun e w' => e = .returned (.tuple #[.int .i64 (mdSgn ((a0.natAbs : Int) * a1.natAbs / a2.natAbs + 1) false).1, .int .i64 (mdSgn ((a0.natAbs : Int) * a1.natAbs / a2.natAbs + 1) false).2]) ∧ Below w.heap.size w w' := by
  have hmf : ∀ (fn : Fn) (first cap : Array Value) (w : World), (Instr.makeFunc fn first cap).run Try.prog w = .ok (.func fn first cap) w := fun _ _ _ _ => rfl
  have hw : IntKind.u64.wrap ((a0.natAbs : Int) * a1.natAbs / a2.natAbs + 1) = (a0.natAbs : Int) * a1.natAbs / a2.natAbs + 1 := by
    have : 0 ≤ (a0.natAbs : Int) * a1.natAbs / a2.natAbs := Int.ediv_nonneg (Int.mul_nonneg (by omega) (by omega)) (by omega)
    rw [IntKind.wrap_u64]; omega
  go_enter Try.func24, Try.ntmps24
  go_wp2_with (first | (go_at_call 48; refine (cents_size.walk _ _ (by omega) (by omega)).mono ?_; rintro e w' ⟨rfl, rfl⟩) | (go_at_call 47; refine (bits_Mul64.walk _ _ (by omega) (by omega) _).mono ?_; rintro e w' ⟨rfl, rfl⟩) | (go_at_call 49; refine (bits_Div64.walkp _ _ hh (by omega) _).mono ?_; rintro e w1 ⟨rfl, hd⟩) | (go_at_call 51; refine (cents_signed.calls _ _ _ _ _ (md_sgn _ _)).mono ?_; rintro e w2 ⟨rfl, hd2⟩) | (go_at_call 28; go_in) | (go_at_call 50; go_in) | (go_at_call 59; go_in))
  go_ret2
  exact ⟨rfl, md_end hd hd2⟩
set_option maxHeartbeats 4000000 in
set_option maxRecDepth 100000 in
theorem cents_MulDiv.r5 (a0 a1 a2 : Int) (w : World) (h1 : -1152921504606846976 ≤ a0) (h2 : a0 ≤ 1152921504606846976) (h3 : -1152921504606846976 ≤ a1) (h4 : a1 ≤ 1152921504606846976)
    (h5 : -1152921504606846976 ≤ a2) (h6 : a2 ≤ 1152921504606846976) (hc : (a2 == 0) = false) (hb : Bool) (hhalf : Aside0 (mdHalf ((a0.natAbs : Int) * a1.natAbs / a2.natAbs) ((a0.natAbs : Int) * a1.natAbs % a2.natAbs) a2.natAbs = hb))
    (hh : a0.natAbs * a1.natAbs / 18446744073709551616 < a2.natAbs) (hq : (a0.natAbs : Int) * a1.natAbs / a2.natAbs ≤ 1152921504606846976) (hr : 0 < (a0.natAbs : Int) * a1.natAbs % a2.natAbs) :
    Calls Try.prog 24 #[.int .i64 a0, .int .i64 a1, .int .i64 a2, .int .i64 5] w fun e w' => e = .returned (.tuple #[.int .i64 (mdSgn (if hb = true then (a0.natAbs : Int) * a1.natAbs / a2.natAbs + 1 else (a0.natAbs : Int) * a1.natAbs / a2.natAbs) (mdBelow a0 a1 a2)).1, .int .i64 (mdSgn (if hb = true then (a0.natAbs : Int) * a1.natAbs / a2.natAbs + 1 else (a0.natAbs : Int) * a1.natAbs / a2.natAbs) (mdBelow a0 a1 a2)).2]) ∧ Below w.heap.size w w' := by
  have hmf : ∀ (fn : Fn) (first cap : Array Value) (w : World), (Instr.makeFunc fn first cap).run Try.prog w = .ok (.func fn first cap) w := fun _ _ _ _ => rfl
  have hw : IntKind.u64.wrap ((a0.natAbs : Int) * a1.natAbs / a2.natAbs + 1) = (a0.natAbs : Int) * a1.natAbs / a2.natAbs + 1 := by
    have : 0 ≤ (a0.natAbs : Int) * a1.natAbs / a2.natAbs := Int.ediv_nonneg (Int.mul_nonneg (by omega) (by omega)) (by omega)
    rw [IntKind.wrap_u64]; omega
  have hq0 : 0 ≤ (a0.natAbs : Int) * a1.natAbs / a2.natAbs := Int.ediv_nonneg (Int.mul_nonneg (by omega) (by omega)) (by omega)
  have hrc : (a0.natAbs : Int) * a1.natAbs % a2.natAbs < a2.natAbs := Int.emod_lt_of_pos _ (by omega)
  go_enter Try.func24, Try.ntmps24
  go_wp2_with (first | (go_at_call 48; refine (cents_size.walk _ _ (by omega) (by omega)).mono ?_; rintro e w' ⟨rfl, rfl⟩) | (go_at_call 47; refine (bits_Mul64.walk _ _ (by omega) (by omega) _).mono ?_; rintro e w' ⟨rfl, rfl⟩) | (go_at_call 49; refine (bits_Div64.walkp _ _ hh (by omega) _).mono ?_; rintro e w1 ⟨rfl, hd⟩) | (go_at_call 51; refine (cents_signed.calls _ _ _ _ _ (md_sgn _ _)).mono ?_; rintro e w2 ⟨rfl, hd2⟩) | (go_at_call 28; go_in) | (go_at_call 50; go_in))
  refine (cents_away1.half _ _ _ _ _ _ (by go_simp) (by omega) (by omega) (by omega) (by omega)).mono ?_
  rw [hhalf.out]
  rintro e w' ⟨rfl, rfl⟩
  cases hb
  · go_wp2_with (go_at_call 51; refine (cents_signed.calls _ _ _ _ _ (md_sgn _ _)).mono ?_; rintro e w2 ⟨rfl, hd2⟩)
    go_ret2
    exact ⟨rfl, md_end hd hd2⟩
  · go_wp2_with (go_at_call 51; refine (cents_signed.calls _ _ _ _ _ (md_sgn _ _)).mono ?_; rintro e w2 ⟨rfl, hd2⟩)
    go_ret2
    exact ⟨rfl, md_end hd hd2⟩

theorem md_calc {a b c mode : Int} (q : Int) (h : mdQ a b c mode = q) (h0 : 0 ≤ q) : mdSgn q (mdBelow a b c) = mdRes a b c mode := by
  unfold mdRes
  rw [h, md_sgn_eq q _ h0]
def cents_MulDiv.f (a0 a1 a2 a3 : Int) : Option (Int × Int) :=
  if mdFits a0 ∧ mdFits a1 ∧ mdFits a2 ∧ 1 ≤ a3 ∧ a3 ≤ 5 then
    if a2 = 0 then some (0, 4) else some (mdRes a0 a1 a2 a3)
  else some (0, 2)
theorem cents_MulDiv.res (a0 a1 a2 a3 : Int) (w : World) (h1 : -1152921504606846976 ≤ a0) (h2 : a0 ≤ 1152921504606846976) (h3 : -1152921504606846976 ≤ a1) (h4 : a1 ≤ 1152921504606846976)
    (h5 : -1152921504606846976 ≤ a2) (h6 : a2 ≤ 1152921504606846976) (hc : (a2 == 0) = false) (m1 : 1 ≤ a3) (m2 : a3 ≤ 5) :
    Calls Try.prog 24 #[.int .i64 a0, .int .i64 a1, .int .i64 a2, .int .i64 a3] w fun e w' => e = .returned (.tuple #[.int .i64 (mdRes a0 a1 a2 a3).1, .int .i64 (mdRes a0 a1 a2 a3).2]) ∧ Below w.heap.size w w' := by
  have hc' : a2 ≠ 0 := by simpa using hc
  have hq0 : 0 ≤ (a0.natAbs : Int) * a1.natAbs / a2.natAbs := Int.ediv_nonneg (Int.mul_nonneg (by omega) (by omega)) (by omega)
  by_cases hh : a0.natAbs * a1.natAbs / 18446744073709551616 < a2.natAbs
  · by_cases hq : (a0.natAbs : Int) * a1.natAbs / a2.natAbs ≤ 1152921504606846976
    · by_cases hr : 0 < (a0.natAbs : Int) * a1.natAbs % a2.natAbs
      · have up : mdAway a3 (mdBelow a0 a1 a2) ((a0.natAbs : Int) * a1.natAbs / a2.natAbs) ((a0.natAbs : Int) * a1.natAbs % a2.natAbs) a2.natAbs = true → mdQ a0 a1 a2 a3 = (a0.natAbs : Int) * a1.natAbs / a2.natAbs + 1 := fun h => by unfold mdQ; rw [if_pos ⟨hr, h⟩]
        have dn : mdAway a3 (mdBelow a0 a1 a2) ((a0.natAbs : Int) * a1.natAbs / a2.natAbs) ((a0.natAbs : Int) * a1.natAbs % a2.natAbs) a2.natAbs = false → mdQ a0 a1 a2 a3 = (a0.natAbs : Int) * a1.natAbs / a2.natAbs := fun h => by unfold mdQ; rw [if_neg (fun h' => by rw [h] at h'; cases h'.2)]
        obtain rfl | rfl | rfl | rfl | rfl : a3 = 1 ∨ a3 = 2 ∨ a3 = 3 ∨ a3 = 4 ∨ a3 = 5 := by omega
        · rw [← md_calc _ (dn (by unfold mdAway; rfl)) hq0]
          exact cents_MulDiv.r1 a0 a1 a2 w h1 h2 h3 h4 h5 h6 hc hh hq hr
        · rw [← md_calc _ (up (by unfold mdAway; rfl)) (by omega)]
          exact cents_MulDiv.r2 a0 a1 a2 w h1 h2 h3 h4 h5 h6 hc hh hq hr
        · cases fb : mdBelow a0 a1 a2
          · rw [← md_calc _ (dn (by unfold mdAway; rw [fb]; rfl)) hq0, fb]
            exact cents_MulDiv.r3f a0 a1 a2 w h1 h2 h3 h4 h5 h6 hc fb hh hq hr
          · rw [← md_calc _ (up (by unfold mdAway; rw [fb]; rfl)) (by omega), fb]
            exact cents_MulDiv.r3t a0 a1 a2 w h1 h2 h3 h4 h5 h6 hc fb hh hq hr
        · cases fb : mdBelow a0 a1 a2
          · rw [← md_calc _ (up (by unfold mdAway; rw [fb]; rfl)) (by omega), fb]
            exact cents_MulDiv.r4f a0 a1 a2 w h1 h2 h3 h4 h5 h6 hc fb hh hq hr
          · rw [← md_calc _ (dn (by unfold mdAway; rw [fb]; rfl)) hq0, fb]
            exact cents_MulDiv.r4t a0 a1 a2 w h1 h2 h3 h4 h5 h6 hc fb hh hq hr
        · cases hb : mdHalf ((a0.natAbs : Int) * a1.natAbs / a2.natAbs) ((a0.natAbs : Int) * a1.natAbs % a2.natAbs) a2.natAbs
          · rw [← md_calc _ (dn (by unfold mdAway; exact hb)) hq0]
            exact cents_MulDiv.r5 a0 a1 a2 w h1 h2 h3 h4 h5 h6 hc false (Aside0.mk hb) hh hq hr
          · rw [← md_calc _ (up (by unfold mdAway; exact hb)) (by omega)]
            exact cents_MulDiv.r5 a0 a1 a2 w h1 h2 h3 h4 h5 h6 hc true (Aside0.mk hb) hh hq hr
      · have e : mdQ a0 a1 a2 a3 = (a0.natAbs : Int) * a1.natAbs / a2.natAbs := by unfold mdQ; rw [if_neg (fun h => hr h.1)]
        rw [← md_calc _ e hq0]
        exact cents_MulDiv.m0 a0 a1 a2 a3 w h1 h2 h3 h4 h5 h6 hc m1 m2 hh hq (by omega)
    · have e : mdRes a0 a1 a2 a3 = (0, 3) := by unfold mdRes; rw [if_pos (by unfold mdQ; split <;> omega)]
      rw [e]
      exact cents_MulDiv.o2 a0 a1 a2 a3 w h1 h2 h3 h4 h5 h6 hc m1 m2 hh (by omega)
  · have hbig : 1152921504606846976 < (a0.natAbs : Int) * a1.natAbs / a2.natAbs := by
      have h7 : a2.natAbs * 18446744073709551616 ≤ a0.natAbs * a1.natAbs := (Nat.le_div_iff_mul_le (by omega)).1 (by omega)
      have h8 : 18446744073709551616 ≤ a0.natAbs * a1.natAbs / a2.natAbs := (Nat.le_div_iff_mul_le (by omega)).2 (by rw [Nat.mul_comm]; exact h7)
      have h9 : ((a0.natAbs * a1.natAbs / a2.natAbs : Nat) : Int) = (a0.natAbs : Int) * a1.natAbs / a2.natAbs := by simp
      omega
    have e : mdRes a0 a1 a2 a3 = (0, 3) := by unfold mdRes; rw [if_pos (by unfold mdQ; split <;> omega)]
    rw [e]
    have h9 : ((a0.natAbs * a1.natAbs : Nat) : Int) = (a0.natAbs : Int) * a1.natAbs := Int.natCast_mul _ _
    exact cents_MulDiv.o1 a0 a1 a2 a3 w h1 h2 h3 h4 h5 h6 hc m1 m2 (by omega)
theorem cents_MulDiv.calls (a0 a1 a2 a3 r1 r2 : Int) (w : World) (h : cents_MulDiv.f a0 a1 a2 a3 = some (r1, r2)) :
    Calls Try.prog 24 #[.int .i64 a0, .int .i64 a1, .int .i64 a2, .int .i64 a3] w fun e w' => e = .returned (.tuple #[.int .i64 r1, .int .i64 r2]) ∧ Below w.heap.size w w' := by
  unfold cents_MulDiv.f at h
  by_cases c : mdFits a0 ∧ mdFits a1 ∧ mdFits a2 ∧ 1 ≤ a3 ∧ a3 ≤ 5
  · rw [if_pos c] at h
    obtain ⟨⟨c1, c2⟩, ⟨c3, c4⟩, ⟨c5, c6⟩, c7, c8⟩ := c
    by_cases d : a2 = 0
    · rw [if_pos d] at h
      have h' := Option.some.inj h
      simp only [Prod.mk.injEq] at h'
      obtain ⟨rfl, rfl⟩ := h'
      exact cents_MulDiv.z a0 a1 a2 a3 w c1 c2 c3 c4 c5 c6 (by simpa using d) c7 c8
    · rw [if_neg d] at h
      have h' := Option.some.inj h
      have e1 : (mdRes a0 a1 a2 a3).1 = r1 := by rw [h']
      have e2 : (mdRes a0 a1 a2 a3).2 = r2 := by rw [h']
      rw [← e1, ← e2]
      exact cents_MulDiv.res a0 a1 a2 a3 w c1 c2 c3 c4 c5 c6 (by simpa using d) c7 c8
  · rw [if_neg c] at h
    have h' := Option.some.inj h
    simp only [Prod.mk.injEq] at h'
    obtain ⟨rfl, rfl⟩ := h'
    refine (cents_MulDiv.bad a0 a1 a2 a3 w c).mono ?_
    rintro e w' ⟨rfl, rfl⟩
    exact ⟨rfl, Below.refl _ _⟩

end Go.Proofs.Ytffdehnmoimikaa.Pr
