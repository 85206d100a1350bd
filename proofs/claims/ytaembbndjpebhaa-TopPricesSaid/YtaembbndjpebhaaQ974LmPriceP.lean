/- Products: which may be, and which prices may be of one. -/
import Derived.Test.YtaembbndjpebhaaQ974LmCents
import Derived.Test.YtaembbndjpebhaaQ974LmCurveChk
import Derived.Test.YtaembbndjpebhaaQ974LmName
import Derived.Test.YtaembbndjpebhaaQ974P3
import Derived.Test.YtaembbndjpebhaaQ974P1
import Derived.Test.YtaembbndjpebhaaQ974P0
import Derived.Test.YtaembbndjpebhaaQ974P2
namespace Go.Proofs.Ytaembbndjpebhaa.Pr
open Go.RowKit Go.Proofs.Ytaembbndjpebhaa.Pr Go.Proofs.YtaembbndjpebhaaW.PrintWords Go.Proofs.YtaembbndjpebhaaW.PrintLast Go.Proofs.YtaembbndjpebhaaW.PrintMore
set_option linter.unusedVariables false
set_option linter.unusedSimpArgs false
def pchk (s : ByteArray) (cu mu ti lo hi : Int) (b : Bool) : Int :=
 if (s.toList == ([] : List UInt8) && (cu == 0 && (mu == 0 && (ti == 0 && (lo == 0 && (hi == 0 && (!b))))))) = true ∨ nameOk s = false then 10
 else if cu < 0 ∨ cu ≥ 8 then 25 else if mu < 1 ∨ mu > 4096 then 2 else if ti < 1 ∨ ti > 16777216 then 16
 else if QaV lo ∧ QaV hi ∧ lo ≤ hi ∧ Int.tmod lo ti = 0 ∧ Int.tmod hi ti = 0 then 0 else 17
theorem pin_eq (a m : Int) (h0 : 0 ≤ m) (h1 : m ≤ 1152921504606846976) : QaG.f a m = some (decide (-m ≤ a ∧ a ≤ m)) := by
 unfold QaG.f
 rw [IntWalk.wrap64_in (-m) (by omega)]
 by_cases h : a ≥ -m
 ·rw [if_pos h]
  by_cases h2 : a ≤ m
  ·rw [decide_eq_true h2, decide_eq_true ⟨h, h2⟩]
  rw [decide_eq_false h2, decide_eq_false (fun x => h2 x.2)]
 rw [if_neg h, decide_eq_false (fun x => h x.1)]
theorem QbD {α : Type} {P Q : Prop} [Decidable P] [Decidable Q] (F : Bool → α) : (if P then F true else F (decide Q)) = F (decide (P ∨ Q)) := by
 by_cases h : P
 ·rw [if_pos h, decide_eq_true (Or.inl h)]
 rw [if_neg h]
 congr 1
 by_cases q : Q
 ·rw [decide_eq_true q, decide_eq_true (Or.inr q)]
 rw [decide_eq_false q, decide_eq_false (fun x => x.elim h q)]
theorem QbU (s : ByteArray) (cu mu ti lo hi : Int) (b : Bool) (k : Nat) (hk : 30 ≤ k) : Qan.f k s cu mu ti lo hi b = some (pchk s cu mu ti lo hi b) := by
 obtain ⟨k, rfl⟩ : ∃ m, k = m + 1 + 1 + 1 + 1 := ⟨k - 4, by omega⟩
 have hj : ∀ x : Bool, Qan.j0 (k + 1 + 1 + 1 + 1) x s cu mu ti lo hi b = some (if x = true then 10 else if cu < 0 ∨ cu ≥ 8 then 25 else if mu < 1 ∨ mu > 4096 then 2 else if ti < 1 ∨ ti > 16777216 then 16
   else if QaV lo ∧ QaV hi ∧ lo ≤ hi ∧ Int.tmod lo ti = 0 ∧ Int.tmod hi ti = 0 then 0 else 17) := by
  intro x
  rw [Qan.j0]
  cases x with
  | true => rw [if_pos rfl, if_pos rfl]
  | false =>
   rw [if_neg (show ¬ (false = true) by simp), if_neg (show ¬ (false = true) by simp), QbD (fun b' => Qan.j1 (k + 1 + 1 + 1) b' s cu mu ti lo hi b), Qan.j1]
   by_cases c1 : cu < 0 ∨ cu ≥ 8
   ·rw [decide_eq_true c1, if_pos rfl, if_pos c1]
   rw [decide_eq_false c1, if_neg (show ¬ (false = true) by simp), if_neg c1, QbD (fun b' => Qan.j2 (k + 1 + 1) b' s cu mu ti lo hi b), Qan.j2]
   by_cases c2 : mu < 1 ∨ mu > 4096
   ·rw [decide_eq_true c2, if_pos rfl, if_pos c2]
   rw [decide_eq_false c2, if_neg (show ¬ (false = true) by simp), if_neg c2, QbD (fun b' => Qan.j3 (k + 1) b' s cu mu ti lo hi b), Qan.j3]
   by_cases c3 : ti < 1 ∨ ti > 16777216
   ·rw [decide_eq_true c3, if_pos rfl, if_pos c3]
   rw [decide_eq_false c3, if_neg (show ¬ (false = true) by simp), if_neg c3, pin_eq lo _ (by omega) (by omega), Option.bind_some, pin_eq hi _ (by omega) (by omega), Option.bind_some]
   by_cases d1 : QaV lo
   ·rw [decide_eq_true (show -16777216 ≤ lo ∧ lo ≤ 16777216 from d1), if_pos rfl]
    by_cases d2 : QaV hi
    ·rw [decide_eq_true (show -16777216 ≤ hi ∧ hi ≤ 16777216 from d2), if_pos rfl]
     by_cases d3 : lo > hi
     ·rw [if_pos d3, if_neg (by omega)]
     rw [if_neg d3, if_neg (by omega)]
     by_cases d4 : Int.tmod lo ti = 0
     ·rw [if_pos d4]
      by_cases d5 : Int.tmod hi ti = 0
      ·rw [if_pos d5, if_pos ⟨d1, d2, by omega, d4, d5⟩]
      rw [if_neg d5, if_neg (fun h => d5 h.2.2.2.2)]
     rw [if_neg d4, if_neg (fun h => d4 h.2.2.2.1)]
    rw [decide_eq_false (show ¬ (-16777216 ≤ hi ∧ hi ≤ 16777216) from d2), if_neg (by simp), if_neg (fun h => d2 h.2.1)]
   rw [decide_eq_false (show ¬ (-16777216 ≤ lo ∧ lo ≤ 16777216) from d1), if_neg (by simp), if_neg (fun h => d1 h.1)]
 unfold Qan.f pchk
 by_cases c : (s.toList == ([] : List UInt8) && (cu == 0 && (mu == 0 && (ti == 0 && (lo == 0 && (hi == 0 && (!b))))))) = true
 ·rw [if_pos c, hj true, if_pos rfl, if_pos (Or.inl c)]
 rw [if_neg c, Qel s _ (by omega), Option.bind_some, hj]
 cases hn : nameOk s with
 | true => rw [if_neg (show ¬ ((!true) = true) by simp), if_neg (show ¬ (_ ∨ true = false) from fun h => h.elim c (by simp))]
 | false => rw [if_pos (show (!false) = true from rfl), if_pos (Or.inr rfl)]
theorem Qb4 {s : ByteArray} {cu mu ti lo hi : Int} {b : Bool} (h : pchk s cu mu ti lo hi b = 0) : 1 ≤ mu ∧ mu ≤ 4096 ∧ 1 ≤ ti ∧ ti ≤ 16777216 ∧ QaV lo ∧ QaV hi ∧ lo ≤ hi ∧ ti ∣ lo ∧ ti ∣ hi := by
 unfold pchk at h
 split at h
 ·cases h
 split at h
 ·cases h
 split at h
 ·cases h
 split at h
 ·cases h
 split at h
 ·rename_i h2 h3 h4
  obtain ⟨d1, d2, d3, d4, d5⟩ := h4
  exact ⟨by omega, by omega, by omega, by omega, d1, d2, d3, Int.dvd_of_tmod_eq_zero d4, Int.dvd_of_tmod_eq_zero d5⟩
 cases h
def validP (ti lo hi n : Int) : Prop := lo ≤ n ∧ n ≤ hi ∧ ti ∣ n
theorem Qcx (s : ByteArray) (cu mu ti lo hi : Int) (b : Bool) (n : Int) (k : Nat) (hk : 31 ≤ k) : ∃ r, Qau.f k s cu mu ti lo hi b n = some r ∧ (r = 0 → validP ti lo hi n) := by
 obtain ⟨k, rfl⟩ : ∃ m, k = m + 1 := ⟨k - 1, by omega⟩
 unfold Qau.f
 rw [QbU _ _ _ _ _ _ _ (k + 1) (by omega), Option.bind_some]
 by_cases h : pchk s cu mu ti lo hi b = 0
 ·obtain ⟨_, _, t1, _, _, _, _, _, _⟩ := Qb4 h
  rw [if_pos h, QbD (fun b' => Qau.j0 (k + 1) n b' s cu mu ti lo hi b), Qau.j0]
  by_cases c : n < lo ∨ n > hi
  ·exact ⟨17, by rw [decide_eq_true c, if_pos rfl], fun e => by cases e⟩
  rw [decide_eq_false c, if_neg (by simp), if_neg (by omega)]
  by_cases d : Int.tmod n ti = 0
  ·exact ⟨0, by rw [if_pos d], fun _ => ⟨by omega, by omega, Int.dvd_of_tmod_eq_zero d⟩⟩
  exact ⟨16, by rw [if_neg d], fun e => by cases e⟩
 exact ⟨_, by rw [if_neg h], fun e => absurd e h⟩
theorem QcR {s : ByteArray} {cu mu ti lo hi : Int} {b : Bool} (h : pchk s cu mu ti lo hi b = 0) {n : Int} (hv : validP ti lo hi n) (k : Nat) (hk : 31 ≤ k) : Qau.f k s cu mu ti lo hi b n = some 0 := by
 obtain ⟨k, rfl⟩ : ∃ m, k = m + 1 := ⟨k - 1, by omega⟩
 obtain ⟨_, _, t1, _, _, _, _, _, _⟩ := Qb4 h
 unfold Qau.f
 rw [QbU _ _ _ _ _ _ _ (k + 1) (by omega), Option.bind_some, if_pos h, QbD (fun b' => Qau.j0 (k + 1) n b' s cu mu ti lo hi b), Qau.j0, decide_eq_false (by have := hv.1; have := hv.2.1; omega), if_neg (by simp), if_neg (by omega), if_pos (Int.tmod_eq_zero_of_dvd hv.2.2)]
theorem Qci {ti lo hi n : Int} (hlh : lo ≤ hi) (hl : ti ∣ lo) (hh : ti ∣ hi) (hn : ti ∣ n) : validP ti lo hi (clampS n lo hi) := by
 unfold clampS validP
 split
 ·exact ⟨Int.le_refl _, hlh, hl⟩
 split
 ·exact ⟨hlh, Int.le_refl _, hh⟩
 exact ⟨by omega, by omega, hn⟩
def pvalS (s : ByteArray) (cu mu ti lo hi : Int) (b : Bool) (pr q : Int) : Int × Int := if pchk s cu mu ti lo hi b = 0 then (if -33554432 ≤ pr ∧ pr ≤ 33554432 then (if -1048576 ≤ q ∧ q ≤ 1048576 then (wrap64 (wrap64 (pr * mu) * q), 0) else (0, 18)) else (0, 17)) else (0, pchk s cu mu ti lo hi b)
theorem Qdk (s : ByteArray) (cu mu ti lo hi : Int) (b : Bool) (pr q : Int) (k : Nat) (hk : 30 ≤ k) : QaR.f k s cu mu ti lo hi b pr q = some (pvalS s cu mu ti lo hi b pr q) := by
 unfold QaR.f pvalS
 rw [QbU _ _ _ _ _ _ _ k hk, Option.bind_some, pin_eq pr _ (by omega) (by omega), pin_eq q _ (by omega) (by omega)]
 by_cases h : pchk s cu mu ti lo hi b = 0
 ·rw [if_pos h, if_pos h, Option.bind_some]
  by_cases h1 : -33554432 ≤ pr ∧ pr ≤ 33554432
  ·rw [decide_eq_true h1, if_pos rfl, if_pos h1, Option.bind_some]
   by_cases h2 : -1048576 ≤ q ∧ q ≤ 1048576
   ·rw [decide_eq_true h2, if_pos rfl, if_pos h2]
   rw [decide_eq_false h2, if_neg (by simp), if_neg h2]
  rw [decide_eq_false h1, if_neg (by simp), if_neg h1]
 rw [if_neg h, if_neg h]
theorem QcV (n : Int) : Qbd.f n = some (decide (QaV n)) := Qcc n
theorem Qcb (n : Int) : Qa0.f n = some (decide (QaV n)) := Qcc n
theorem Qct (s : ByteArray) (cu mu ti lo hi : Int) (b : Bool) (net a c : Int) (k : Nat) (hk : 30 ≤ k) : QaW.f k s cu mu ti lo hi b net a c = some (if pchk s cu mu ti lo hi b = 0 then (if QaV a ∧ QaV c then pvalS s cu mu ti lo hi b (wrap64 (c - a)) net else (0, 17)) else (0, pchk s cu mu ti lo hi b)) := by
 unfold QaW.f Qbf.f
 rw [QbU _ _ _ _ _ _ _ k hk, Option.bind_some, QcV, QcV, Qdk _ _ _ _ _ _ _ _ _ k hk]
 by_cases h : pchk s cu mu ti lo hi b = 0
 ·rw [if_pos h, if_pos h, Option.bind_some]
  by_cases h1 : QaV a
  ·rw [decide_eq_true h1, if_pos rfl, Option.bind_some]
   by_cases h2 : QaV c
   ·rw [decide_eq_true h2, if_pos rfl, if_pos ⟨h1, h2⟩]; rfl
   rw [decide_eq_false h2, if_neg (by simp), if_neg (fun x => h2 x.2)]; rfl
  rw [decide_eq_false h1, if_neg (by simp), if_neg (fun x => h1 x.1)]; rfl
 rw [if_neg h, if_neg h]; rfl
theorem goes10 (k : Nat) (hk : 30 ≤ k) : Qav.f k = some true := by
 have e : pchk (⟨#[111, 105, 108]⟩ : ByteArray) 0 100 1 0 1000 false = 0 := by decide +kernel
 have e2 : pvalS (⟨#[111, 105, 108]⟩ : ByteArray) 0 100 1 0 1000 false (wrap64 (47 - 50)) 3 = (-900, 0) := by
  unfold pvalS
  rw [if_pos e, IntWalk.wrap64_in (47 - 50) (by omega), if_pos (by omega), if_pos (by omega), IntWalk.wrap64_in ((47 - 50) * 100) (by omega), IntWalk.wrap64_in ((47 - 50) * 100 * 3) (by omega)]
  rfl
 unfold Qav.f
 rw [Qct _ _ _ _ _ _ _ _ _ _ k hk, if_pos e, if_pos ⟨⟨by omega, by omega⟩, ⟨by omega, by omega⟩⟩, e2]
 rfl
end Go.Proofs.Ytaembbndjpebhaa.Pr
