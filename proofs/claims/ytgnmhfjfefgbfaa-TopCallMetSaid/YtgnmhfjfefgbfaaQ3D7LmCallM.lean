/- A call that is made, met and looked at. -/
import Derived.Test.YtgnmhfjfefgbfaaQ3D7LmName
import Derived.Test.YtgnmhfjfefgbfaaQ3D7LmSums
import Derived.Test.YtgnmhfjfefgbfaaQ3D7P0
import Derived.Test.YtgnmhfjfefgbfaaQ3D7P2
import Derived.Test.YtgnmhfjfefgbfaaQ3D7P4
import Derived.Test.YtgnmhfjfefgbfaaQ3D7P5
import Derived.Test.YtgnmhfjfefgbfaaQ3D7P6
namespace Go.Proofs.Ytgnmhfjfefgbfaa.Pr
open Go.RowKit Go.Proofs.Ytgnmhfjfefgbfaa.Pr Go.Proofs.YtgnmhfjfefgbfaaW.PrintWords Go.Proofs.YtgnmhfjfefgbfaaW.PrintLast Go.Proofs.YtgnmhfjfefgbfaaW.PrintMore
set_option linter.unusedVariables false
set_option linter.unusedSimpArgs false
theorem goes19 (k : Nat) (hk : 9000 ≤ k) : QaF.f k = some true := QeY QaF.mono (show 400 ≤ k by omega) (by decide +kernel)
abbrev Cll := S226
def askS (a b : ByteArray) (n m d : Int) : Int := if nameOk a = true ∧ nameOk b = true then (if (1 ≤ n ∧ n ≤ 1152921504606846976) ∧ 0 ≤ m ∧ m ≤ n then (if 0 ≤ d ∧ d ≤ 73048 then 0 else 15) else 2) else 10
theorem Qf5 (d : Int) : QbY.f d = some (decide (0 ≤ d ∧ d ≤ 73048)) := by
 unfold QbY.f
 by_cases h : d ≥ 0
 ·rw [if_pos h]; congr 1; rw [decide_eq_decide]; omega
 rw [if_neg h]; congr 1; rw [eq_comm, decide_eq_false_iff_not]; omega
theorem askj1 (d : Int) (k : Nat) (t : Bool) : QaK.j1 (k + 1) d t = some (if t = true then 2 else if 0 ≤ d ∧ d ≤ 73048 then 0 else 15) := by
 rw [QaK.j1, Qf5, Option.bind_some]
 cases t with
 | true => rfl
 | false =>
  simp only [decide_eq_true_eq]
  by_cases h : 0 ≤ d ∧ d ≤ 73048
  ·simp [h]
  simp [h]
theorem askj0 (a b : ByteArray) (n m d : Int) (k : Nat) (t : Bool) (ht : t = true ↔ ¬ (nameOk a = true ∧ nameOk b = true)) : QaK.j0 (k + 2) n m d t = some (askS a b n m d) := by
 unfold askS
 rw [QaK.j0]
 simp only [askj1]
 by_cases h : nameOk a = true ∧ nameOk b = true
 ·have e : ¬ t = true := fun q => ht.1 q h
  rw [if_neg e, if_pos h]
  by_cases h1 : n < 1
  ·rw [if_pos h1, if_pos trivial, if_neg (show ¬ ((1 ≤ n ∧ n ≤ 1152921504606846976) ∧ 0 ≤ m ∧ m ≤ n) by omega)]
  rw [if_neg h1]
  by_cases h2 : n > 1152921504606846976
  ·rw [if_pos h2, if_pos trivial, if_neg (show ¬ ((1 ≤ n ∧ n ≤ 1152921504606846976) ∧ 0 ≤ m ∧ m ≤ n) by omega)]
  rw [if_neg h2]
  by_cases h3 : m < 0
  ·rw [if_pos h3, if_pos trivial, if_neg (show ¬ ((1 ≤ n ∧ n ≤ 1152921504606846976) ∧ 0 ≤ m ∧ m ≤ n) by omega)]
  rw [if_neg h3]
  by_cases h4 : m > n
  ·rw [decide_eq_true h4, if_pos rfl, if_neg (show ¬ ((1 ≤ n ∧ n ≤ 1152921504606846976) ∧ 0 ≤ m ∧ m ≤ n) by omega)]
  rw [decide_eq_false h4, if_neg (by decide), if_pos (show (1 ≤ n ∧ n ≤ 1152921504606846976) ∧ 0 ≤ m ∧ m ≤ n by omega)]
 rw [if_pos (ht.2 h), if_neg h]
theorem Qd8 (a b : ByteArray) (n m d : Int) (k : Nat) (hk : 30 ≤ k) : QaK.f k a b n m d = some (askS a b n m d) := by
 obtain ⟨k, rfl⟩ : ∃ q, k = q + 2 := ⟨k - 2, by omega⟩
 unfold QaK.f
 rw [QcL a _ (by omega), Option.bind_some, QcL b _ (by omega)]
 cases hA : nameOk a with
 | false => rw [if_neg (by decide)]; exact askj0 a b n m d k true (by simp [hA])
 | true =>
  rw [if_pos rfl, Option.bind_some]
  cases hB : nameOk b with
  | false => exact askj0 a b n m d k _ (by simp [hA, hB])
  | true => exact askj0 a b n m d k _ (by simp [hA, hB])
theorem QeJ (k : Nat) (hk : 3 ≤ k) : QaL.f k [] = some 0 := by
 obtain ⟨k, rfl⟩ : ∃ q, k = q + 1 := ⟨k - 1, by omega⟩
 unfold QaL.f
 rw [if_neg (by simp), QaL.l0, if_neg (by simp)]
theorem Qcr (a b : ByteArray) (n d m : Int) (h : askS a b n m d = 0) (k : Nat) (hk : 60 ≤ k) : QaL.f k [(⟨1, ⟨a, b⟩, n, d, m⟩ : Cll)] = some 0 := by
 obtain ⟨k, rfl⟩ : ∃ q, k = q + 3 := ⟨k - 3, by omega⟩
 have e : Qan [(⟨1, ⟨a, b⟩, n, d, m⟩ : Cll)] 0 = ⟨1, ⟨a, b⟩, n, d, m⟩ := rfl
 unfold QaL.f
 rw [if_neg (by simp), QaL.l0, if_pos (by simp), if_pos (by simp), if_pos (by simp), e]
 dsimp only
 rw [if_neg (by simp), decide_eq_false (by decide), QaL.j1, if_neg (by decide), Qd8 a b n m d _ (by omega), Option.bind_some, h, if_pos rfl, show wrap64 (0 + 1) = 1 from IntWalk.wrap64_in _ (by omega), QaL.l0, if_neg (by simp)]
theorem Qgl (a b : ByteArray) (n d : Int) (k : Nat) (hk : 60 ≤ k) : Qbh.f k [] a b n d = some (if askS a b n 0 d = 0 then ([(⟨1, ⟨a, b⟩, n, d, 0⟩ : Cll)], 1, 0) else ([], 0, askS a b n 0 d)) := by
 unfold Qbh.f
 rw [QeJ k (by omega), Option.bind_some, if_pos rfl, Qd8 a b n 0 d k (by omega), Option.bind_some]
 by_cases h : askS a b n 0 d = 0
 ·rw [if_pos h, if_neg (by simp), if_neg (by simp), if_pos h]
  simp [QaA.f]
 rw [if_neg h, if_neg h]
theorem Qgo (a b : ByteArray) (n d wv : Int) (h : askS a b n 0 d = 0) (hw : n ≤ wv ∧ wv ≤ 1152921504606846976) (k : Nat) (hk : 60 ≤ k) : Qbs.f k [(⟨1, ⟨a, b⟩, n, d, 0⟩ : Cll)] a b wv = some ([(⟨1, ⟨a, b⟩, n, d, n⟩ : Cll)], wv - n, 0) := by
 have hn : 1 ≤ n ∧ n ≤ 1152921504606846976 := by
  unfold askS at h
  by_cases h1 : nameOk a = true ∧ nameOk b = true
  ·rw [if_pos h1] at h
   by_cases h2 : (1 ≤ n ∧ n ≤ 1152921504606846976) ∧ 0 ≤ (0 : Int) ∧ 0 ≤ n
   ·exact h2.1
   rw [if_neg h2] at h; cases h
  rw [if_neg h1] at h; cases h
 have e1 : wrap64 (n - 0) = n := IntWalk.wrap64_in (n - 0) (by omega) |>.trans (by omega)
 have e2 : mn wv n = n := by unfold mn; split <;> omega
 have e3 : wrap64 (0 + n) = n := (IntWalk.wrap64_in (0 + n) (by omega)).trans (by omega)
 have e4 : wrap64 (wv - n) = wv - n := IntWalk.wrap64_in (wv - n) (by omega)
 unfold Qbs.f
 rw [Qcr a b n d 0 h k hk, Option.bind_some, if_pos rfl, if_pos (by omega)]
 dsimp only
 rw [e1, e2, e3, e4, if_pos ⟨⟨rfl, rfl⟩, by omega⟩]
theorem met_ok {a b : ByteArray} {n d : Int} (h : askS a b n 0 d = 0) : askS a b n n d = 0 := by
 unfold askS at h ⊢
 by_cases h1 : nameOk a = true ∧ nameOk b = true
 ·rw [if_pos h1] at h ⊢
  by_cases h2 : (1 ≤ n ∧ n ≤ 1152921504606846976) ∧ 0 ≤ (0 : Int) ∧ 0 ≤ n
  ·rw [if_pos h2] at h
   rw [if_pos (by omega)]; exact h
  rw [if_neg h2] at h; cases h
 rw [if_neg h1] at h; cases h
theorem Qc8 (n : Int) : wrap64 (n - n) = 0 := (IntWalk.wrap64_in (n - n) (by omega)).trans (by omega)
theorem Qgs (a b : ByteArray) (n d : Int) (h : askS a b n 0 d = 0) (k : Nat) (hk : 60 ≤ k) : Qbd.f k [(⟨1, ⟨a, b⟩, n, d, n⟩ : Cll)] a b = some (0, 0) := by
 obtain ⟨k, rfl⟩ : ∃ q, k = q + 2 := ⟨k - 2, by omega⟩
 have e : Qan [(⟨1, ⟨a, b⟩, n, d, n⟩ : Cll)] 0 = ⟨1, ⟨a, b⟩, n, d, n⟩ := rfl
 unfold Qbd.f
 rw [Qcr a b n d n (met_ok h) _ (by omega), Option.bind_some, if_pos rfl, Qbd.l0, if_pos (by simp), if_pos (by simp), if_pos (by simp), e]
 dsimp only
 rw [if_pos (by simp)]
 unfold Qbr.f
 rw [Option.bind_some, if_pos (by simp), Qc8, show wrap64 (0 + 1) = 1 from IntWalk.wrap64_in _ (by omega), Qbd.l0, if_neg (by simp), sum_eq _ (by simp) k (by simp; omega), Option.bind_some]
 rfl
theorem Qgj (a b : ByteArray) (n d : Int) (h : askS a b n 0 d = 0) (k : Nat) (hk : 60 ≤ k) : Qbp.f k [(⟨1, ⟨a, b⟩, n, d, n⟩ : Cll)] 73048 = some ([], 0) := by
 unfold Qbp.f
 rw [Qcr a b n d n (met_ok h) k hk, Option.bind_some, if_pos rfl, if_pos (by decide)]
 dsimp only
 rw [if_pos (Or.inl (Qc8 n))]
theorem Qfy (a b : ByteArray) (n d : Int) (h : askS a b n 0 d = 0) (k : Nat) (hk : 60 ≤ k) : Qbc.f k [(⟨1, ⟨a, b⟩, n, d, n⟩ : Cll)] = some ([], 0) := by
 unfold Qbc.f
 rw [Qcr a b n d n (met_ok h) k hk, Option.bind_some, if_pos rfl]
 dsimp only
 rw [if_pos (Qc8 n)]
end Go.Proofs.Ytgnmhfjfefgbfaa.Pr
