/- Assets: what Check, CheckAll, Find, Value and Worth answer, by the program and by the reference. -/
import Derived.Test.YtgnmhfjfefgbfaaQ3D7LmCentsMd
import Derived.Test.YtgnmhfjfefgbfaaQ3D7LmCentsMul
import Derived.Test.YtgnmhfjfefgbfaaQ3D7LmName
import Derived.Test.YtgnmhfjfefgbfaaQ3D7LmRate
import Derived.Test.YtgnmhfjfefgbfaaQ3D7LmRate2
import Derived.Test.YtgnmhfjfefgbfaaQ3D7P0
import Derived.Test.YtgnmhfjfefgbfaaQ3D7P2
import Derived.Test.YtgnmhfjfefgbfaaQ3D7P4
namespace Go.Proofs.Ytgnmhfjfefgbfaa.Pr
open Go.RowKit Go.Proofs.Ytgnmhfjfefgbfaa.Pr Go.Proofs.YtgnmhfjfefgbfaaW.PrintWords Go.Proofs.YtgnmhfjfefgbfaaW.PrintLast Go.Proofs.YtgnmhfjfefgbfaaW.PrintMore
set_option linter.unusedVariables false
set_option linter.unusedSimpArgs false
abbrev As := S112
def prt (n : Int) : Prop := 0 ≤ n ∧ n ≤ 1000
instance (n : Int) : Decidable (prt n) := inferInstanceAs (Decidable (_ ∧ _))
def chkA (s : ByteArray) (kd cu un hc cp : Int) : Int :=
 if nameOk s = true then
  if 1 ≤ kd ∧ kd ≤ 3 then
   if 0 ≤ cu ∧ cu ≤ 7 then
    if (1 ≤ un ∧ un ≤ 68719476736) ∧ (kd = 1 → un = 1) ∧ prt hc ∧ prt cp then 0 else 2
   else 25
  else 2
 else 10
theorem Qgu (n : Int) : Qbt.f n = some (decide (prt n)) := by
 unfold Qbt.f
 split
 ·congr 1; rw [decide_eq_decide]; unfold prt; omega
 congr 1; exact (decide_eq_false (by unfold prt; omega)).symm
theorem QcZ (s : ByteArray) (kd cu un hc cp : Int) (k : Nat) (hk : 30 ≤ k) : QaG.f k s kd cu un hc cp = some (chkA s kd cu un hc cp) := by
 obtain ⟨k, rfl⟩ : ∃ m, k = m + 2 := ⟨k - 2, by omega⟩
 unfold QaG.f chkA
 rw [QcL s _ (by omega), Option.bind_some]
 by_cases h0 : nameOk s = true
 ·rw [if_pos h0, if_pos h0]
  have h1 : ∀ b : Bool, QaG.j0 (k + 2) b s kd cu un hc cp = some (if b = true then 2 else if 0 ≤ cu ∧ cu ≤ 7 then (if (1 ≤ un ∧ un ≤ 68719476736) ∧ (kd = 1 → un = 1) ∧ prt hc ∧ prt cp then 0 else 2) else 25) := by
   intro b
   have h2 : ∀ c : Bool, QaG.j1 (k + 1) c s kd cu un hc cp = some (if c = true then 25 else (if (1 ≤ un ∧ un ≤ 68719476736) ∧ (kd = 1 → un = 1) ∧ prt hc ∧ prt cp then 0 else 2)) := by
    intro c
    rw [QaG.j1]
    cases c with
    | true => simp
    | false =>
     simp only [Bool.false_eq_true, if_false, Qgu, Option.bind_some, decide_eq_true_eq]
     by_cases u1 : un < 1
     ·rw [if_pos u1, if_neg (by omega)]
     by_cases u2 : un > 68719476736
     ·rw [if_neg u1, if_pos u2, if_neg (by omega)]
     rw [if_neg u1, if_neg u2]
     by_cases k1 : kd = 1
     ·rw [if_pos k1]
      by_cases u3 : un = 1
      ·rw [if_pos u3]
       by_cases p1 : prt hc
       ·by_cases p2 : prt cp
        ·rw [if_pos p1, if_pos p2, if_pos ⟨by omega, fun _ => u3, p1, p2⟩]
        rw [if_pos p1, if_neg p2, if_neg (fun z => p2 z.2.2.2)]
       rw [if_neg p1, if_neg (fun z => p1 z.2.2.1)]
      rw [if_neg u3, if_neg (fun z => u3 (z.2.1 k1))]
     rw [if_neg k1]
     by_cases p1 : prt hc
     ·by_cases p2 : prt cp
      ·rw [if_pos p1, if_pos p2, if_pos ⟨by omega, fun z => absurd z k1, p1, p2⟩]
      rw [if_pos p1, if_neg p2, if_neg (fun z => p2 z.2.2.2)]
     rw [if_neg p1, if_neg (fun z => p1 z.2.2.1)]
   rw [QaG.j0, h2, h2]
   cases b with
   | true => simp
   | false =>
    simp only [Bool.false_eq_true, if_false, if_true, decide_eq_true_eq]
    by_cases c1 : cu < 0
    ·rw [if_pos c1, if_neg (show ¬ (0 ≤ cu ∧ cu ≤ 7) by omega)]
    by_cases c2 : cu ≥ 8
    ·rw [if_neg c1, if_pos c2, if_neg (show ¬ (0 ≤ cu ∧ cu ≤ 7) by omega)]
    rw [if_neg c1, if_neg c2, if_pos (show 0 ≤ cu ∧ cu ≤ 7 by omega)]
  rw [h1, h1]
  by_cases k1 : kd < 1
  ·rw [if_pos k1, if_pos rfl, if_neg (show ¬ (1 ≤ kd ∧ kd ≤ 3) by omega)]
  rw [if_neg k1]
  by_cases k2 : kd > 3
  ·rw [if_pos (by simpa using k2), if_neg (show ¬ (1 ≤ kd ∧ kd ≤ 3) by omega)]
  rw [if_neg (by simpa using k2), if_pos (show 1 ≤ kd ∧ kd ≤ 3 by omega)]
 rw [if_neg h0, if_neg h0]
theorem Qee (n : Int) : QbG.f n = some (decide (0 ≤ n ∧ n ≤ 1152921504606846976)) := by
 unfold QbG.f
 split
 ·congr 1; rw [decide_eq_decide]; omega
 congr 1; exact (decide_eq_false (by omega)).symm
def valS (c un q : Int) : Int × Int := if c = 0 then (if 0 ≤ q ∧ q ≤ 1152921504606846976 then mulS q un else (0, 18)) else (0, c)
def worS (c cu un hc q : Int) (l : List Rt) : Int × Int :=
 if (valS c un q).2 = 0 then
  if (convS l (valS c un q).1 cu 0 3).2 = 0 then mdS (convS l (valS c un q).1 cu 0 3).1 (1000 - hc) 1000 3 else (0, (convS l (valS c un q).1 cu 0 3).2)
 else (0, (valS c un q).2)
theorem QfY (s : ByteArray) (kd cu un hc cp q : Int) (k : Nat) (hk : 30 ≤ k) : QbC.f k s kd cu un hc cp q = some (valS (chkA s kd cu un hc cp) un q) := by
 unfold QbC.f valS
 rw [QcZ s kd cu un hc cp k hk, Option.bind_some]
 by_cases h : chkA s kd cu un hc cp = 0
 ·rw [if_pos h, if_pos h, Qee, Option.bind_some]
  simp only [decide_eq_true_eq]
  split
  ·rw [mul_eq _ _ k (by omega)]; rfl
  rfl
 rw [if_neg h, if_neg h]
theorem Qda (s : ByteArray) (kd cu un hc cp : Int) (h : chkA s kd cu un hc cp = 0) : (0 ≤ cu ∧ cu ≤ 7) ∧ (1 ≤ un ∧ un ≤ 68719476736) ∧ (0 ≤ hc ∧ hc ≤ 1000) := by
 unfold chkA prt at h
 (repeat' split at h) <;> first | (cases h; done) | omega
theorem Qdv {c un q : Int} (h : (valS c un q).2 = 0) : c = 0 ∧ (0 ≤ q ∧ q ≤ 1152921504606846976) ∧ valS c un q = mulS q un := by
 unfold valS at *
 by_cases h1 : c = 0
 ·rw [if_pos h1] at h ⊢
  by_cases h2 : 0 ≤ q ∧ q ≤ 1152921504606846976
  ·rw [if_pos h2] at h ⊢; exact ⟨h1, h2, rfl⟩
  rw [if_neg h2] at h; cases h
 rw [if_neg h1] at h; exact absurd h h1
theorem QcA (s : ByteArray) (kd cu un hc cp q : Int) (l : List Rt) (k : Nat) (hk : 70 ≤ k) : QaZ.f k s kd cu un hc cp q l = some (worS (chkA s kd cu un hc cp) cu un hc q l) := by
 unfold QaZ.f worS
 rw [QfY s kd cu un hc cp q k (by omega), Option.bind_some]
 by_cases h : (valS (chkA s kd cu un hc cp) un q).2 = 0
 ·have hh := (Qda s kd cu un hc cp (Qdv h).1).2.2
  rw [if_pos h, if_pos h, Qf2 l _ _ _ k (by omega), Option.bind_some]
  split
  ·rw [IntWalk.wrap64_in (1000 - hc) (by omega), md_eq]; rfl
  rfl
 rw [if_neg h, if_neg h]
end Go.Proofs.Ytgnmhfjfefgbfaa.Pr
