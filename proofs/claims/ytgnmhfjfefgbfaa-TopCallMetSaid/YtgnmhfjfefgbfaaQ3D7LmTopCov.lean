/- What is free may be taken back: the gap of one need. -/
import Derived.Test.YtgnmhfjfefgbfaaQ3D7LmAsset
import Derived.Test.YtgnmhfjfefgbfaaQ3D7LmCover0
import Derived.Test.YtgnmhfjfefgbfaaQ3D7LmCoverB
import Derived.Test.YtgnmhfjfefgbfaaQ3D7LmLimit
import Derived.Test.YtgnmhfjfefgbfaaQ3D7LmLimitCap
import Derived.Test.YtgnmhfjfefgbfaaQ3D7LmLimitFr
import Derived.Test.YtgnmhfjfefgbfaaQ3D7LmPledge
import Derived.Test.YtgnmhfjfefgbfaaQ3D7LmPledgeOf
import Derived.Test.YtgnmhfjfefgbfaaQ3D7LmPledgeTop
import Derived.Test.YtgnmhfjfefgbfaaQ3D7LmRate
import Derived.Test.YtgnmhfjfefgbfaaQ3D7P8
import Derived.Test.YtgnmhfjfefgbfaaQ3D7P0
namespace Go.Proofs.Ytgnmhfjfefgbfaa.Pr
open Go.RowKit Go.Proofs.Ytgnmhfjfefgbfaa.Pr Go.Proofs.YtgnmhfjfefgbfaaW.PrintWords Go.Proofs.YtgnmhfjfefgbfaaW.PrintLast Go.Proofs.YtgnmhfjfefgbfaaW.PrintMore
set_option linter.unusedVariables false
set_option linter.unusedSimpArgs false
theorem gap_eq (a b : ByteArray) (x2 x3 x4 x5 x6 x7 n : Int) (l0 : List Pled) (L : List As) (R : List Rt) (s : ByteArray) (l : List Pled) (k : Nat) (hk : 9000 ≤ k) :
  Qa3.f k a b x2 x3 x4 x5 x6 x7 n l0 L R s l = some (if moneyN n ∧ (covS l a b n L R).2 = 0 ∧ (lackS n (covS l a b n L R).1).2 = 0 then (a, b, n, (covS l a b n L R).1, (lackS n (covS l a b n L R).1).1, true) else ((⟨#[]⟩ : ByteArray), (⟨#[]⟩ : ByteArray), 0, 0, 0, false)) := by
 unfold Qa3.f
 rw [Qf4 l L R _ k (by omega), Option.bind_some]
 have e0 : allS l L R [(⟨⟨a, b⟩, x2, x3, x4, x5, x6, x7, n⟩ : Nd)] = (if moneyN n then (if (covS l a b n L R).2 = 0 then (if (lackS n (covS l a b n L R).1).2 = 0 then ([⟨⟨a, b⟩, n, (covS l a b n L R).1, (lackS n (covS l a b n L R).1).1⟩], 0) else ([], (lackS n (covS l a b n L R).1).2)) else ([], (covS l a b n L R).2)) else ([], 2)) := rfl
 rw [e0]
 by_cases h1 : moneyN n
 ·rw [if_pos h1]
  by_cases h2 : (covS l a b n L R).2 = 0
  ·rw [if_pos h2]
   by_cases h3 : (lackS n (covS l a b n L R).1).2 = 0
   ·rw [if_pos h3, if_pos (show moneyN n ∧ (covS l a b n L R).2 = 0 ∧ (lackS n (covS l a b n L R).1).2 = 0 from ⟨h1, h2, h3⟩)]
    rfl
   rw [if_neg h3, if_neg (show ¬ (moneyN n ∧ (covS l a b n L R).2 = 0 ∧ (lackS n (covS l a b n L R).1).2 = 0) from fun e => h3 e.2.2)]
   exact if_neg h3
  rw [if_neg h2, if_neg (show ¬ (moneyN n ∧ (covS l a b n L R).2 = 0 ∧ (lackS n (covS l a b n L R).1).2 = 0) from fun e => h2 e.2.1)]
  exact if_neg h2
 rw [if_neg h1, if_neg (show ¬ (moneyN n ∧ (covS l a b n L R).2 = 0 ∧ (lackS n (covS l a b n L R).1).2 = 0) from fun e => h1 e.1)]
 rfl
theorem Qgh {n c : Int} (hn : moneyN n) (hc : 0 ≤ c ∧ c ≤ 1152921504606846976) : lackS n c = (mx (n - c) 0, 0) := by
 unfold lackS; rw [if_pos ⟨hn, hc⟩]
theorem Qf9 {l : List Pled} {a b : ByteArray} {n : Int} {L : List As} {R : List Rt} (h : (covS l a b n L R).2 = 0) : 0 ≤ (covS l a b n L R).1 ∧ (covS l a b n L R).1 ≤ 1152921504606846976 := by
 obtain ⟨h1, h2, h3, h4⟩ := cov_ok (Qew h)
 have := QdO L R n h2 _ (QcU h1).1
 have := pw_bd h1
 rw [h4]
 show 0 ≤ ((ofP a b l).map (cutP L R n)).sum ∧ ((ofP a b l).map (cutP L R n)).sum ≤ _
 omega
theorem gap_ok (a b : ByteArray) (x2 x3 x4 x5 x6 x7 n : Int) (l0 : List Pled) (L : List As) (R : List Rt) (s : ByteArray) (l : List Pled) (k : Nat) (hk : 9000 ≤ k) (h : (covS l a b n L R).2 = 0) :
  Qa3.f k a b x2 x3 x4 x5 x6 x7 n l0 L R s l = some (a, b, n, (covS l a b n L R).1, mx (n - (covS l a b n L R).1) 0, true) := by
 obtain ⟨_, h2, _, _⟩ := cov_ok (Qew h)
 have hb := Qf9 h
 rw [gap_eq a b x2 x3 x4 x5 x6 x7 n l0 L R s l k hk, Qgh h2 hb, if_pos ⟨h2, h, rfl⟩]
theorem gap_no (a b : ByteArray) (x2 x3 x4 x5 x6 x7 n : Int) (l0 : List Pled) (L : List As) (R : List Rt) (s : ByteArray) (l : List Pled) (k : Nat) (hk : 9000 ≤ k) (h : (covS l a b n L R).2 ≠ 0) :
  Qa3.f k a b x2 x3 x4 x5 x6 x7 n l0 L R s l = some ((⟨#[]⟩ : ByteArray), (⟨#[]⟩ : ByteArray), 0, 0, 0, false) := by
 rw [gap_eq a b x2 x3 x4 x5 x6 x7 n l0 L R s l k hk, if_neg (fun e => h e.2.1)]
end Go.Proofs.Ytgnmhfjfefgbfaa.Pr
