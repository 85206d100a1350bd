/- asset.Units: what it answers is worth enough. -/
import Derived.Test.YtgnmhfjfefgbfaaQ3D7LmAsset
import Derived.Test.YtgnmhfjfefgbfaaQ3D7LmAssetLow
import Derived.Test.YtgnmhfjfefgbfaaQ3D7LmLeast
import Derived.Test.YtgnmhfjfefgbfaaQ3D7LmRate
import Derived.Test.YtgnmhfjfefgbfaaQ3D7LmRate2
import Derived.Test.YtgnmhfjfefgbfaaQ3D7P6
import Derived.Test.YtgnmhfjfefgbfaaQ3D7P0
namespace Go.Proofs.Ytgnmhfjfefgbfaa.Pr
open Go.RowKit Go.Proofs.Ytgnmhfjfefgbfaa.Pr Go.Proofs.YtgnmhfjfefgbfaaW.PrintWords Go.Proofs.YtgnmhfjfefgbfaaW.PrintLast Go.Proofs.YtgnmhfjfefgbfaaW.PrintMore
set_option linter.unusedVariables false
set_option linter.unusedSimpArgs false
theorem Qek (s : ByteArray) (kd cu un hc cp n : Int) (l : List Rt) (k : Nat) (hk : 300 ≤ k) :
  ∃ r, Qa8.f k s kd cu un hc cp n l = some r ∧ (r.2 ≠ 0 → r.1 = 0) ∧ (r.2 = 0 → chkA s kd cu un hc cp = 0 ∧ (0 ≤ r.1 ∧ r.1 ≤ 1152921504606846976) ∧ (worS 0 cu un hc r.1 l).2 = 0 ∧ n ≤ (worS 0 cu un hc r.1 l).1) := by
 have bad : ∀ e : Int, e ≠ 0 → (((0, e) : Int × Int).2 ≠ 0 → ((0, e) : Int × Int).1 = 0) ∧ (((0, e) : Int × Int).2 = 0 → chkA s kd cu un hc cp = 0 ∧ (0 ≤ ((0, e) : Int × Int).1 ∧ ((0, e) : Int × Int).1 ≤ 1152921504606846976) ∧ (worS 0 cu un hc ((0, e) : Int × Int).1 l).2 = 0 ∧ n ≤ (worS 0 cu un hc ((0, e) : Int × Int).1 l).1) := fun e he => ⟨fun _ => rfl, fun z => absurd z he⟩
 unfold Qa8.f
 rw [QcZ s kd cu un hc cp k (by omega), Option.bind_some]
 by_cases hA : chkA s kd cu un hc cp = 0
 ·rw [if_pos hA, QdB l k (by omega), Option.bind_some]
  by_cases hR : chkR l = 0
  ·rw [if_pos hR]
   obtain ⟨hcu, hun, hhc⟩ := Qda s kd cu un hc cp hA
   by_cases h1 : cu ≥ (l.length : Int)
   ·rw [if_pos h1]
    exact ⟨_, rfl, bad 25 (by decide)⟩
   rw [if_neg h1, Qee, Option.bind_some]
   simp only [decide_eq_true_eq]
   by_cases h2 : 0 ≤ n ∧ n ≤ 1152921504606846976
   ·rw [if_pos h2]
    by_cases h3 : hc = 1000
    ·rw [if_pos h3]
     exact ⟨_, rfl, bad 4 (by decide)⟩
    rw [if_neg h3]
    have hin : inR l cu := ⟨by omega, by omega⟩
    obtain ⟨L, hL, hle⟩ := Qe7 cu un hc n l
    have hE : ∀ q, 0 ≤ q → (enS cu un hc n l q ↔ L ≤ q) := fun q hq => Qfk _ L (fun a b ha hab he => QfE cu un hc n l hR hin hun hhc a b ha hab he) hL q hq
    have hp := QeV s kd cu un hc cp n l hA L hE _ rfl 61 k (by omega) 0 1152921504606846976 (by omega) (by have := hL.1; split <;> omega) (by split <;> omega) (by omega) (by decide)
    have hM : 0 ≤ (if L ≤ 1152921504606846976 then L else 1152921504606846976) ∧ (if L ≤ 1152921504606846976 then L else 1152921504606846976) ≤ (1152921504606846976 : Int) := by have := hL.1; split <;> omega
    rw [hp, Option.bind_some, QcA s kd cu un hc cp _ l k (by omega), Option.bind_some, hA]
    generalize (if L ≤ 1152921504606846976 then L else 1152921504606846976) = M at *
    by_cases c : (worS 0 cu un hc M l).2 ≠ 0 ∨ (worS 0 cu un hc M l).1 < n
    ·rw [if_pos c]
     refine ⟨_, rfl, fun _ => rfl, fun z => by cases z⟩
    rw [if_neg c]
    have c' := not_or.1 c
    exact ⟨_, rfl, fun z => absurd rfl z, fun _ => ⟨rfl, hM, Decidable.not_not.1 c'.1, Int.not_lt.1 c'.2⟩⟩
   rw [if_neg h2]
   exact ⟨_, rfl, bad 2 (by decide)⟩
  rw [if_neg hR]
  exact ⟨_, rfl, bad _ hR⟩
 rw [if_neg hA]
 exact ⟨_, rfl, bad _ hA⟩
end Go.Proofs.Ytgnmhfjfefgbfaa.Pr
