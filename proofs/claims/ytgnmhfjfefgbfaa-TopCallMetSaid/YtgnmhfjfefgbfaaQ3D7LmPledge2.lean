/- Pledges: what Put and Take answer, by the program and by the reference. -/
import Derived.Test.YtgnmhfjfefgbfaaQ3D7LmName
import Derived.Test.YtgnmhfjfefgbfaaQ3D7LmPledge
import Derived.Test.YtgnmhfjfefgbfaaQ3D7PrxRd
import Derived.Test.YtgnmhfjfefgbfaaQ3D7P0
namespace Go.Proofs.Ytgnmhfjfefgbfaa.Pr
open Go.RowKit Go.Proofs.Ytgnmhfjfefgbfaa.Pr Go.Proofs.YtgnmhfjfefgbfaaW.PrintWords Go.Proofs.YtgnmhfjfefgbfaaW.PrintLast Go.Proofs.YtgnmhfjfefgbfaaW.PrintMore
set_option linter.unusedVariables false
set_option linter.unusedSimpArgs false
def goodP (l : List Pled) : Prop := l.length ≤ 1024 ∧ Qdh l ∧ ∀ p ∈ l, okName p = true ∧ okQty p.f2 = true
theorem Qdx : ∀ (l : List Pled) (q : Option PK), chkLP q l = 0 ↔ ((∀ s, q = some s → ∀ p ∈ l, klt s (pkey p) = true) ∧ Qdh l ∧ ∀ p ∈ l, okName p = true ∧ okQty p.f2 = true)
 | [], q => by simp [chkLP, Qdh]
 | p :: t, q => by
  have ih := Qdx t (some (pkey p))
  have t1 : (∀ s, (some (pkey p)) = some s → ∀ x ∈ t, klt s (pkey x) = true) ↔ ∀ x ∈ t, klt (pkey p) (pkey x) = true := by simp
  rw [t1] at ih
  rw [Qdw]
  by_cases hn : okName p = true
  ·rw [if_pos hn]
   by_cases hq : Qcd q (pkey p) = true
   ·rw [if_pos hq]
    refine ⟨fun h => absurd h (by decide), fun h => ?_⟩
    cases q with
    | none => cases hq
    | some s =>
     have := h.1 s rfl p (by simp)
     rw [show Qcd (some s) (pkey p) = !klt s (pkey p) from rfl, this] at hq
     cases hq
   rw [if_neg hq]
   by_cases hp : okQty p.f2 = true
   ·rw [if_pos hp, ih]
    unfold Qdh
    rw [List.pairwise_cons]
    constructor
    ·rintro ⟨h1, h2, h3⟩
     refine ⟨?_, ⟨h1, h2⟩, ?_⟩
     ·rintro s rfl x hx
      have hs : klt s (pkey p) = true := by
       cases h : klt s (pkey p) with
       | true => rfl
       | false => exact absurd (show Qcd (some s) (pkey p) = true by rw [show Qcd (some s) (pkey p) = !klt s (pkey p) from rfl, h]; rfl) hq
      rcases List.mem_cons.1 hx with rfl | hx
      ·exact hs
      exact Qfj _ _ _ hs (h1 x hx)
     intro x hx
     rcases List.mem_cons.1 hx with rfl | hx
     ·exact ⟨hn, hp⟩
     exact h3 x hx
    rintro ⟨_, ⟨h1, h2⟩, h3⟩
    exact ⟨h1, h2, fun x hx => h3 x (List.mem_cons_of_mem _ hx)⟩
   rw [if_neg hp]
   exact ⟨fun h => absurd h (by decide), fun h => absurd (h.2.2 p (by simp)).2 hp⟩
  rw [if_neg hn]
  exact ⟨fun h => absurd h (by decide), fun h => absurd (h.2.2 p (by simp)).1 hn⟩
theorem QdT (l : List Pled) : chkP l = 0 ↔ goodP l := by
 unfold chkP goodP
 split
 ·exact ⟨fun h => absurd h (by decide), fun h => by omega⟩
 rw [Qdx]
 simp
 omega
end Go.Proofs.Ytgnmhfjfefgbfaa.Pr
