/- scan.Products: names and parts of the same number, the parts together are the list. -/
import Derived.Test.YtgnmhfjfefgbfaaQ10ELmPos
import Derived.Test.YtgnmhfjfefgbfaaQ10ELmScan
import Derived.Test.YtgnmhfjfefgbfaaQ10ELmScanR
import Derived.Test.YtgnmhfjfefgbfaaQ10EP0
import Derived.Test.YtgnmhfjfefgbfaaQ10EP2
namespace Go.Proofs.Ytgnmhfjfefgbfaa.Pr
open Go.RowKit Go.Proofs.Ytgnmhfjfefgbfaa.Pr Go.Proofs.YtgnmhfjfefgbfaaW.PrintWords Go.Proofs.YtgnmhfjfefgbfaaW.PrintLast Go.Proofs.YtgnmhfjfefgbfaaW.PrintMore
set_option linter.unusedVariables false
set_option linter.unusedSimpArgs false
theorem Qb6 (x : List (List Posn)) (q : List Posn) : rd_L7 (x ++ [q]) (x.length : Int) = q := by
 unfold rd_L7
 rw [Int.toNat_natCast, List.getD_eq_getElem?_getD]
 simp
theorem Qb9 {γ : Type} (x : List γ) (q r : γ) : (x ++ [q]).set x.length r = x ++ [r] := by
 rw [List.set_append_right _ _ (Nat.le_refl _), Nat.sub_self]; rfl
theorem QdC (L : List Posn) (i : Nat) (h : i < L.length) : L.take (i + 1) = L.take i ++ [rd_T71 L (i : Int)] := by
 rw [List.take_succ_eq_append_getElem h]
 unfold rd_T71
 rw [Int.toNat_natCast, List.getD_eq_getElem?_getD, List.getElem?_eq_getElem h]
 rfl
theorem QfC {l : List Posn} {i : Nat} (h : i < l.length) : rd_T71 l (i : Int) ∈ l := by
 unfold rd_T71
 rw [Int.toNat_natCast, List.getD_eq_getElem?_getD, List.getElem?_eq_getElem h]
 exact List.getElem_mem h
def PdOk (L : List Posn) (i : Nat) (x2 : List ByteArray) (x3 : List (List Posn)) : Prop := x2.length = x3.length ∧ x2.length ≤ i ∧ x3.flatten = L.take i ∧ ∀ y ∈ x2, y.size ≤ 9223372036854775807
theorem pd_new {L : List Posn} {i : Nat} {x2 : List ByteArray} {x3 : List (List Posn)} (h : PdOk L i x2 x3) (hi : i < L.length) (sz : ∀ p ∈ L, p.f0.f0.size ≤ 9223372036854775807) :
  PdOk L (i + 1) (x2 ++ [(rd_T71 L (i : Int)).f0.f0]) (x3 ++ [[rd_T71 L (i : Int)]]) := by
 obtain ⟨h1, h2, h3, h4⟩ := h
 refine ⟨by simp [h1], by simp; omega, ?_, fun y hy => ?_⟩
 ·rw [List.flatten_append, h3, QdC L i hi]; simp
 rcases List.mem_append.1 hy with hy | hy
 ·exact h4 y hy
 rw [List.mem_singleton.1 hy]; exact sz _ (QfC hi)
end Go.Proofs.Ytgnmhfjfefgbfaa.Pr
