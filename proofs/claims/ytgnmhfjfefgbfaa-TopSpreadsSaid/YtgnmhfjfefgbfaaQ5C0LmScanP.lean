/- scan.Products: names and parts of the same number, the parts together are the list. -/
import Derived.Test.YtgnmhfjfefgbfaaQ5C0LmPos
import Derived.Test.YtgnmhfjfefgbfaaQ5C0LmScan
import Derived.Test.YtgnmhfjfefgbfaaQ5C0LmScanR
import Derived.Test.YtgnmhfjfefgbfaaQ5C0P0
import Derived.Test.YtgnmhfjfefgbfaaQ5C0P2
namespace Go.Proofs.Ytgnmhfjfefgbfaa.Pr
open Go.RowKit Go.Proofs.Ytgnmhfjfefgbfaa.Pr Go.Proofs.YtgnmhfjfefgbfaaW.PrintWords Go.Proofs.YtgnmhfjfefgbfaaW.PrintLast Go.Proofs.YtgnmhfjfefgbfaaW.PrintMore
set_option linter.unusedVariables false
set_option linter.unusedSimpArgs false
theorem QcE (x : List (List Posn)) (q : List Posn) : rd_L7 (x ++ [q]) (x.length : Int) = q := by
 unfold rd_L7
 rw [Int.toNat_natCast, List.getD_eq_getElem?_getD]
 simp
theorem QcF {γ : Type} (x : List γ) (q r : γ) : (x ++ [q]).set x.length r = x ++ [r] := by
 rw [List.set_append_right _ _ (Nat.le_refl _), Nat.sub_self]; rfl
theorem Qea (L : List Posn) (i : Nat) (h : i < L.length) : L.take (i + 1) = L.take i ++ [rd_T71 L (i : Int)] := by
 rw [List.take_succ_eq_append_getElem h]
 unfold rd_T71
 rw [Int.toNat_natCast, List.getD_eq_getElem?_getD, List.getElem?_eq_getElem h]
 rfl
theorem Qgs {l : List Posn} {i : Nat} (h : i < l.length) : rd_T71 l (i : Int) ∈ l := by
 unfold rd_T71
 rw [Int.toNat_natCast, List.getD_eq_getElem?_getD, List.getElem?_eq_getElem h]
 exact List.getElem_mem h
def PdOk (L : List Posn) (i : Nat) (x2 : List ByteArray) (x3 : List (List Posn)) : Prop := x2.length = x3.length ∧ x2.length ≤ i ∧ x3.flatten = L.take i ∧ ∀ y ∈ x2, y.size ≤ 9223372036854775807
theorem pd_new {L : List Posn} {i : Nat} {x2 : List ByteArray} {x3 : List (List Posn)} (h : PdOk L i x2 x3) (hi : i < L.length) (sz : ∀ p ∈ L, p.f0.f0.size ≤ 9223372036854775807) :
  PdOk L (i + 1) (x2 ++ [(rd_T71 L (i : Int)).f0.f0]) (x3 ++ [[rd_T71 L (i : Int)]]) := by
 obtain ⟨h1, h2, h3, h4⟩ := h
 refine ⟨by simp [h1], by simp; omega, ?_, fun y hy => ?_⟩
 ·rw [List.flatten_append, h3, Qea L i hi]; simp
 rcases List.mem_append.1 hy with hy | hy
 ·exact h4 y hy
 rw [List.mem_singleton.1 hy]; exact sz _ (Qgs hi)
theorem Qgr (L : List Posn) (hL : L.length ≤ 128) (sz : ∀ p ∈ L, p.f0.f0.size ≤ 9223372036854775807) : ∀ n i k : Nat, i + n = L.length → n + 1 ≤ k → ∀ (x2 : List ByteArray) (x3 : List (List Posn)), PdOk L i x2 x3 →
  ∃ N P, Qap.l0 k x2 x3 L (L.length : Int) (i : Int) = some (N, P) ∧ PdOk L L.length N P := by
 intro n
 induction n with
 | zero =>
  intro i k hi hk x2 x3 h
  obtain ⟨k, rfl⟩ : ∃ q, k = q + 1 := ⟨k - 1, by omega⟩
  rw [Qap.l0, if_neg (show ¬ (i : Int) < (L.length : Int) by omega)]
  obtain rfl : i = L.length := by omega
  exact ⟨x2, x3, rfl, h⟩
 | succ n ih =>
  intro i k hi hk x2 x3 h
  obtain ⟨k, rfl⟩ : ∃ q, k = q + 1 := ⟨k - 1, by omega⟩
  have N := pd_new h (by omega) sz
  obtain ⟨h1, h2, h3, h4⟩ := h
  obtain ⟨N', P', e1, e2⟩ := ih (i + 1) k (by omega) (by omega) _ _ N
  have yl : (((x3 ++ [[]] : List (List Posn)).length : Nat) : Int) = (x3.length : Int) + 1 := by simp
  have w1 : wrap64 ((((x3 ++ [[]] : List (List Posn)).length : Nat) : Int) - 1) = (x3.length : Int) := by rw [yl, smW (by omega) (by omega)]; omega
  rw [Qap.l0, if_pos (show (i : Int) < (L.length : Int) by omega), if_pos (show (0 : Int) ≤ (i : Int) by omega), if_pos (show (i : Int) < (L.length : Int) by omega)]
  by_cases g : (x2.length : Int) = 0
  ·rw [if_pos g, if_pos (by omega), if_pos (by omega), Option.bind_some, w1, if_pos (by omega), if_pos (by rw [yl]; omega), QcE, if_pos (by simp), Int.toNat_natCast, QcF, smW1 (by omega)]
   exact ⟨N', P', e1, e2⟩
  rw [if_neg g, smW (show (0 : Int) ≤ (x2.length : Int) - 1 by omega) (by omega), if_pos (by omega), if_pos (by omega)]
  by_cases q : (rdOf ByteArray.empty x2 ((x2.length : Int) - 1)).toList = ((rd_T71 L (i : Int)).f0.f0).toList
  ·rw [if_pos q, smW (show (0 : Int) ≤ (x3.length : Int) - 1 by omega) (by omega), if_pos (by omega), if_pos (by omega)]
   obtain ⟨a, b, hab⟩ : ∃ a b, x3 = a ++ [b] := ⟨x3.dropLast, x3.getLast (by intro e; rw [e] at h1; exact g (by rw [h1]; rfl)), (List.dropLast_concat_getLast _).symm⟩
   subst hab
   have al : (((a ++ [b]).length : Nat) : Int) - 1 = (a.length : Int) := by simp
   have bl : b.length ≤ L.length := by
    have := congrArg List.length h3
    rw [List.flatten_append, List.length_append, List.length_take] at this
    simp at this; omega
   rw [al, QcE, if_pos (by omega), Int.toNat_natCast, QcF, smW1 (by omega)]
   refine ih (i + 1) k (by omega) (by omega) x2 (a ++ [b ++ [rd_T71 L (i : Int)]]) ⟨by rw [h1]; simp, by omega, ?_, h4⟩
   rw [Qea L i (by omega), ← h3]; simp
  rw [if_neg q, if_pos (by omega), if_pos (by omega), Option.bind_some, w1, if_pos (by omega), if_pos (by rw [yl]; omega), QcE, if_pos (by simp), Int.toNat_natCast, QcF, smW1 (by omega)]
  exact ⟨N', P', e1, e2⟩
theorem Qgt (L : List Posn) (hc : chk L = 0) (sz : ∀ p ∈ L, p.f0.f0.size ≤ 9223372036854775807) : ∃ N P, (∀ k, 1000 ≤ k → Qap.f k L = some (N, P)) ∧ N.length = P.length ∧ N.length ≤ 128 ∧ P.flatten = L ∧ ∀ y ∈ N, y.size ≤ 9223372036854775807 := by
 have hL := Qcr hc
 obtain ⟨N, P, h1, h2, h3, h4, h5⟩ := Qgr L hL sz L.length 0 1000 (by omega) (by omega) [] [] ⟨rfl, by simp, rfl, fun y hy => (List.not_mem_nil hy).elim⟩
 refine ⟨N, P, fun k hk => QbV (Qap.mono L) hk ?_, h2, by omega, by rw [h4, List.take_length], h5⟩
 unfold Qap.f
 rw [QcX L 1000 (by omega), Option.bind_some, if_pos hc]
 exact h1
theorem QeJ (arr : List Arr) : ∀ (A B : List Posn), ownM arr (A ++ B) = (ownM arr A).bind fun a => (ownM arr B).map fun b => a ++ b
 | [], B => by simp [ownM]
 | p :: t, B => by
  rw [List.cons_append, ownM, ownM, QeJ arr t B]
  cases arr.find? (eqA p) with
  | none => rfl
  | some a =>
   cases ownM arr t with
   | none => rfl
   | some x => cases ownM arr B <;> rfl
theorem Qf7 (c : Nat) (A B : List Posn) (o q : List Arr) (h : o.length = A.length) : (colS c (A ++ B) (o ++ q)).sum = (colS c A o).sum + (colS c B q).sum := by
 unfold colS
 rw [List.zipWith_append h.symm, List.sum_append]
end Go.Proofs.Ytgnmhfjfefgbfaa.Pr
