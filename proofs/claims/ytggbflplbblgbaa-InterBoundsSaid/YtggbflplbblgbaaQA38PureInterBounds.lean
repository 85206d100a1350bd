/- InterBounds: nobody saves more than its risk, and no delta comes beyond 0 or farther from it. -/
import Derived.Test.YtggbflplbblgbaaQA38LmInter
import Derived.Test.YtggbflplbblgbaaQA38LmInter2
import Derived.Test.YtggbflplbblgbaaQA38LmInter3
import Derived.Test.YtggbflplbblgbaaQA38LmName
import Derived.Test.YtggbflplbblgbaaQA38P0
import Derived.Test.YtggbflplbblgbaaQA38P2
import Derived.Test.YtggbflplbblgbaaQA38PrxDInterBounds
namespace Go.Proofs.Ytggbflplbblgbaa.Pure
open Go.RowKit Go.Proofs.Ytggbflplbblgbaa.Pr Go.Proofs.YtggbflplbblgbaaW.PrintWords Go.Proofs.YtggbflplbblgbaaW.PrintLast Go.Proofs.YtggbflplbblgbaaW.PrintMore
set_option linter.unusedVariables false
set_option linter.unusedSimpArgs false
theorem InterBounds : contangolaw25_InterBounds.Pure := by
 intro l0 l1 l2 l3 _ y0 sz _ _ _ _ _ _ _ _ ok
 have big : bigC l3 := fun c hc => ⟨(ok c hc).1, (ok c hc).2.1⟩
 refine ⟨4000 + l0.length + l0.length * (l3.length + 2), ?_⟩
 obtain ⟨K, hK⟩ : ∃ K, K = 4000 + l0.length + l0.length * (l3.length + 2) := ⟨_, rfl⟩
 rw [← hK]
 unfold contangolaw25_InterBounds.f
 rw [Qca l0 l1 l2 l3 (by omega) sz big K (by omega), Option.bind_some]
 unfold saveS
 by_cases c : crS l3 = 0
 ·rw [if_pos c]
  by_cases m : mayS l0 l1 l2 = true
  ·rw [if_pos m]
   have M := QcX m
   obtain ⟨c1, c2⟩ := crS_ok c
   obtain ⟨I, _, O⟩ := Qc1 (ixI l0 0) l1 l2 l0.length (may_pl M) (QcY M) l3 _ (QcZ M) c2
   change InvI l1 l2 l0.length (pS l0 l1 l2 l3) at I
   change ∀ j : Nat, _ → rd (pS l0 l1 l2 l3).1 (j : Int) = _ ∧ rd (pS l0 l1 l2 l3).2 (j : Int) = _ at O
   obtain ⟨a, b⟩ : ∃ q, q = pS l0 l1 l2 l3 := ⟨_, rfl⟩
   rw [← b] at I O ⊢
   have e1 := I.n1
   have e2 := I.n2
   have h1 := M.h1
   have h2 := M.h2
   dsimp only
   rw [if_pos rfl, if_pos (by omega)]
   obtain ⟨K, rfl⟩ : ∃ m, K = m + 1 := ⟨K - 1, by omega⟩
   rw [contangolaw25_InterBounds.j0, if_neg (by rw [e2]; simp)]
   have inner : ∀ (j : Nat), j < l0.length → ∀ n i k t, i + n = l3.length → n + 1 ≤ k → (t = true ∨ ∀ q : Nat, q < i → (rd_T75 l3 (q : Int)).f0 ≠ nmI l0 j ∧ (rd_T75 l3 (q : Int)).f1 ≠ nmI l0 j) →
     (∀ k', k ≤ k' + n + 1 → contangolaw25_InterBounds.l0 k' l3 a.1 a.2 (wrap64 ((j : Int) + 1)) l0 l1 l2 = some true) → contangolaw25_InterBounds.l1 k l3 a.1 a.2 (j : Int) t (i : Int) l0 l1 l2 = some true := by
    intro j hj n
    induction n with
    | zero =>
     intro i k t hi hk ht hn
     obtain ⟨k, rfl⟩ : ∃ m, k = m + 1 := ⟨k - 1, by omega⟩
     have s := I.s j hj
     have d := I.d j hj
     unfold betw at d
     have NX := hn k (by omega)
     rw [contangolaw25_InterBounds.l1, if_neg (by omega), if_pos (by omega), if_pos (by omega), if_pos (by omega), if_neg (by omega), if_pos (by omega), if_neg (by omega), if_pos (by omega), if_neg (by unfold mn; split <;> omega), if_neg (by unfold mx; split <;> omega)]
     rcases ht with rfl | ht
     ·rw [if_pos rfl]; exact NX
     have o := O j (fun c hc z hz hF => by
      obtain ⟨q, hq⟩ := List.getElem?_of_mem hc
      have hq1 : q < l3.length := (List.getElem?_eq_some_iff.1 hq).1
      have hq2 : rd_T75 l3 (q : Int) = c := by
       unfold rd_T75
       rw [Int.toNat_natCast, List.getD_eq_getElem?_getD, hq]; rfl
      have n := ht q (by omega)
      rw [hq2] at n
      obtain ⟨p, hp, e, hz2⟩ := (QbO l0 0 z (j : Int) (fun a b ha hb e => Qb8 M ha hb e)).1 hF
      have : p = j := by omega
      subst this
      rcases hz with rfl | rfl
      ·exact n.1 hz2.symm
      exact n.2 hz2.symm)
     have r0 : rd (List.replicate l0.length 0) (j : Int) = 0 := rd_rep _ _
     have o1 : rd a.1 (j : Int) = 0 := o.1.trans r0
     have o2 : rd a.2 (j : Int) = rd l1 (j : Int) := o.2
     by_cases tt : t = true
     ·rw [if_pos tt]; exact NX
     rw [if_neg tt, if_pos o1, if_pos o2]; exact NX
    | succ n ih =>
     intro i k t hi hk ht hn
     obtain ⟨k, rfl⟩ : ∃ m, k = m + 1 := ⟨k - 1, by omega⟩
     have w : wrap64 ((i : Int) + 1) = ((i + 1 : Nat) : Int) := by rw [nwrap (by omega) (by omega)]; omega
     have hn' : ∀ k', k ≤ k' + n + 1 → contangolaw25_InterBounds.l0 k' l3 a.1 a.2 (wrap64 ((j : Int) + 1)) l0 l1 l2 = some true := fun k' h => hn k' (by omega)
     rw [contangolaw25_InterBounds.l1, if_pos (by omega), w]
     clear w
     by_cases tt : t = true
     ·rw [if_pos tt]; exact ih (i + 1) k true (by omega) (by omega) (Or.inl rfl) hn'
     rw [if_neg tt, if_pos (by omega), if_pos (by omega), if_pos (by omega)]
     have ht' : ∀ q : Nat, q < i → (rd_T75 l3 (q : Int)).f0 ≠ nmI l0 j ∧ (rd_T75 l3 (q : Int)).f1 ≠ nmI l0 j := by
      rcases ht with h | h
      ·exact absurd h tt
      exact h
     by_cases e : ((rd_T75 l3 (i : Int)).f0).toList = (rdOf ByteArray.empty l0 (j : Int)).toList
     ·rw [if_pos e]; exact ih (i + 1) k true (by omega) (by omega) (Or.inl rfl) hn'
     rw [if_neg e]
     refine ih (i + 1) k _ (by omega) (by omega) ?_ hn'
     by_cases f : ((rd_T75 l3 (i : Int)).f1).toList = (rdOf ByteArray.empty l0 (j : Int)).toList
     ·left; rw [f]; exact beq_self_eq_true _
     right
     intro q hq
     by_cases qi : q = i
     ·subst qi
      exact ⟨fun h => e (by rw [h]; rfl), fun h => f (by rw [h]; rfl)⟩
     exact ht' q (by omega)
   have outer : ∀ n j k, j + n = l0.length → n * (l3.length + 2) + 3001 ≤ k → contangolaw25_InterBounds.l0 k l3 a.1 a.2 (j : Int) l0 l1 l2 = some true := by
    intro n
    induction n with
    | zero =>
     intro j k hj hk
     obtain ⟨k, rfl⟩ : ∃ m, k = m + 1 := ⟨k - 1, by omega⟩
     rw [contangolaw25_InterBounds.l0, if_neg (by omega), goes25 k (by omega)]
     rfl
    | succ n ih =>
     intro j k hj hk
     obtain ⟨k, rfl⟩ : ∃ m, k = m + 1 := ⟨k - 1, by omega⟩
     rw [Nat.succ_mul] at hk
     have w : wrap64 ((j : Int) + 1) = ((j + 1 : Nat) : Int) := by rw [nwrap (by omega) (by omega)]; omega
     rw [contangolaw25_InterBounds.l0, if_pos (by omega), show (0 : Int) = ((0 : Nat) : Int) from rfl]
     refine inner j (by omega) l3.length 0 k false (by omega) (by omega) (Or.inr (fun q hq => by omega)) (fun k' hk' => ?_)
     rw [w]
     exact ih (j + 1) k' (by omega) (by omega)
   rw [show (0 : Int) = ((0 : Nat) : Int) from rfl]
   exact outer l0.length 0 K (by omega) (by omega)
  rw [if_neg m]
  dsimp only
  rw [if_neg (by decide), if_pos (by rw [IntWalk.wrap64_in _ (by simp)]; simp), goes25 K (by omega)]
  rfl
 rw [if_neg c]
 dsimp only
 rw [if_neg c, if_pos (by rw [IntWalk.wrap64_in _ (by simp)]; simp), goes25 K (by omega)]
 rfl
end Go.Proofs.Ytggbflplbblgbaa.Pure
