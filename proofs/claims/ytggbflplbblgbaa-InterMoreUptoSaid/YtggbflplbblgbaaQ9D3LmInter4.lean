/- Credits of no thousandths: the same is left, nothing is saved. -/
import Derived.Test.YtggbflplbblgbaaQ9D3LmInter
import Derived.Test.YtggbflplbblgbaaQ9D3LmInter2
import Derived.Test.YtggbflplbblgbaaQ9D3P0
namespace Go.Proofs.Ytggbflplbblgbaa.Pr
open Go.RowKit Go.Proofs.Ytggbflplbblgbaa.Pr Go.Proofs.YtggbflplbblgbaaW.PrintWords Go.Proofs.YtggbflplbblgbaaW.PrintLast Go.Proofs.YtggbflplbblgbaaW.PrintMore
set_option linter.unusedVariables false
set_option linter.unusedSimpArgs false
def zC (c : Crd) : Crd := ⟨c.f0, c.f1, c.f2, c.f3, 0⟩
theorem QdI (r d t : Int) : ownI r d t 0 = 0 := by unfold ownI; rw [Int.mul_zero]; rfl
theorem Qcq (ds rs : List Int) (i : Nat) (t th th' : Int) (p q : List Int × List Int) (h : p.2 = q.2) : (credI ds rs i t th p).2 = (credI ds rs i t th' q).2 := by
 unfold credI; dsimp only; rw [h]
theorem QdL (ds rs : List Int) (a b : Nat) (c : Crd) (p q : List Int × List Int) (h : p.2 = q.2) : (stepI ds rs a b c p).2 = (stepI ds rs a b (zC c) q).2 := by
 unfold stepI
 rw [h]
 by_cases g : goI (rd q.2 (a : Int)) (rd q.2 (b : Int))
 ·rw [if_pos g, if_pos g]
  exact Qcq ds rs b _ _ _ _ _ (Qcq ds rs a _ _ _ _ _ h)
 rw [if_neg g, if_neg g]; exact h
theorem Qec (F : ByteArray → Option Int) (ds rs : List Int) (c : Crd) (p q : List Int × List Int) (h : p.2 = q.2) : (stI F ds rs c p).2 = (stI F ds rs (zC c) q).2 := by
 unfold stI
 show _ = (match F c.f0, F c.f1 with | some a, some b => stepI ds rs a.toNat b.toNat (zC c) q | _, _ => q).2
 cases F c.f0 with
 | none => exact h
 | some a =>
  cases F c.f1 with
  | none => exact h
  | some b => exact QdL ds rs _ _ c p q h
theorem QcS (F : ByteArray → Option Int) (ds rs : List Int) : ∀ (l : List Crd) (p q : List Int × List Int), p.2 = q.2 → (runI F ds rs l p).2 = (runI F ds rs (l.map zC) q).2
 | [], _, _, h => h
 | c :: t, p, q, h => QcS F ds rs t _ _ (Qec F ds rs c p q h)
theorem Qcs (ds rs : List Int) (n i : Nat) (t : Int) (p : List Int × List Int) (l1 : p.1.length = n) (hi : i < n) (h : rd p.1 (i : Int) ≤ rd rs (i : Int)) (j : Nat) : rd (credI ds rs i t 0 p).1 (j : Int) = rd p.1 (j : Int) := by
 show rd (p.1.set i _) (j : Int) = _
 rw [Qbk _ _ _ _ (by omega), QdI]
 by_cases e : j = i
 ·subst e; rw [if_pos rfl]; unfold mn; split <;> omega
 rw [if_neg e]
theorem QcD (ds rs : List Int) (n a b : Nat) (c : Crd) (p : List Int × List Int) (l1 : p.1.length = n) (ha : a < n) (hb : b < n) (h : ∀ j : Nat, j < n → rd p.1 (j : Int) ≤ rd rs (j : Int)) (j : Nat) : rd (stepI ds rs a b (zC c) p).1 (j : Int) = rd p.1 (j : Int) ∧ (stepI ds rs a b (zC c) p).1.length = n := by
 unfold stepI
 by_cases g : goI (rd p.2 (a : Int)) (rd p.2 (b : Int))
 ·rw [if_pos g]
  obtain ⟨q, hq⟩ : ∃ q, q = credI ds rs a (cntI (rd p.2 (a : Int)) (rd p.2 (b : Int)) (zC c).f2 (zC c).f3 * 1000 * (zC c).f2) (zC c).f4 p := ⟨_, rfl⟩
  have e : ∀ j : Nat, rd q.1 (j : Int) = rd p.1 (j : Int) := fun j => by rw [hq]; exact Qcs ds rs n a _ p l1 ha (h a ha) j
  have l2 : q.1.length = n := by rw [hq]; unfold credI; rw [List.length_set]; exact l1
  rw [← hq]
  refine ⟨?_, by unfold credI; rw [List.length_set]; exact l2⟩
  exact (Qcs ds rs n b _ q l2 hb (by rw [e]; exact h b hb) j).trans (e j)
 rw [if_neg g]; exact ⟨rfl, l1⟩
theorem QcT (F : ByteArray → Option Int) (ds rs : List Int) (n : Nat) (P : PlI F n) : ∀ (l : List Crd) (p : List Int × List Int), p.1.length = n → (∀ j : Nat, j < n → rd p.1 (j : Int) ≤ rd rs (j : Int)) →
  ∀ j : Nat, j < n → rd (runI F ds rs (l.map zC) p).1 (j : Int) = rd p.1 (j : Int)
 | [], _, _, _, _, _ => rfl
 | c :: t, p, l1, h, j, hj => by
  have S : (∀ j : Nat, rd (stI F ds rs (zC c) p).1 (j : Int) = rd p.1 (j : Int)) ∧ (stI F ds rs (zC c) p).1.length = n := by
   unfold stI
   show (∀ j : Nat, rd (match F c.f0, F c.f1 with | some a, some b => stepI ds rs a.toNat b.toNat (zC c) p | _, _ => p).1 (j : Int) = _) ∧ (match F c.f0, F c.f1 with | some a, some b => stepI ds rs a.toNat b.toNat (zC c) p | _, _ => p).1.length = n
   cases hA : F c.f0 with
   | none => exact ⟨fun _ => rfl, l1⟩
   | some a =>
    cases hB : F c.f1 with
    | none => exact ⟨fun _ => rfl, l1⟩
    | some b =>
     obtain ⟨a, ha, rfl⟩ := P.at_ _ _ hA
     obtain ⟨b, hb, rfl⟩ := P.at_ _ _ hB
     dsimp only
     rw [Int.toNat_natCast, Int.toNat_natCast]
     exact ⟨fun j => (QcD ds rs n a b c p l1 ha hb h j).1, (QcD ds rs n a b c p l1 ha hb h 0).2⟩
  show rd (runI F ds rs (t.map zC) (stI F ds rs (zC c) p)).1 (j : Int) = _
  rw [QcT F ds rs n P t _ S.2 (fun i hi => by rw [S.1 i]; exact h i hi) j hj, S.1 j]
theorem zC_ok {c : Crd} (h : crOk c ∧ crOk2 c) : crOk (zC c) ∧ crOk2 (zC c) := by
 obtain ⟨a, b1, b2, _⟩ := h
 exact ⟨a, b1, b2, by show (0 : Int) ≤ 0; omega, by show (0 : Int) ≤ 1000; omega⟩
end Go.Proofs.Ytggbflplbblgbaa.Pr
