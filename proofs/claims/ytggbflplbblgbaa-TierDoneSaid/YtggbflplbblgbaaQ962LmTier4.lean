/- Tier: what spreads cost, what is outright, and when lists are the same (S91). -/
import Derived.Test.YtggbflplbblgbaaQ962LmCents
import Derived.Test.YtggbflplbblgbaaQ962LmCentsMul
import Derived.Test.YtggbflplbblgbaaQ962LmName
import Derived.Test.YtggbflplbblgbaaQ962LmSums
import Derived.Test.YtggbflplbblgbaaQ962LmTier
import Derived.Test.YtggbflplbblgbaaQ962LmTier2
import Derived.Test.YtggbflplbblgbaaQ962LmTier3
import Derived.Test.YtggbflplbblgbaaQ962P0
import Derived.Test.YtggbflplbblgbaaQ962P2
import Derived.Test.YtggbflplbblgbaaQ962P4
namespace Go.Proofs.Ytggbflplbblgbaa.Pr
open Go.RowKit Go.Proofs.Ytggbflplbblgbaa.Pr Go.Proofs.YtggbflplbblgbaaW.PrintWords Go.Proofs.YtggbflplbblgbaaW.PrintLast Go.Proofs.YtggbflplbblgbaaW.PrintMore
set_option linter.unusedVariables false
set_option linter.unusedSimpArgs false
theorem Qdl (a : List Int) (hl : a.length ≤ 1073741824) : ∀ d i k : Nat, i + d = a.length → d + 1 ≤ k → Qaf.l0 k a a (i : Int) = some true := by
 intro d
 induction d with
 | zero =>
  intro i k hi hk
  obtain ⟨k, rfl⟩ : ∃ m, k = m + 1 := ⟨k - 1, by omega⟩
  rw [Qaf.l0, if_neg (by omega)]
 | succ d ih =>
  intro i k hi hk
  obtain ⟨k, rfl⟩ : ∃ m, k = m + 1 := ⟨k - 1, by omega⟩
  rw [Qaf.l0, if_pos (by omega), if_pos (by omega), if_pos (by omega), if_pos rfl, nwrap (x := (i : Int) + 1) (by omega) (by omega), show ((i : Int) + 1) = ((i + 1 : Nat) : Int) by omega, ih (i + 1) k (by omega) (by omega)]
theorem QbH (a : List Int) (hl : a.length ≤ 1073741824) (k : Nat) (hk : a.length + 1 ≤ k) : Qaf.f k a a = some true := by
 unfold Qaf.f
 rw [if_pos rfl, show (0 : Int) = ((0 : Nat) : Int) from rfl, Qdl a hl a.length 0 k (by omega) hk]
theorem goes24 (k : Nat) (hk : 3000 ≤ k) : Qai.f k = some true := Qdm Qai.mono (show 200 ≤ k by omega) (by decide +kernel)
def prods (F : List Int) (l : List Sp) : List Int := List.zipWith (fun f s => f * s.f2) F l
theorem Qca (F : List Int) (l : List Sp) (i : Nat) (h1 : i < F.length) (h2 : i < l.length) : (prods F l).drop i = rd F (i : Int) * (rd_T91 l (i : Int)).f2 :: (prods F l).drop (i + 1) := by
 unfold prods
 rw [List.drop_zipWith, Qbx F i h1, QbA l i h2, List.zipWith_cons_cons, ← List.drop_zipWith]
theorem Qcv (F : List Int) (l : List Sp) (h : F.length = l.length) : (prods F l).length = l.length := by
 unfold prods
 rw [List.length_zipWith, h, Nat.min_self]
theorem QdB (F : List Int) (l : List Sp) (hF : ∀ x ∈ F, 0 ≤ x ∧ x ≤ 1099511628) (hl : ∀ s ∈ l, 0 ≤ s.f2 ∧ s.f2 ≤ 68719476736) : ∀ p ∈ prods F l, 0 ≤ p := by
 intro p hp
 unfold prods at hp
 rw [List.mem_iff_getElem] at hp
 obtain ⟨i, hi, rfl⟩ := hp
 rw [List.length_zipWith] at hi
 rw [List.getElem_zipWith]
 exact Int.mul_nonneg (hF _ (List.getElem_mem _)).1 (hl _ (List.getElem_mem _)).1
theorem Qek {l : List Int} (h : ∀ p ∈ l, 0 ≤ p) : 0 ≤ l.sum := by
 induction l with
 | nil => simp
 | cons x t ih =>
  rw [List.sum_cons]
  have := h x List.mem_cons_self
  have := ih (fun p hp => h p (List.mem_cons_of_mem _ hp))
  omega
theorem Qc1 {a b : Int} (ha : mdFits a) (hb : mdFits b) : mulS a b = if mdFits (a * b) then (a * b, 0) else (0, 3) := by unfold mulS; rw [if_pos ⟨ha, hb⟩]
theorem Qd6 {a b : Int} (ha : mdFits a) (hb : mdFits b) : addS a b = if mdFits (a + b) then (a + b, 0) else (0, 3) := by unfold addS; rw [if_pos ⟨ha, hb⟩]
theorem Qea (F : List Int) (l : List Sp) (left : List Int) (hFl : F.length = l.length) (hl : l.length ≤ 1024) (hF : ∀ x ∈ F, 0 ≤ x ∧ x ≤ 1099511628) (hs : ∀ s ∈ l, 0 ≤ s.f2 ∧ s.f2 ≤ 68719476736) :
  ∀ d i k : Nat, i + d = l.length → d + 2 ≤ k → ∀ acc : Int, 0 ≤ acc → acc ≤ 1152921504606846976 →
   Qaw.l0 k l acc left F (F.length : Int) (i : Int) = some (if (∀ p ∈ (prods F l).drop i, mdFits p) ∧ mdFits (acc + ((prods F l).drop i).sum) then (acc + ((prods F l).drop i).sum, left, 0) else (0, [], 3)) := by
 have hp0 := QdB F l hF hs
 intro d
 induction d with
 | zero =>
  intro i k hi hk acc a0 a1
  obtain ⟨k, rfl⟩ : ∃ m, k = m + 1 := ⟨k - 1, by omega⟩
  rw [Qaw.l0, if_neg (by omega), List.drop_eq_nil_of_le (by rw [Qcv F l hFl]; omega), List.sum_nil, Int.add_zero, if_pos ⟨fun p h => (List.not_mem_nil h).elim, show mdFits acc from by unfold mdFits; omega⟩]
 | succ d ih =>
  intro i k hi hk acc a0 a1
  obtain ⟨k, rfl⟩ : ∃ m, k = m + 1 := ⟨k - 1, by omega⟩
  have hd := Qca F l i (by omega) (by omega)
  have hx := hF (rd F (i : Int)) (by rw [rd_at F i (by omega)]; exact List.getElem_mem _)
  have hc := hs (rd_T91 l (i : Int)) (List.mem_of_mem_drop ((QbA l i (by omega)) ▸ List.mem_cons_self))
  have hrest : 0 ≤ ((prods F l).drop (i + 1)).sum := Qek (fun p h => hp0 p (List.mem_of_mem_drop h))
  have hpi : 0 ≤ rd F (i : Int) * (rd_T91 l (i : Int)).f2 := Int.mul_nonneg hx.1 hc.1
  rw [Qaw.l0, if_pos (by omega), if_pos (by omega), if_pos (by omega), if_pos (by omega), mul_eq _ _ k (by omega), Option.bind_some, Qc1 (by unfold mdFits; omega) (by unfold mdFits; omega), hd]
  generalize rd F (i : Int) * (rd_T91 l (i : Int)).f2 = p at *
  simp only [List.mem_cons, forall_eq_or_imp, List.sum_cons]
  by_cases h1 : mdFits p
  ·rw [if_pos h1]
   dsimp only
   rw [if_pos rfl, add_eq, Option.bind_some, Qd6 (show mdFits acc from by unfold mdFits; omega) h1]
   by_cases h2 : mdFits (acc + p)
   ·rw [if_pos h2, if_pos rfl, nwrap (x := (i : Int) + 1) (by omega) (by omega), show ((i : Int) + 1) = ((i + 1 : Nat) : Int) by omega, ih (i + 1) k (by omega) (by omega) (acc + p) (by omega) h2.2]
    simp only [h1, true_and, Int.add_assoc]
   rw [if_neg h2, if_neg (by decide), if_neg (fun x => h2 (by have := x.2; unfold mdFits at this ⊢; omega))]
  rw [if_neg h1, if_neg (by decide), if_neg (fun x => h1 x.1.1)]
theorem Qd0 (F : List Int) (l : List Sp) (left : List Int) (hFl : F.length = l.length) (hl : l.length ≤ 1024) (hF : ∀ x ∈ F, 0 ≤ x ∧ x ≤ 1099511628) (hs : ∀ s ∈ l, 0 ≤ s.f2 ∧ s.f2 ≤ 68719476736) :
  ∀ d i k : Nat, i + d = l.length → d + 1030 ≤ k → ∀ out : List Int, out.length = i → (∀ p ∈ out, mdFits p) →
   Qan.l0 k l F left out (i : Int) = some (if (∀ p ∈ (prods F l).drop i, mdFits p) ∧ mdFits (out.sum + ((prods F l).drop i).sum) then (out.sum + ((prods F l).drop i).sum, left, 0) else (0, [], 3)) := by
 intro d
 induction d with
 | zero =>
  intro i k hi hk out ho ho2
  obtain ⟨k, rfl⟩ : ∃ m, k = m + 1 := ⟨k - 1, by omega⟩
  rw [Qan.l0, if_neg (by omega), List.drop_eq_nil_of_le (by rw [Qcv F l hFl]; omega), List.sum_nil, Int.add_zero, Qej out (by omega) k (by omega), Option.bind_some]
  unfold sumS
  rw [if_pos ho2]
  by_cases h : mdFits out.sum
  ·rw [if_pos h, if_pos rfl, if_pos ⟨fun p h => (List.not_mem_nil h).elim, h⟩]
  rw [if_neg h, if_neg (by decide), if_neg (fun x => h x.2)]
 | succ d ih =>
  intro i k hi hk out ho ho2
  obtain ⟨k, rfl⟩ : ∃ m, k = m + 1 := ⟨k - 1, by omega⟩
  have hd := Qca F l i (by omega) (by omega)
  have hx := hF (rd F (i : Int)) (by rw [rd_at F i (by omega)]; exact List.getElem_mem _)
  have hc := hs (rd_T91 l (i : Int)) (List.mem_of_mem_drop ((QbA l i (by omega)) ▸ List.mem_cons_self))
  rw [Qan.l0, if_pos (by omega), if_pos (by omega), if_pos (by omega), Qc2 _ _ k (by omega), Option.bind_some, Qc1 (by unfold mdFits; omega) (by unfold mdFits; omega), hd]
  generalize rd F (i : Int) * (rd_T91 l (i : Int)).f2 = p at *
  simp only [List.mem_cons, forall_eq_or_imp, List.sum_cons]
  by_cases h1 : mdFits p
  ·rw [if_pos h1, if_pos rfl, if_pos (by omega), nwrap (x := (i : Int) + 1) (by omega) (by omega), show ((i : Int) + 1) = ((i + 1 : Nat) : Int) by omega,
    ih (i + 1) k (by omega) (by omega) (out ++ [p]) (by simp; omega) (fun q hq => by rcases List.mem_append.1 hq with hq | hq; exact ho2 q hq; rw [List.mem_singleton.1 hq]; exact h1)]
   simp only [h1, true_and, List.sum_append, List.sum_cons, List.sum_nil, Int.add_zero, Int.add_assoc]
  rw [if_neg h1, if_neg (by decide), if_neg (fun x => h1 x.1.1)]
def QbI (days deltas : List Int) (l : List Sp) : Int × List Int × Int :=
 if (formS days deltas l).2.2 = 0 then (if (∀ p ∈ prods (formS days deltas l).1 l, mdFits p) ∧ mdFits (prods (formS days deltas l).1 l).sum then ((prods (formS days deltas l).1 l).sum, (formS days deltas l).2.1, 0) else (0, [], 3)) else (0, [], (formS days deltas l).2.2)
theorem QbM {days deltas : List Int} {l : List Sp} (h : (formS days deltas l).2.2 = 0) : spS l = 0 ∧ deltas.length = days.length ∧ dayOk days deltas ∧ formS days deltas l = ((runS days l deltas).1, (runS days l deltas).2, 0) := by
 unfold formS at *
 by_cases c1 : spS l = 0
 ·rw [if_pos c1] at h ⊢
  by_cases c2 : deltas.length = days.length
  ·rw [if_pos c2] at h ⊢
   by_cases c3 : dayOk days deltas
   ·rw [if_pos c3] at h ⊢
    exact ⟨c1, c2, c3, rfl⟩
   rw [if_neg c3] at h; cases h
  rw [if_neg c2] at h; cases h
 rw [if_neg c1] at h; exact absurd h c1
theorem Qcq {days deltas : List Int} {l : List Sp} (h : (formS days deltas l).2.2 ≠ 0) : (formS days deltas l).1 = [] ∧ (formS days deltas l).2.1 = [] := by
 unfold formS at *
 by_cases c1 : spS l = 0
 ·rw [if_pos c1] at h ⊢
  by_cases c2 : deltas.length = days.length
  ·rw [if_pos c2] at h ⊢
   by_cases c3 : dayOk days deltas
   ·rw [if_pos c3] at h; exact absurd rfl h
   rw [if_neg c3]; exact ⟨rfl, rfl⟩
  rw [if_neg c2]; exact ⟨rfl, rfl⟩
 rw [if_neg c1]; exact ⟨rfl, rfl⟩
theorem Qb9 {days deltas : List Int} {l : List Sp} (h : (formS days deltas l).2.2 = 0) : l.length ≤ 1024 ∧ (formS days deltas l).1.length = l.length ∧ (∀ x ∈ (formS days deltas l).1, 0 ≤ x ∧ x ≤ 1099511628) ∧ (∀ s ∈ l, 0 ≤ s.f2 ∧ s.f2 ≤ 68719476736) := by
 obtain ⟨c1, c2, c3, e⟩ := QbM h
 obtain ⟨hl, hs⟩ := spS_ok c1
 obtain ⟨r1, r2, r3, r4, r5⟩ := Qbu days l (fun s x => (hs s x).1.2.2) deltas (Qbv c2 c3)
 rw [e]
 exact ⟨hl, r5, r4, fun s x => (hs s x).2⟩
theorem Qdp (days deltas : List Int) (l : List Sp) (h1 : days.length ≤ 200) (h2 : deltas.length ≤ 200) (k : Nat) (hk : 20000 ≤ k) : Qaw.f k days deltas l = some (QbI days deltas l) := by
 unfold Qaw.f QbI
 rw [QbR days deltas l h1 h2 k hk, Option.bind_some]
 by_cases h : (formS days deltas l).2.2 = 0
 ·obtain ⟨hl, f1, f2, f3⟩ := Qb9 h
  rw [if_pos h, if_pos h, show (0 : Int) = ((0 : Nat) : Int) from rfl, Qea _ l _ f1 hl f2 f3 l.length 0 k (by omega) (by omega) _ (by omega) (by omega), List.drop_zero]
  simp only [Int.natCast_zero, Int.zero_add]
 rw [if_neg h, if_neg h]
theorem Qdd (days deltas : List Int) (l : List Sp) (h1 : days.length ≤ 200) (h2 : deltas.length ≤ 200) (k : Nat) (hk : 20000 ≤ k) : Qan.f k days deltas l = some (QbI days deltas l) := by
 unfold Qan.f QbI
 rw [QcN days deltas l h1 h2 k hk, Option.bind_some]
 by_cases h : (formS days deltas l).2.2 = 0
 ·obtain ⟨hl, f1, f2, f3⟩ := Qb9 h
  rw [if_pos h, if_pos h, show (0 : Int) = ((0 : Nat) : Int) from rfl, Qd0 _ l _ f1 hl f2 f3 l.length 0 k (by omega) (by omega) [] rfl (fun p h => (List.not_mem_nil h).elim), List.drop_zero, List.sum_nil]
  simp only [Int.natCast_zero, Int.zero_add]
 rw [if_neg h, if_neg h]
theorem QcT (days deltas : List Int) (l : List Sp) (h : l.length ≤ 1100) (h2 : deltas.length ≤ 200) : (QbI days deltas l).2.1.length ≤ 200 := by
 unfold QbI
 by_cases g : (formS days deltas l).2.2 = 0
 ·rw [if_pos g]
  obtain ⟨c1, c2, c3, e⟩ := QbM g
  obtain ⟨hl, hs⟩ := spS_ok c1
  obtain ⟨r1, _⟩ := Qbu days l (fun s x => (hs s x).1.2.2) deltas (Qbv c2 c3)
  split
  ·rw [e]
   show (runS days l deltas).2.length ≤ 200
   rw [r1.1]; omega
  simp
 rw [if_neg g]; simp
theorem QdP (days deltas : List Int) (l : List Sp) (h2 : deltas.length ≤ 200) : (formS days deltas l).1.length ≤ 1024 ∧ (formS days deltas l).2.1.length ≤ 200 := by
 by_cases g : (formS days deltas l).2.2 = 0
 ·obtain ⟨c1, c2, c3, e⟩ := QbM g
  obtain ⟨hl, hs⟩ := spS_ok c1
  obtain ⟨r1, _, _, _, r5⟩ := Qbu days l (fun s x => (hs s x).1.2.2) deltas (Qbv c2 c3)
  rw [e]
  show (runS days l deltas).1.length ≤ 1024 ∧ (runS days l deltas).2.length ≤ 200
  rw [r1.1, r5]
  omega
 obtain ⟨e1, e2⟩ := Qcq g
 rw [e1, e2]
 simp
end Go.Proofs.Ytggbflplbblgbaa.Pr
