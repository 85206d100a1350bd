/- Tier: how spreads are formed, one by one (S91). -/
import Derived.Test.YtggbflplbblgbaaQ962LmTier
import Derived.Test.YtggbflplbblgbaaQ962P0
namespace Go.Proofs.Ytggbflplbblgbaa.Pr
open Go.RowKit Go.Proofs.Ytggbflplbblgbaa.Pr Go.Proofs.YtggbflplbblgbaaW.PrintWords Go.Proofs.YtggbflplbblgbaaW.PrintLast Go.Proofs.YtggbflplbblgbaaW.PrintMore
set_option linter.unusedVariables false
set_option linter.unusedSimpArgs false
def canS (a b : Int) : Int := if 0 < a ∧ b < 0 then mn a (-b) / 1000 else if a < 0 ∧ 0 < b then mn (-a) b / 1000 else 0
def nearT (n k : Int) : Int := if n < 0 then n + 1000 * k else n - 1000 * k
def inB (x : Int) : Prop := -1099511627776 ≤ x ∧ x ≤ 1099511627776
instance (x : Int) : Decidable (inB x) := by unfold inB; infer_instance
def keepI (x y : Int) : Prop := (x - y) % 1000 = 0 ∧ (0 ≤ x → 0 ≤ y ∧ y ≤ x) ∧ (x ≤ 0 → x ≤ y ∧ y ≤ 0)
theorem QbL {a b : Int} (h : 0 < a ∧ b < 0) : ∃ k, canS a b = k ∧ k = mn a (-b) / 1000 ∧ 0 ≤ k ∧ 1000 * k ≤ a ∧ 1000 * k ≤ -b ∧ (a < 1000 * k + 1000 ∨ -b < 1000 * k + 1000) := by
 refine ⟨_, rfl, ?_, ?_⟩
 ·unfold canS; rw [if_pos h]
 unfold canS; rw [if_pos h]
 unfold mn
 split <;> omega
theorem QbK {a b : Int} (h : a < 0 ∧ 0 < b) : ∃ k, canS a b = k ∧ k = mn (-a) b / 1000 ∧ 0 ≤ k ∧ 1000 * k ≤ -a ∧ 1000 * k ≤ b ∧ (-a < 1000 * k + 1000 ∨ b < 1000 * k + 1000) := by
 refine ⟨_, rfl, ?_, ?_⟩
 ·unfold canS; rw [if_neg (by omega), if_pos h]
 unfold canS; rw [if_neg (by omega), if_pos h]
 unfold mn
 split <;> omega
theorem Qa9 {a b : Int} (h : ¬ (0 < a ∧ b < 0)) (h2 : ¬ (a < 0 ∧ 0 < b)) : canS a b = 0 := by unfold canS; rw [if_neg h, if_neg h2]
theorem QbF (a : Int) : nearT a 0 = a := by unfold nearT; split <;> omega
theorem Qb1 (a b : Int) : keepI a (nearT a (canS a b)) ∧ keepI b (nearT b (canS a b)) ∧ nearT a (canS a b) + nearT b (canS a b) = a + b ∧ canS (nearT a (canS a b)) (nearT b (canS a b)) = 0 := by
 by_cases h1 : 0 < a ∧ b < 0
 ·obtain ⟨k, e, _, k0, k1, k2, k3⟩ := QbL h1
  rw [e]
  unfold nearT keepI
  rw [if_neg (show ¬ a < 0 by omega), if_pos (show b < 0 by omega)]
  refine ⟨by omega, by omega, by omega, ?_⟩
  by_cases g : 0 < a - 1000 * k ∧ b + 1000 * k < 0
  ·unfold canS mn
   rw [if_pos g]
   split <;> omega
  exact Qa9 g (by omega)
 by_cases h2 : a < 0 ∧ 0 < b
 ·obtain ⟨k, e, _, k0, k1, k2, k3⟩ := QbK h2
  rw [e]
  unfold nearT keepI
  rw [if_pos (show a < 0 by omega), if_neg (show ¬ b < 0 by omega)]
  refine ⟨by omega, by omega, by omega, ?_⟩
  by_cases g : a + 1000 * k < 0 ∧ 0 < b - 1000 * k
  ·unfold canS mn
   rw [if_neg (by omega), if_pos g]
   split <;> omega
  exact Qa9 (by omega) g
 rw [Qa9 h1 h2, QbF, QbF]
 exact ⟨by unfold keepI; omega, by unfold keepI; omega, rfl, Qa9 h1 h2⟩
theorem QcU {x y z : Int} (h : keepI x y) (k : keepI y z) : keepI x z := by unfold keepI at *; omega
theorem QbS (x : Int) : keepI x x := by unfold keepI; omega
theorem QcE {x y : Int} (h : keepI x y) (hx : inB x) : inB y := by unfold keepI inB at *; omega
theorem Qdn {a b c d : Int} (h : keepI a c) (k : keepI b d) (e : canS a b = 0) : canS c d = 0 := by
 by_cases g1 : 0 < c ∧ d < 0
 ·obtain ⟨k1, e1, _, a1, a2, a3, a4⟩ := QbL (a := a) (b := b) (by unfold keepI at *; omega)
  obtain ⟨k2, e2, _, b1, b2, b3, b4⟩ := QbL g1
  rw [e2]
  rw [e1] at e
  unfold keepI at *
  omega
 by_cases g2 : c < 0 ∧ 0 < d
 ·obtain ⟨k1, e1, _, a1, a2, a3, a4⟩ := QbK (a := a) (b := b) (by unfold keepI at *; omega)
  obtain ⟨k2, e2, _, b1, b2, b3, b4⟩ := QbK g2
  rw [e2]
  rw [e1] at e
  unfold keepI at *
  omega
 exact Qa9 g1 g2
theorem tdv {x : Int} (h : 0 ≤ x) : Int.tdiv x 1000 = x / 1000 := Int.tdiv_eq_ediv_of_nonneg h
theorem tw64 {x : Int} (h : -1152921504606846976 ≤ x ∧ x ≤ 1152921504606846976) : wrap64 x = x := IntWalk.wrap64_in x (by omega)
theorem Qem (a b : Int) (ha : inB a) (hb : inB b) (k : Nat) (hk : 2 ≤ k) : Qam.f k a b = some (canS a b) := by
 obtain ⟨k, rfl⟩ : ∃ m, k = m + 2 := ⟨k - 2, by omega⟩
 unfold inB at ha hb
 unfold Qam.f
 by_cases h : a < 0
 ·rw [if_pos h, Qam.j0]
  by_cases h2 : b ≤ 0
  ·rw [if_pos h2, Qam.j1, if_pos rfl, Qa9 (by omega) (by omega)]
  rw [if_neg h2, decide_eq_false (show ¬ a ≥ 0 by omega), Qam.j1, if_neg (by decide), tw64 (x := -a) (by omega)]
  unfold canS mn
  rw [if_neg (show ¬ (0 < a ∧ b < 0) by omega), if_pos (show a < 0 ∧ 0 < b by omega)]
  by_cases h3 : b > -a
  ·rw [if_pos h3, if_neg (show ¬ b < -a by omega), tdv (by omega), tw64 (by omega)]
  rw [if_neg h3, tdv (by omega), tw64 (by omega)]
  by_cases h4 : b < -a
  ·rw [if_pos h4]
  rw [if_neg h4, show b = -a by omega]
 rw [if_neg h, Qam.j0]
 by_cases h2 : a ≤ 0
 ·rw [if_pos h2, Qam.j1, if_pos rfl, Qa9 (by omega) (by omega)]
 rw [if_neg h2]
 by_cases h5 : b ≥ 0
 ·rw [decide_eq_true h5, Qam.j1, if_pos rfl, Qa9 (by omega) (by omega)]
 rw [decide_eq_false h5, Qam.j1, if_neg (by decide), tw64 (x := -b) (by omega)]
 unfold canS mn
 rw [if_pos (show 0 < a ∧ b < 0 by omega)]
 by_cases h3 : a > -b
 ·rw [if_pos h3, if_pos (show -b < a by omega), tdv (by omega), tw64 (by omega)]
 rw [if_neg h3, if_neg (show ¬ -b < a by omega), tdv (by omega), tw64 (by omega)]
theorem Qcf (a b : Int) (ha : inB a) : 0 ≤ canS a b ∧ canS a b ≤ 1099511628 := by
 unfold inB at ha
 by_cases h1 : 0 < a ∧ b < 0
 ·obtain ⟨k, e, _, k0, k1, k2, k3⟩ := QbL h1; rw [e]; omega
 by_cases h2 : a < 0 ∧ 0 < b
 ·obtain ⟨k, e, _, k0, k1, k2, k3⟩ := QbK h2; rw [e]; omega
 rw [Qa9 h1 h2]; omega
theorem QcS (a k : Int) (ha : inB a) (hk : 0 ≤ k ∧ k ≤ 1099511628) : QaL.f a k = some (nearT a k) := by
 unfold inB at ha
 unfold QaL.f nearT
 rw [tw64 (x := 1000 * k) (by omega)]
 by_cases h : a < 0
 ·rw [if_pos h, if_pos h, tw64 (by omega)]
 rw [if_neg h, if_neg h, tw64 (by omega)]
def pairS (left : List Int) (a b : Nat) : Int × List Int :=
 (canS (rd left (a : Int)) (rd left (b : Int)), (left.set a (nearT (rd left (a : Int)) (canS (rd left (a : Int)) (rd left (b : Int))))).set b (nearT (rd left (b : Int)) (canS (rd left (a : Int)) (rd left (b : Int)))))
theorem Qcu {left : List Int} {a b : Nat} (h : canS (rd left (a : Int)) (rd left (b : Int)) = 0) : pairS left a b = (0, left) := by
 unfold pairS
 rw [h, QbF, QbF, set_rd, set_rd]
def stepS (days : List Int) (s : Sp) (left : List Int) : Int × List Int :=
 if 0 ≤ plc days s.f0 0 ∧ 0 ≤ plc days s.f1 0 then pairS left (plc days s.f0 0).toNat (plc days s.f1 0).toNat else (0, left)
def runS (days : List Int) : List Sp → List Int → List Int × List Int
 | [], left => ([], left)
 | s :: t, left => ((stepS days s left).1 :: (runS days t (stepS days s left).2).1, (runS days t (stepS days s left).2).2)
theorem QbD (days : List Int) (s : Sp) (t : List Sp) (left : List Int) : runS days (s :: t) left = ((stepS days s left).1 :: (runS days t (stepS days s left).2).1, (runS days t (stepS days s left).2).2) := rfl
def okL (days left : List Int) : Prop := left.length = days.length ∧ ∀ x ∈ left, inB x
theorem okL_rd {days left : List Int} (h : okL days left) {a : Nat} (ha : a < days.length) : inB (rd left (a : Int)) := by
 rw [rd_at left a (by rw [h.1]; exact ha)]
 exact h.2 _ (List.getElem_mem _)
theorem places {days : List Int} {s : Sp} (hs : s.f0 ≠ s.f1) (h : 0 ≤ plc days s.f0 0 ∧ 0 ≤ plc days s.f1 0) : ∃ a b : Nat, plc days s.f0 0 = (a : Int) ∧ plc days s.f1 0 = (b : Int) ∧ a < days.length ∧ b < days.length ∧ a ≠ b := by
 obtain ⟨a, e1, ha, x1⟩ := QbN s.f0 days 0 h.1
 obtain ⟨b, e2, hb, x2⟩ := QbN s.f1 days 0 h.2
 refine ⟨a, b, by rw [e1, Nat.zero_add], by rw [e2, Nat.zero_add], ha, hb, ?_⟩
 rintro rfl
 exact hs (x1.symm.trans x2)
theorem Qci (left : List Int) (a b : Nat) (hab : a ≠ b) (ha : a < left.length) (hb : b < left.length) (j : Nat) (hj : j < left.length) :
  rd (pairS left a b).2 (j : Int) = if j = a then nearT (rd left (a : Int)) (canS (rd left (a : Int)) (rd left (b : Int))) else if j = b then nearT (rd left (b : Int)) (canS (rd left (a : Int)) (rd left (b : Int))) else rd left (j : Int) := by
 unfold pairS
 by_cases h1 : j = a
 ·subst h1
  rw [if_pos rfl, Qbt _ _ _ _ (Ne.symm hab), Qcw _ _ _ ha]
 rw [if_neg h1]
 by_cases h2 : j = b
 ·subst h2
  rw [if_pos rfl, Qcw _ _ _ (by rw [List.length_set]; exact hb)]
 rw [if_neg h2, Qbt _ _ _ _ (fun e => h2 e.symm), Qbt _ _ _ _ (fun e => h1 e.symm)]
theorem QdX (left : List Int) (a b : Nat) : (pairS left a b).2.length = left.length := by unfold pairS; rw [List.length_set, List.length_set]
theorem QdA (left : List Int) (a b : Nat) (hab : a ≠ b) (ha : a < left.length) (hb : b < left.length) (j : Nat) (hj : j < left.length) : keepI (rd left (j : Int)) (rd (pairS left a b).2 (j : Int)) := by
 obtain ⟨n1, n2, n3, n4⟩ := Qb1 (rd left (a : Int)) (rd left (b : Int))
 rw [Qci left a b hab ha hb j hj]
 split
 ·next h => subst h; exact n1
 split
 ·next h => subst h; exact n2
 exact QbS _
theorem QdY (left : List Int) (a b : Nat) (hab : a ≠ b) (ha : a < left.length) (hb : b < left.length) : (pairS left a b).2.sum = left.sum := by
 obtain ⟨n1, n2, n3, n4⟩ := Qb1 (rd left (a : Int)) (rd left (b : Int))
 unfold pairS
 rw [Qc4 _ _ _ (by rw [List.length_set]; exact hb), Qc4 _ _ _ ha, Qbt _ _ _ _ hab]
 omega
theorem QcD {days left : List Int} (hl : left.length = days.length) (h : ∀ j : Nat, j < days.length → inB (rd left (j : Int))) : okL days left := by
 refine ⟨hl, fun x hx => ?_⟩
 obtain ⟨j, hj, rfl⟩ := List.getElem_of_mem hx
 rw [← rd_at left j hj]
 exact h j (by omega)
theorem QbG (days : List Int) (s : Sp) (hs : s.f0 ≠ s.f1) (left : List Int) (h : okL days left) :
  okL days (stepS days s left).2 ∧ (∀ j : Nat, j < days.length → keepI (rd left (j : Int)) (rd (stepS days s left).2 (j : Int))) ∧ (stepS days s left).2.sum = left.sum ∧ 0 ≤ (stepS days s left).1 ∧ (stepS days s left).1 ≤ 1099511628 := by
 unfold stepS
 by_cases g : 0 ≤ plc days s.f0 0 ∧ 0 ≤ plc days s.f1 0
 ·obtain ⟨a, b, ea, eb, ha, hb, hab⟩ := places hs g
  rw [if_pos g, ea, eb, Int.toNat_natCast, Int.toNat_natCast]
  have ha' : a < left.length := by rw [h.1]; exact ha
  have hb' : b < left.length := by rw [h.1]; exact hb
  have kp := fun (j : Nat) (hj : j < days.length) => QdA left a b hab ha' hb' j (by rw [h.1]; exact hj)
  have bd := Qcf (rd left (a : Int)) (rd left (b : Int)) (okL_rd h ha)
  exact ⟨QcD (by rw [QdX]; exact h.1) (fun j hj => QcE (kp j hj) (okL_rd h hj)), kp, QdY left a b hab ha' hb', bd.1, bd.2⟩
 rw [if_neg g]
 exact ⟨h, fun j _ => QbS _, rfl, Int.le_refl 0, show (0 : Int) ≤ 1099511628 by decide⟩
theorem Qbu (days : List Int) : ∀ (l : List Sp), (∀ s ∈ l, s.f0 ≠ s.f1) → ∀ left : List Int, okL days left →
  okL days (runS days l left).2 ∧ (∀ j : Nat, j < days.length → keepI (rd left (j : Int)) (rd (runS days l left).2 (j : Int))) ∧ (runS days l left).2.sum = left.sum ∧ (∀ x ∈ (runS days l left).1, 0 ≤ x ∧ x ≤ 1099511628) ∧ (runS days l left).1.length = l.length
 | [], _, left, h => ⟨h, fun j _ => QbS _, rfl, fun x hx => (List.not_mem_nil hx).elim, rfl⟩
 | s :: t, hs, left, h => by
  obtain ⟨f1, f2, f3, f4, f5⟩ := QbG days s (hs s List.mem_cons_self) left h
  obtain ⟨g1, g2, g3, g4, g5⟩ := Qbu days t (fun x hx => hs x (List.mem_cons_of_mem _ hx)) _ f1
  rw [QbD]
  refine ⟨g1, fun j hj => QcU (f2 j hj) (g2 j hj), g3.trans f3, fun x hx => ?_, by simp only [List.length_cons, g5]⟩
  rcases List.mem_cons.1 hx with rfl | hx
  ·exact ⟨f4, f5⟩
  exact g4 x hx
def doneAt (days : List Int) (s : Sp) (left : List Int) : Prop := 0 ≤ plc days s.f0 0 ∧ 0 ≤ plc days s.f1 0 → canS (rd left (plc days s.f0 0)) (rd left (plc days s.f1 0)) = 0
theorem Qds {days : List Int} {s : Sp} (hs : s.f0 ≠ s.f1) {x y : List Int} (h : doneAt days s x) (k : ∀ j : Nat, j < days.length → keepI (rd x (j : Int)) (rd y (j : Int))) : doneAt days s y := by
 intro g
 have e := h g
 obtain ⟨a, b, ea, eb, ha, hb, hab⟩ := places hs g
 rw [ea, eb] at e ⊢
 exact Qdn (k a ha) (k b hb) e
theorem QdF (days : List Int) (s : Sp) (hs : s.f0 ≠ s.f1) (left : List Int) (h : okL days left) : doneAt days s (stepS days s left).2 := by
 intro g
 unfold stepS
 obtain ⟨a, b, ea, eb, ha, hb, hab⟩ := places hs g
 rw [if_pos g, ea, eb, Int.toNat_natCast, Int.toNat_natCast]
 have ha' : a < left.length := by rw [h.1]; exact ha
 have hb' : b < left.length := by rw [h.1]; exact hb
 rw [Qci left a b hab ha' hb' a ha', Qci left a b hab ha' hb' b hb', if_pos rfl, if_neg (Ne.symm hab), if_pos rfl]
 exact (Qb1 _ _).2.2.2
theorem QcP (days : List Int) : ∀ (l : List Sp), (∀ s ∈ l, s.f0 ≠ s.f1) → ∀ left : List Int, okL days left → ∀ s ∈ l, doneAt days s (runS days l left).2
 | [], _, _, _, s, hs => by cases hs
 | x :: t, hs, left, h, s, hm => by
  have f := QbG days x (hs x List.mem_cons_self) left h
  have g := Qbu days t (fun y hy => hs y (List.mem_cons_of_mem _ hy)) _ f.1
  rw [QbD]
  rcases List.mem_cons.1 hm with rfl | hm
  ·exact Qds (hs _ List.mem_cons_self) (QdF days _ (hs _ List.mem_cons_self) left h) g.2.1
  exact QcP days t (fun y hy => hs y (List.mem_cons_of_mem _ hy)) _ f.1 s hm
theorem QdG (days : List Int) (s : Sp) (hs : s.f0 ≠ s.f1) (left : List Int) (h : doneAt days s left) : stepS days s left = (0, left) := by
 unfold stepS
 by_cases g : 0 ≤ plc days s.f0 0 ∧ 0 ≤ plc days s.f1 0
 ·have e := h g
  obtain ⟨a, b, ea, eb, ha, hb, hab⟩ := places hs g
  rw [ea, eb] at e
  rw [if_pos g, ea, eb, Int.toNat_natCast, Int.toNat_natCast, Qcu e]
 rw [if_neg g]
theorem QcQ (days : List Int) : ∀ (l : List Sp), (∀ s ∈ l, s.f0 ≠ s.f1) → ∀ left : List Int, (∀ s ∈ l, doneAt days s left) → runS days l left = (List.replicate l.length 0, left)
 | [], _, left, _ => rfl
 | s :: t, hs, left, h => by
  rw [QbD, QdG days s (hs s List.mem_cons_self) left (h s List.mem_cons_self)]
  rw [QcQ days t (fun x hx => hs x (List.mem_cons_of_mem _ hx)) left (fun x hx => h x (List.mem_cons_of_mem _ hx))]
  rfl
end Go.Proofs.Ytggbflplbblgbaa.Pr
