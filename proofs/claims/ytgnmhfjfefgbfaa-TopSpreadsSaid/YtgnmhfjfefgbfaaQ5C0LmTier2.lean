/- Tier: how spreads are formed, one by one (S146). -/
import Derived.Test.YtgnmhfjfefgbfaaQ5C0LmTier
import Derived.Test.YtgnmhfjfefgbfaaQ5C0P0
namespace Go.Proofs.Ytgnmhfjfefgbfaa.Pr
open Go.RowKit Go.Proofs.Ytgnmhfjfefgbfaa.Pr Go.Proofs.YtgnmhfjfefgbfaaW.PrintWords Go.Proofs.YtgnmhfjfefgbfaaW.PrintLast Go.Proofs.YtgnmhfjfefgbfaaW.PrintMore
set_option linter.unusedVariables false
set_option linter.unusedSimpArgs false
def canS (a b : Int) : Int := if 0 < a ∧ b < 0 then mn a (-b) / 1000 else if a < 0 ∧ 0 < b then mn (-a) b / 1000 else 0
def nearT (n k : Int) : Int := if n < 0 then n + 1000 * k else n - 1000 * k
def inB (x : Int) : Prop := -1099511627776 ≤ x ∧ x ≤ 1099511627776
instance (x : Int) : Decidable (inB x) := by unfold inB; infer_instance
def keepI (x y : Int) : Prop := (x - y) % 1000 = 0 ∧ (0 ≤ x → 0 ≤ y ∧ y ≤ x) ∧ (x ≤ 0 → x ≤ y ∧ y ≤ 0)
theorem QcW {a b : Int} (h : 0 < a ∧ b < 0) : ∃ k, canS a b = k ∧ k = mn a (-b) / 1000 ∧ 0 ≤ k ∧ 1000 * k ≤ a ∧ 1000 * k ≤ -b ∧ (a < 1000 * k + 1000 ∨ -b < 1000 * k + 1000) := by
 refine ⟨_, rfl, ?_, ?_⟩
 ·unfold canS; rw [if_pos h]
 unfold canS; rw [if_pos h]
 unfold mn
 split <;> omega
theorem QcV {a b : Int} (h : a < 0 ∧ 0 < b) : ∃ k, canS a b = k ∧ k = mn (-a) b / 1000 ∧ 0 ≤ k ∧ 1000 * k ≤ -a ∧ 1000 * k ≤ b ∧ (-a < 1000 * k + 1000 ∨ b < 1000 * k + 1000) := by
 refine ⟨_, rfl, ?_, ?_⟩
 ·unfold canS; rw [if_neg (by omega), if_pos h]
 unfold canS; rw [if_neg (by omega), if_pos h]
 unfold mn
 split <;> omega
theorem QbL {a b : Int} (h : ¬ (0 < a ∧ b < 0)) (h2 : ¬ (a < 0 ∧ 0 < b)) : canS a b = 0 := by unfold canS; rw [if_neg h, if_neg h2]
theorem Qb8 (a : Int) : nearT a 0 = a := by unfold nearT; split <;> omega
theorem QdZ (a b : Int) : keepI a (nearT a (canS a b)) ∧ keepI b (nearT b (canS a b)) ∧ nearT a (canS a b) + nearT b (canS a b) = a + b ∧ canS (nearT a (canS a b)) (nearT b (canS a b)) = 0 := by
 by_cases h1 : 0 < a ∧ b < 0
 ·obtain ⟨k, e, _, k0, k1, k2, k3⟩ := QcW h1
  rw [e]
  unfold nearT keepI
  rw [if_neg (show ¬ a < 0 by omega), if_pos (show b < 0 by omega)]
  refine ⟨by omega, by omega, by omega, ?_⟩
  by_cases g : 0 < a - 1000 * k ∧ b + 1000 * k < 0
  ·unfold canS mn
   rw [if_pos g]
   split <;> omega
  exact QbL g (by omega)
 by_cases h2 : a < 0 ∧ 0 < b
 ·obtain ⟨k, e, _, k0, k1, k2, k3⟩ := QcV h2
  rw [e]
  unfold nearT keepI
  rw [if_pos (show a < 0 by omega), if_neg (show ¬ b < 0 by omega)]
  refine ⟨by omega, by omega, by omega, ?_⟩
  by_cases g : a + 1000 * k < 0 ∧ 0 < b - 1000 * k
  ·unfold canS mn
   rw [if_neg (by omega), if_pos g]
   split <;> omega
  exact QbL (by omega) g
 rw [QbL h1 h2, Qb8, Qb8]
 exact ⟨by unfold keepI; omega, by unfold keepI; omega, rfl, QbL h1 h2⟩
theorem Qef {x y z : Int} (h : keepI x y) (k : keepI y z) : keepI x z := by unfold keepI at *; omega
theorem Qcz (x : Int) : keepI x x := by unfold keepI; omega
theorem QfG {x y : Int} (h : keepI x y) (hx : inB x) : inB y := by unfold keepI inB at *; omega
theorem tdv {x : Int} (h : 0 ≤ x) : Int.tdiv x 1000 = x / 1000 := Int.tdiv_eq_ediv_of_nonneg h
theorem tw64 {x : Int} (h : -1152921504606846976 ≤ x ∧ x ≤ 1152921504606846976) : wrap64 x = x := IntWalk.wrap64_in x (by omega)
theorem Qep (a b : Int) (ha : inB a) : 0 ≤ canS a b ∧ canS a b ≤ 1099511628 := by
 unfold inB at ha
 by_cases h1 : 0 < a ∧ b < 0
 ·obtain ⟨k, e, _, k0, k1, k2, k3⟩ := QcW h1; rw [e]; omega
 by_cases h2 : a < 0 ∧ 0 < b
 ·obtain ⟨k, e, _, k0, k1, k2, k3⟩ := QcV h2; rw [e]; omega
 rw [QbL h1 h2]; omega
def pairS (left : List Int) (a b : Nat) : Int × List Int :=
 (canS (rd left (a : Int)) (rd left (b : Int)), (left.set a (nearT (rd left (a : Int)) (canS (rd left (a : Int)) (rd left (b : Int))))).set b (nearT (rd left (b : Int)) (canS (rd left (a : Int)) (rd left (b : Int)))))
theorem Qfj {left : List Int} {a b : Nat} (h : canS (rd left (a : Int)) (rd left (b : Int)) = 0) : pairS left a b = (0, left) := by
 unfold pairS
 rw [h, Qb8, Qb8, set_rd, set_rd]
def stepS (days : List Int) (s : Sp) (left : List Int) : Int × List Int :=
 if 0 ≤ plc days s.f0 0 ∧ 0 ≤ plc days s.f1 0 then pairS left (plc days s.f0 0).toNat (plc days s.f1 0).toNat else (0, left)
def runS (days : List Int) : List Sp → List Int → List Int × List Int
 | [], left => ([], left)
 | s :: t, left => ((stepS days s left).1 :: (runS days t (stepS days s left).2).1, (runS days t (stepS days s left).2).2)
theorem QdH (days : List Int) (s : Sp) (t : List Sp) (left : List Int) : runS days (s :: t) left = ((stepS days s left).1 :: (runS days t (stepS days s left).2).1, (runS days t (stepS days s left).2).2) := rfl
def okL (days left : List Int) : Prop := left.length = days.length ∧ ∀ x ∈ left, inB x
theorem okL_rd {days left : List Int} (h : okL days left) {a : Nat} (ha : a < days.length) : inB (rd left (a : Int)) := by
 rw [rd_at left a (by rw [h.1]; exact ha)]
 exact h.2 _ (List.getElem_mem _)
theorem places {days : List Int} {s : Sp} (hs : s.f0 ≠ s.f1) (h : 0 ≤ plc days s.f0 0 ∧ 0 ≤ plc days s.f1 0) : ∃ a b : Nat, plc days s.f0 0 = (a : Int) ∧ plc days s.f1 0 = (b : Int) ∧ a < days.length ∧ b < days.length ∧ a ≠ b := by
 obtain ⟨a, e1, ha, x1⟩ := Qcf s.f0 days 0 h.1
 obtain ⟨b, e2, hb, x2⟩ := Qcf s.f1 days 0 h.2
 refine ⟨a, b, by rw [e1, Nat.zero_add], by rw [e2, Nat.zero_add], ha, hb, ?_⟩
 rintro rfl
 exact hs (x1.symm.trans x2)
theorem Qgp (left : List Int) (a b : Nat) (hab : a ≠ b) (ha : a < left.length) (hb : b < left.length) (j : Nat) (hj : j < left.length) :
  rd (pairS left a b).2 (j : Int) = if j = a then nearT (rd left (a : Int)) (canS (rd left (a : Int)) (rd left (b : Int))) else if j = b then nearT (rd left (b : Int)) (canS (rd left (a : Int)) (rd left (b : Int))) else rd left (j : Int) := by
 unfold pairS
 by_cases h1 : j = a
 ·subst h1
  rw [if_pos rfl, QbW _ _ _ _ (Ne.symm hab), QdF _ _ _ ha]
 rw [if_neg h1]
 by_cases h2 : j = b
 ·subst h2
  rw [if_pos rfl, QdF _ _ _ (by rw [List.length_set]; exact hb)]
 rw [if_neg h2, QbW _ _ _ _ (fun e => h2 e.symm), QbW _ _ _ _ (fun e => h1 e.symm)]
theorem QfN (left : List Int) (a b : Nat) : (pairS left a b).2.length = left.length := by unfold pairS; rw [List.length_set, List.length_set]
theorem Qfi (left : List Int) (a b : Nat) (hab : a ≠ b) (ha : a < left.length) (hb : b < left.length) (j : Nat) (hj : j < left.length) : keepI (rd left (j : Int)) (rd (pairS left a b).2 (j : Int)) := by
 obtain ⟨n1, n2, n3, n4⟩ := QdZ (rd left (a : Int)) (rd left (b : Int))
 rw [Qgp left a b hab ha hb j hj]
 split
 ·next h => subst h; exact n1
 split
 ·next h => subst h; exact n2
 exact Qcz _
theorem QfO (left : List Int) (a b : Nat) (hab : a ≠ b) (ha : a < left.length) (hb : b < left.length) : (pairS left a b).2.sum = left.sum := by
 obtain ⟨n1, n2, n3, n4⟩ := QdZ (rd left (a : Int)) (rd left (b : Int))
 unfold pairS
 rw [QeP _ _ _ (by rw [List.length_set]; exact hb), QeP _ _ _ ha, QbW _ _ _ _ hab]
 omega
theorem QdU {days left : List Int} (hl : left.length = days.length) (h : ∀ j : Nat, j < days.length → inB (rd left (j : Int))) : okL days left := by
 refine ⟨hl, fun x hx => ?_⟩
 obtain ⟨j, hj, rfl⟩ := List.getElem_of_mem hx
 rw [← rd_at left j hj]
 exact h j (by omega)
theorem Qde (days : List Int) (s : Sp) (hs : s.f0 ≠ s.f1) (left : List Int) (h : okL days left) :
  okL days (stepS days s left).2 ∧ (∀ j : Nat, j < days.length → keepI (rd left (j : Int)) (rd (stepS days s left).2 (j : Int))) ∧ (stepS days s left).2.sum = left.sum ∧ 0 ≤ (stepS days s left).1 ∧ (stepS days s left).1 ≤ 1099511628 := by
 unfold stepS
 by_cases g : 0 ≤ plc days s.f0 0 ∧ 0 ≤ plc days s.f1 0
 ·obtain ⟨a, b, ea, eb, ha, hb, hab⟩ := places hs g
  rw [if_pos g, ea, eb, Int.toNat_natCast, Int.toNat_natCast]
  have ha' : a < left.length := by rw [h.1]; exact ha
  have hb' : b < left.length := by rw [h.1]; exact hb
  have kp := fun (j : Nat) (hj : j < days.length) => Qfi left a b hab ha' hb' j (by rw [h.1]; exact hj)
  have bd := Qep (rd left (a : Int)) (rd left (b : Int)) (okL_rd h ha)
  exact ⟨QdU (by rw [QfN]; exact h.1) (fun j hj => QfG (kp j hj) (okL_rd h hj)), kp, QfO left a b hab ha' hb', bd.1, bd.2⟩
 rw [if_neg g]
 exact ⟨h, fun j _ => Qcz _, rfl, Int.le_refl 0, show (0 : Int) ≤ 1099511628 by decide⟩
theorem QdI (days : List Int) : ∀ (l : List Sp), (∀ s ∈ l, s.f0 ≠ s.f1) → ∀ left : List Int, okL days left →
  okL days (runS days l left).2 ∧ (∀ j : Nat, j < days.length → keepI (rd left (j : Int)) (rd (runS days l left).2 (j : Int))) ∧ (runS days l left).2.sum = left.sum ∧ (∀ x ∈ (runS days l left).1, 0 ≤ x ∧ x ≤ 1099511628) ∧ (runS days l left).1.length = l.length
 | [], _, left, h => ⟨h, fun j _ => Qcz _, rfl, fun x hx => (List.not_mem_nil hx).elim, rfl⟩
 | s :: t, hs, left, h => by
  obtain ⟨f1, f2, f3, f4, f5⟩ := Qde days s (hs s List.mem_cons_self) left h
  obtain ⟨g1, g2, g3, g4, g5⟩ := QdI days t (fun x hx => hs x (List.mem_cons_of_mem _ hx)) _ f1
  rw [QdH]
  refine ⟨g1, fun j hj => Qef (f2 j hj) (g2 j hj), g3.trans f3, fun x hx => ?_, by simp only [List.length_cons, g5]⟩
  rcases List.mem_cons.1 hx with rfl | hx
  ·exact ⟨f4, f5⟩
  exact g4 x hx
end Go.Proofs.Ytgnmhfjfefgbfaa.Pr
