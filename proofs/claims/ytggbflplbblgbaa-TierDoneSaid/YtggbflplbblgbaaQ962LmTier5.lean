/- Tier: what is outright, what the laws' own loops say (S91). -/
import Derived.Test.YtggbflplbblgbaaQ962LmCentsMul
import Derived.Test.YtggbflplbblgbaaQ962LmName
import Derived.Test.YtggbflplbblgbaaQ962LmSums
import Derived.Test.YtggbflplbblgbaaQ962LmTier
import Derived.Test.YtggbflplbblgbaaQ962LmTier2
import Derived.Test.YtggbflplbblgbaaQ962LmTier3
import Derived.Test.YtggbflplbblgbaaQ962LmTier4
import Derived.Test.YtggbflplbblgbaaQ962P0
import Derived.Test.YtggbflplbblgbaaQ962P2
namespace Go.Proofs.Ytggbflplbblgbaa.Pr
open Go.RowKit Go.Proofs.Ytggbflplbblgbaa.Pr Go.Proofs.YtggbflplbblgbaaW.PrintWords Go.Proofs.YtggbflplbblgbaaW.PrintLast Go.Proofs.YtggbflplbblgbaaW.PrintMore
set_option linter.unusedVariables false
set_option linter.unusedSimpArgs false
theorem Qef (a : Int) : Qbc.f a = some (!decide (inB a)) := by
 unfold Qbc.f
 rw [Qbq, Option.bind_some]
 rfl
theorem QdQ (l : List Int) (hl : l.length ≤ 1152921504606846975) : ∀ d i k : Nat, i + d = l.length → d + 1 ≤ k → ∃ r : Int, Qaq.l0 k l (l.length : Int) (i : Int) = some r ∧ (r ≥ 0 ↔ ¬ ∀ x ∈ l.drop i, inB x) := by
 intro d
 induction d with
 | zero =>
  intro i k hi hk
  obtain ⟨k, rfl⟩ : ∃ m, k = m + 1 := ⟨k - 1, by omega⟩
  refine ⟨-1, by rw [Qaq.l0, if_neg (by omega)], ?_⟩
  rw [List.drop_eq_nil_of_le (by omega)]
  simp
 | succ d ih =>
  intro i k hi hk
  obtain ⟨k, rfl⟩ : ∃ m, k = m + 1 := ⟨k - 1, by omega⟩
  rw [Qaq.l0, if_pos (by omega), if_pos (by omega), if_pos (by omega), Qef, Option.bind_some, Qbx l i (by omega)]
  by_cases h : inB (rd l (i : Int))
  ·obtain ⟨r, e, hr⟩ := ih (i + 1) k (by omega) (by omega)
   refine ⟨r, ?_, ?_⟩
   ·rw [decide_eq_true h, if_neg (by decide), nwrap (x := (i : Int) + 1) (by omega) (by omega), show ((i : Int) + 1) = ((i + 1 : Nat) : Int) by omega, e]
   rw [hr]
   simp only [List.mem_cons, forall_eq_or_imp, h, true_and]
  refine ⟨(i : Int), by rw [decide_eq_false h, if_pos (by decide)], ?_⟩
  constructor
  ·intro _ x
   exact h (x _ List.mem_cons_self)
  intro _; omega
theorem Qen (l : List Int) (hl : l.length ≤ 1152921504606846975) (k : Nat) (hk : l.length + 1 ≤ k) : Qav.f k l = some (!decide (∀ x ∈ l, inB x)) := by
 unfold Qav.f Qaq.f
 obtain ⟨r, e, hr⟩ := QdQ l hl l.length 0 k (by omega) hk
 rw [List.drop_zero] at hr
 rw [show (0 : Int) = ((0 : Nat) : Int) from rfl, e, Option.bind_some]
 show some (decide (r ≥ (0 : Int))) = some (!decide (∀ x ∈ l, inB x))
 congr 1
 by_cases h : ∀ x ∈ l, inB x
 ·rw [decide_eq_true h, decide_eq_false (fun x => (hr.1 x) h)]; rfl
 rw [decide_eq_false h, decide_eq_true (hr.2 h)]; rfl
def lots (l : List Int) : Int := (l.map (fun x => (x.natAbs : Int) / 1000)).sum
theorem Qcr (x : Int) (t : List Int) : lots (x :: t) = (x.natAbs : Int) / 1000 + lots t := by unfold lots; rw [List.map_cons, List.sum_cons]
theorem QdV (l : List Int) (rate : Int) (hl : l.length ≤ 1024) (hb : ∀ x ∈ l, inB x) : ∀ d i k : Nat, i + d = l.length → d + 2 ≤ k → ∀ acc : Int, 0 ≤ acc → acc ≤ (i : Int) * 1099511628 → Qap.l0 k rate acc l (l.length : Int) (i : Int) = some (mulS (acc + lots (l.drop i)) rate) := by
 intro d
 induction d with
 | zero =>
  intro i k hi hk acc a0 a1
  obtain ⟨k, rfl⟩ : ∃ m, k = m + 1 := ⟨k - 1, by omega⟩
  rw [Qap.l0, if_neg (by omega), List.drop_eq_nil_of_le (by omega), mul_eq _ _ k (by omega), Option.bind_some]
  show some (mulS acc rate) = _
  unfold lots
  rw [List.map_nil, List.sum_nil, Int.add_zero]
 | succ d ih =>
  intro i k hi hk acc a0 a1
  obtain ⟨k, rfl⟩ : ∃ m, k = m + 1 := ⟨k - 1, by omega⟩
  have hx := hb (rd l (i : Int)) (by rw [rd_at l i (by omega)]; exact List.getElem_mem _)
  rw [Qap.l0, if_pos (by omega), if_pos (by omega), if_pos (by omega), size_t _ hx, Option.bind_some, Qbx l i (by omega), Qcr]
  unfold inB at hx
  generalize rd l (i : Int) = x at *
  rw [tdv (by omega), tw64 (x := (x.natAbs : Int) / 1000) (by omega), tw64 (x := acc + (x.natAbs : Int) / 1000) (by omega), nwrap (x := (i : Int) + 1) (by omega) (by omega), show ((i : Int) + 1) = ((i + 1 : Nat) : Int) by omega, ih (i + 1) k (by omega) (by omega) _ (by omega) (by omega), Int.add_assoc]
def outS (l : List Int) (rate : Int) : Int × Int := if 0 ≤ rate ∧ rate ≤ 68719476736 then (if ∀ x ∈ l, inB x then (if (l.length : Int) > 1024 then (0, 8) else mulS (lots l) rate) else (0, 2)) else (0, 2)
theorem out_eq (l : List Int) (rate : Int) (hl : l.length ≤ 1152921504606846975) (k : Nat) (hk : l.length + 10 ≤ k) : Qap.f k l rate = some (outS l rate) := by
 obtain ⟨k, rfl⟩ : ∃ m, k = m + 1 := ⟨k - 1, by omega⟩
 unfold Qap.f outS
 rw [Qbq, Option.bind_some]
 by_cases h : 0 ≤ rate ∧ rate ≤ 68719476736
 ·rw [decide_eq_true h, if_pos rfl, if_pos h, Qen l hl (k + 1) (by omega), Option.bind_some, Qap.j0]
  by_cases h2 : ∀ x ∈ l, inB x
  ·rw [decide_eq_true h2, if_neg (by decide), if_pos h2]
   by_cases h3 : (l.length : Int) > 1024
   ·rw [if_pos h3, if_pos h3]
   rw [if_neg h3, if_neg h3]
   have e := QdV l rate (by omega) h2 l.length 0 k (by omega) (by omega) 0 (Int.le_refl 0) (by omega)
   rw [Int.zero_add, List.drop_zero] at e
   exact e
  rw [decide_eq_false h2, if_pos (by decide), if_neg h2]
 rw [decide_eq_false h, if_neg (by decide), if_neg h, Qap.j0, if_pos rfl]
theorem Qdi (l : List Int) (rate : Int) (hl : l.length ≤ 1024) (hb : ∀ x ∈ l, inB x) : ∀ d i k : Nat, i + d = l.length → d + 2 ≤ k → ∀ acc : Int, 0 ≤ acc → acc ≤ (i : Int) * 1099511628 → Qag.l1 k l rate acc (i : Int) = some (mulS (acc + lots (l.drop i)) rate) := by
 intro d
 induction d with
 | zero =>
  intro i k hi hk acc a0 a1
  obtain ⟨k, rfl⟩ : ∃ m, k = m + 1 := ⟨k - 1, by omega⟩
  rw [Qag.l1, if_neg (by omega), List.drop_eq_nil_of_le (by omega), Qc2 _ _ k (by omega), Option.bind_some]
  show some (mulS acc rate) = _
  unfold lots
  rw [List.map_nil, List.sum_nil, Int.add_zero]
 | succ d ih =>
  intro i k hi hk acc a0 a1
  obtain ⟨k, rfl⟩ : ∃ m, k = m + 1 := ⟨k - 1, by omega⟩
  have hx := hb (rd l (i : Int)) (by rw [rd_at l i (by omega)]; exact List.getElem_mem _)
  rw [Qag.l1, if_pos (by omega), if_pos (by omega), Qbx l i (by omega), Qcr]
  unfold inB at hx
  generalize rd l (i : Int) = x at *
  have nx : wrap64 ((i : Int) + 1) = ((i + 1 : Nat) : Int) := by rw [nwrap (by omega) (by omega)]; omega
  have IH := ih (i + 1) k (by omega) (by omega) (acc + (x.natAbs : Int) / 1000) (by omega) (by omega)
  rw [Int.add_assoc] at IH
  rw [nx]
  clear nx
  by_cases h : x < 0
  ·rw [if_pos h, tw64 (x := -x) (by omega), show -x = (x.natAbs : Int) by omega, tdv (by omega), tw64 (x := (x.natAbs : Int) / 1000) (by omega), tw64 (x := acc + (x.natAbs : Int) / 1000) (by omega), IH]
  rw [if_neg h, show Int.tdiv x 1000 = (x.natAbs : Int) / 1000 by rw [tdv (by omega), show (x.natAbs : Int) = x by omega], tw64 (x := (x.natAbs : Int) / 1000) (by omega), tw64 (x := acc + (x.natAbs : Int) / 1000) (by omega), IH]
theorem Qdh (l : List Int) (rate : Int) (hl : l.length ≤ 1152921504606846975) : ∀ d i k : Nat, i + d = l.length → d + l.length + 3 ≤ k → (∀ j : Nat, j < i → inB (rd l (j : Int))) →
  Qag.l0 k l rate 0 (i : Int) = some (if ∀ x ∈ l, inB x then (if (l.length : Int) > 1024 then (0, 8) else mulS (lots l) rate) else (0, 2)) := by
 intro d
 induction d with
 | zero =>
  intro i k hi hk hj
  obtain ⟨k, rfl⟩ : ∃ m, k = m + 1 := ⟨k - 1, by omega⟩
  have hall : ∀ x ∈ l, inB x := by
   intro x hx
   obtain ⟨j, hj2, rfl⟩ := List.getElem_of_mem hx
   rw [← rd_at l j hj2]
   exact hj j (by omega)
  rw [Qag.l0, if_neg (by omega), if_pos hall]
  by_cases h3 : (l.length : Int) > 1024
  ·rw [if_pos h3, if_pos h3]
  rw [if_neg h3, if_neg h3]
  have e := Qdi l rate (by omega) hall l.length 0 k (by omega) (by omega) 0 (Int.le_refl 0) (by omega)
  rw [Int.zero_add, List.drop_zero] at e
  exact e
 | succ d ih =>
  intro i k hi hk hj
  obtain ⟨k, rfl⟩ : ∃ m, k = m + 1 := ⟨k - 1, by omega⟩
  rw [Qag.l0, if_pos (by omega), if_pos (by omega), Qcb, Option.bind_some]
  by_cases h : inB (rd l (i : Int))
  ·rw [decide_eq_true h, if_pos rfl, nwrap (x := (i : Int) + 1) (by omega) (by omega), show ((i : Int) + 1) = ((i + 1 : Nat) : Int) by omega]
   refine ih (i + 1) k (by omega) (by omega) (fun j hj2 => ?_)
   by_cases c : j = i
   ·rw [c]; exact h
   exact hj j (by omega)
  rw [decide_eq_false h, if_neg (by decide), if_neg (fun x => h (x _ (by rw [rd_at l i (by omega)]; exact List.getElem_mem _)))]
theorem Qei (l : List Int) (rate : Int) (hl : l.length ≤ 1152921504606846975) (k : Nat) (hk : 2 * l.length + 10 ≤ k) : Qag.f k l rate = some (outS l rate) := by
 obtain ⟨k, rfl⟩ : ∃ m, k = m + 1 := ⟨k - 1, by omega⟩
 unfold Qag.f outS
 by_cases h : rate < 0
 ·rw [if_pos h, Qag.j0, if_pos rfl, if_neg (by omega)]
 rw [if_neg h, Qag.j0]
 by_cases h2 : rate > 68719476736
 ·rw [decide_eq_true h2, if_pos rfl, if_neg (by omega)]
 rw [decide_eq_false h2, if_neg (by decide), if_pos (show 0 ≤ rate ∧ rate ≤ 68719476736 by omega)]
 exact Qdh l rate hl l.length 0 k (by omega) (by omega) (fun j hj => by omega)
theorem QdI {x : Int} (h : x % 1000 = 0) : Int.tmod x 1000 = 0 := by
 obtain ⟨q, rfl⟩ : ∃ q, x = 1000 * q := ⟨x / 1000, by omega⟩
 exact Int.mul_tmod_right 1000 q
theorem Qdb (x y : List Int) (hx : x.length ≤ 200) (hl : y.length = x.length) (hb : ∀ j : Nat, j < x.length → inB (rd x (j : Int))) (hk : ∀ j : Nat, j < x.length → keepI (rd x (j : Int)) (rd y (j : Int))) :
  ∀ d i k : Nat, i + d = x.length → d + 3002 ≤ k → ∀ w v : Int, -((i : Int) * 1099511627776) ≤ w → w ≤ (i : Int) * 1099511627776 → -((i : Int) * 1099511627776) ≤ v → v ≤ (i : Int) * 1099511627776 → w + (x.drop i).sum = v + (y.drop i).sum →
   contangolaw24_TierKeeps.l0 k x y w v (i : Int) = some true := by
 intro d
 induction d with
 | zero =>
  intro i k hi hkk w v b1 b2 b3 b4 e
  obtain ⟨k, rfl⟩ : ∃ m, k = m + 1 := ⟨k - 1, by omega⟩
  rw [List.drop_eq_nil_of_le (by omega), List.drop_eq_nil_of_le (by omega), List.sum_nil, Int.add_zero, Int.add_zero] at e
  rw [contangolaw24_TierKeeps.l0, if_neg (by omega), if_pos e, goes24 k (by omega)]
  rfl
 | succ d ih =>
  intro i k hi hkk w v b1 b2 b3 b4 e
  obtain ⟨k, rfl⟩ : ∃ m, k = m + 1 := ⟨k - 1, by omega⟩
  have hbi := hb i (by omega)
  have hki := hk i (by omega)
  rw [Qbx x i (by omega), Qbx y i (by omega), List.sum_cons, List.sum_cons] at e
  rw [contangolaw24_TierKeeps.l0, if_pos (by omega), if_pos (by omega), if_pos (by omega)]
  have IH := ih (i + 1) k (by omega) (by omega)
  clear hb hk ih
  generalize rd x (i : Int) = p at *
  generalize rd y (i : Int) = q at *
  have hq := QcE hki hbi
  unfold inB at hbi hq
  unfold keepI at hki
  have I := IH (w + p) (v + q) (by omega) (by omega) (by omega) (by omega) (by omega)
  have ew : wrap64 (w + p) = w + p := tw64 (by omega)
  have ev : wrap64 (v + q) = v + q := tw64 (by omega)
  have ed : wrap64 (p - q) = p - q := tw64 (by omega)
  have nx : wrap64 ((i : Int) + 1) = ((i + 1 : Nat) : Int) := by rw [nwrap (by omega) (by omega)]; omega
  rw [ew, ev, ed, nx, I, if_pos (QdI hki.1)]
  clear ew ev ed nx I IH e
  by_cases c1 : p ≥ 0
  ·rw [if_pos c1, if_neg (by omega), if_neg (by omega)]
   by_cases c2 : p ≤ 0
   ·rw [if_pos c2, if_neg (by omega), if_neg (by omega)]
   rw [if_neg c2]
  rw [if_neg c1, if_pos (by omega), if_neg (by omega), if_neg (by omega)]
theorem Qdt (l : List Sp) (x : List Int) (hl : l.length ≤ 1024) (hx : x.length ≤ 200) : ∀ d i k : Nat, i + d = l.length → d + 3002 ≤ k → contangolaw24_TierDone.l0 k l x (List.replicate l.length 0) x 0 (i : Int) = some true := by
 have lr : (List.replicate l.length (0 : Int)).length = l.length := List.length_replicate
 intro d
 induction d with
 | zero =>
  intro i k hi hk
  obtain ⟨k, rfl⟩ : ∃ m, k = m + 1 := ⟨k - 1, by omega⟩
  rw [contangolaw24_TierDone.l0, lr, if_neg (by omega), if_pos rfl, QbH x (by omega) k (by omega), Option.bind_some, if_pos rfl, if_pos rfl, goes24 k (by omega)]
  rfl
 | succ d ih =>
  intro i k hi hk
  obtain ⟨k, rfl⟩ : ∃ m, k = m + 1 := ⟨k - 1, by omega⟩
  have z : rd (List.replicate l.length (0 : Int)) (i : Int) = 0 := by rw [rd_at _ i (by rw [lr]; omega), List.getElem_replicate]
  rw [contangolaw24_TierDone.l0, lr, if_pos (by omega), if_pos (by omega), z, if_pos rfl, nwrap (x := (i : Int) + 1) (by omega) (by omega), show ((i : Int) + 1) = ((i + 1 : Nat) : Int) by omega, ih (i + 1) k (by omega) (by omega)]
end Go.Proofs.Ytggbflplbblgbaa.Pr
