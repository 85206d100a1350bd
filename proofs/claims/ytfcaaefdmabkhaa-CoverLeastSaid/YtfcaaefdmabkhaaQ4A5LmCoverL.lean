/- Cover: gaps turned, and who is called. -/
import Derived.Test.YtfcaaefdmabkhaaQ4A5LmBytes
import Derived.Test.YtfcaaefdmabkhaaQ4A5LmCover0
import Derived.Test.YtfcaaefdmabkhaaQ4A5LmCoverA
import Derived.Test.YtfcaaefdmabkhaaQ4A5LmName
import Derived.Test.YtfcaaefdmabkhaaQ4A5P0
import Derived.Test.YtfcaaefdmabkhaaQ4A5P2
import Derived.Test.YtfcaaefdmabkhaaQ4A5P7
namespace Go.Proofs.Ytfcaaefdmabkhaa.Pr
open Go.RowKit Go.Proofs.Ytfcaaefdmabkhaa.Pr Go.Proofs.YtfcaaefdmabkhaaW.PrintWords Go.Proofs.YtfcaaefdmabkhaaW.PrintLast Go.Proofs.YtfcaaefdmabkhaaW.PrintMore
set_option linter.unusedVariables false
set_option linter.unusedSimpArgs false
def toG (g : RGp) : Gp := ⟨⟨g.f0.f0, g.f0.f1⟩, g.f1, g.f2, g.f3⟩
theorem gaps_loop (l : List RGp) (hl : l.length ≤ 2513169434900) : ∀ d i k : Nat, i + d = l.length → d + 1 ≤ k → ∀ out : List Gp, out.length = i → contangolaw34_Gaps.l0 k l out (i : Int) = some (out ++ (l.drop i).map toG) := by
  intro d
  induction d with
  | zero =>
    intro i k hi hk out ho
    obtain ⟨k, rfl⟩ : ∃ m, k = m + 1 := ⟨k - 1, by omega⟩
    rw [contangolaw34_Gaps.l0, if_neg (by omega), List.drop_eq_nil_of_le (by omega)]
    simp
  | succ d ih =>
    intro i k hi hk out ho
    obtain ⟨k, rfl⟩ : ∃ m, k = m + 1 := ⟨k - 1, by omega⟩
    rw [contangolaw34_Gaps.l0, if_pos (by omega), if_pos (by omega), if_pos (by omega), nwrap (by omega) (by omega), show ((i : Int) + 1) = ((i + 1 : Nat) : Int) by omega, ih (i + 1) k (by omega) (by omega) _ (by simp; omega), rgp_drop l i (by omega), List.map_cons, List.append_assoc]
    rfl
theorem gaps_eq (l : List RGp) (hl : l.length ≤ 2513169434900) (k : Nat) (hk : l.length + 1 ≤ k) : contangolaw34_Gaps.f k l = some (l.map toG) := by
  unfold contangolaw34_Gaps.f
  rw [show (0 : Int) = ((0 : Nat) : Int) from rfl, gaps_loop l hl l.length 0 k (by omega) hk [] rfl, List.drop_zero, List.nil_append]
def calledP (n : Int) (g : Gp) : Bool := decide (g.f3 ≥ n ∧ g.f3 > 0)
theorem calls_loop (n : Int) (l : List Gp) (hl : l.length ≤ 2513169434900) : ∀ d i k : Nat, i + d = l.length → d + 1 ≤ k → ∀ out : List Gp, out.length ≤ i → cover_Calls.l0 k n out l (l.length : Int) (i : Int) = some (out ++ (l.drop i).filter (calledP n)) := by
  intro d
  induction d with
  | zero =>
    intro i k hi hk out ho
    obtain ⟨k, rfl⟩ : ∃ m, k = m + 1 := ⟨k - 1, by omega⟩
    rw [cover_Calls.l0, if_neg (by omega), List.drop_eq_nil_of_le (by omega)]
    simp
  | succ d ih =>
    intro i k hi hk out ho
    obtain ⟨k, rfl⟩ : ∃ m, k = m + 1 := ⟨k - 1, by omega⟩
    rw [cover_Calls.l0, if_pos (by omega), if_pos (by omega), if_pos (by omega), nwrap (by omega) (by omega), show ((i : Int) + 1) = ((i + 1 : Nat) : Int) by omega, gp_drop l i (by omega)]
    generalize rd_T50 l (i : Int) = g
    by_cases h1 : g.f3 ≥ n
    · rw [if_pos h1]
      by_cases h2 : g.f3 > 0
      · rw [if_pos h2, if_pos (by omega), ih (i + 1) k (by omega) (by omega) _ (by simp; omega), List.filter_cons, if_pos (by unfold calledP; exact decide_eq_true ⟨h1, h2⟩), List.append_assoc]
        rfl
      · rw [if_neg h2, ih (i + 1) k (by omega) (by omega) _ (by omega), List.filter_cons, if_neg (by unfold calledP; intro e; exact h2 (of_decide_eq_true e).2)]
    · rw [if_neg h1, ih (i + 1) k (by omega) (by omega) _ (by omega), List.filter_cons, if_neg (by unfold calledP; intro e; exact h1 (of_decide_eq_true e).1)]
theorem calls_eq (n : Int) (l : List Gp) (hl : l.length ≤ 2513169434900) (k : Nat) (hk : l.length + 1 ≤ k) : cover_Calls.f k l n = some (l.filter (calledP n)) := by
  unfold cover_Calls.f
  rw [show (0 : Int) = ((0 : Nat) : Int) from rfl, calls_loop n l hl l.length 0 k (by omega) hk [] (Nat.le_refl _), List.drop_zero, List.nil_append]
theorem gp_cond (x y : Gp) : (((x.f0.f0.toList == y.f0.f0.toList) && (x.f0.f1.toList == y.f0.f1.toList)) && ((x.f1 == y.f1) && ((x.f2 == y.f2) && (x.f3 == y.f3)))) = true ↔ x = y := by
  constructor
  · intro h
    simp only [Bool.and_eq_true, beq_iff_eq, tl_iff] at h
    obtain ⟨⟨x1, x2⟩, x3, x4, x5⟩ := x
    obtain ⟨⟨y1, y2⟩, y3, y4, y5⟩ := y
    obtain ⟨⟨h1, h2⟩, h3, h4, h5⟩ := h
    simp only at h1 h2 h3 h4 h5
    rw [h1, h2, h3, h4, h5]
  · rintro rfl; simp
theorem least_loop (lo up : Int) (a b : List Gp) (hla : a.length ≤ 2513169434900) (hlb : b.length ≤ 2513169434900) (K : Nat) (hK : 7000 ≤ K) (ha : ∀ g ∈ a, g.f3 ≥ lo ∧ g.f3 > 0) (hb : ∀ g ∈ b, g.f3 ≥ up) :
    ∀ d i k j : Nat, i + d = a.length → k = 2 * d + 1 + K → j ≤ b.length → b.drop j = (a.drop i).filter (fun g => decide (g.f3 ≥ up)) → contangolaw34_CoverLeast.l0 k lo a b (j : Int) (i : Int) = some true := by
  intro d
  induction d with
  | zero =>
    intro i k j hi hk hj e
    obtain ⟨k, rfl⟩ : ∃ m, k = m + 1 := ⟨k - 1, by omega⟩
    rw [List.drop_eq_nil_of_le (show a.length ≤ i by omega), List.filter_nil] at e
    have := List.drop_eq_nil_iff.1 e
    rw [contangolaw34_CoverLeast.l0, if_neg (by omega), if_pos (by omega), goes34 k (by omega)]
    rfl
  | succ d ih =>
    intro i k j hi hk hj e
    obtain ⟨k, rfl⟩ : ∃ m, k = m + 2 := ⟨k - 2, by omega⟩
    have hd := gp_drop a i (by omega)
    have hm := ha _ (List.mem_of_mem_drop (hd ▸ List.mem_cons_self))
    rw [contangolaw34_CoverLeast.l0, if_pos (by omega), if_pos (by omega), if_neg (by omega), decide_eq_false (show ¬ (rd_T50 a (i : Int)).f3 < 1 by omega), contangolaw34_CoverLeast.j1, if_neg (by simp), nwrap (x := (i : Int) + 1) (by omega) (by omega), show ((i : Int) + 1) = ((i + 1 : Nat) : Int) by omega]
    rw [hd, List.filter_cons] at e
    by_cases h1 : (j : Int) < (b.length : Int)
    · have hdb := gp_drop b j (by omega)
      have hmb := hb _ (List.mem_of_mem_drop (hdb ▸ List.mem_cons_self))
      rw [if_pos h1, if_pos (by omega), if_pos (by omega), if_pos (by omega)]
      by_cases h2 : (rd_T50 a (i : Int)).f3 ≥ up
      · rw [if_pos (decide_eq_true h2), hdb] at e
        obtain ⟨e1, e2⟩ := List.cons.inj e
        rw [if_pos ((gp_cond _ _).2 e1), nwrap (x := (j : Int) + 1) (by omega) (by omega), show ((j : Int) + 1) = ((j + 1 : Nat) : Int) by omega]
        exact ih (i + 1) k (j + 1) (by omega) (by omega) (by omega) e2
      · rw [if_neg (by simpa using h2)] at e
        rw [if_neg (fun e1 => h2 (by have e2 := (gp_cond _ _).1 e1; rw [← e2]; exact hmb))]
        exact ih (i + 1) k j (by omega) (by omega) hj e
    · rw [if_neg h1]
      rw [List.drop_eq_nil_of_le (show b.length ≤ j by omega)] at e
      split at e
      · cases e
      · exact ih (i + 1) k j (by omega) (by omega) hj (by rw [List.drop_eq_nil_of_le (show b.length ≤ j by omega)]; exact e)
end Go.Proofs.Ytfcaaefdmabkhaa.Pr
