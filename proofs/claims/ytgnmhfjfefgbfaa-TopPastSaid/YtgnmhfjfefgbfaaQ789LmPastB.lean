/- TopPast: two portfolios together. -/
import Derived.Test.YtgnmhfjfefgbfaaQ789LmBytes
import Derived.Test.YtgnmhfjfefgbfaaQ789LmPastL
import Derived.Test.YtgnmhfjfefgbfaaQ789LmPos
import Derived.Test.YtgnmhfjfefgbfaaQ789P0
import Derived.Test.YtgnmhfjfefgbfaaQ789P1
namespace Go.Proofs.Ytgnmhfjfefgbfaa.Pr
open Go.RowKit Go.Proofs.Ytgnmhfjfefgbfaa.Pr Go.Proofs.YtgnmhfjfefgbfaaW.PrintWords Go.Proofs.YtgnmhfjfefgbfaaW.PrintLast Go.Proofs.YtgnmhfjfefgbfaaW.PrintMore
set_option linter.unusedVariables false
set_option linter.unusedSimpArgs false
theorem QcY (s : List Ser) (d : List Int) (p q : Posn) (h : p.f0.f0.toList = q.f0.f0.toList ∧ p.f0.f1 = q.f0.f1 ∧ p.f0.f2 = q.f0.f2 ∧ p.f0.f3 = q.f0.f3) : lossP s d ⟨⟨q.f0.f0, q.f0.f1, q.f0.f2, q.f0.f3⟩, q.f1 + p.f1, q.f2 + p.f2⟩ = lossP s d q + lossP s d p := by
 obtain ⟨h0, h1, h2, h3⟩ := h
 have e : plcP s p = plcP s q := by
  unfold plcP
  rw [Qc6 h0, h1, h2, h3]
 unfold lossP
 rw [e]
 change -(q.f1 + p.f1 - (q.f2 + p.f2)) * rd d (plcP s q).1 = _
 rw [show -(q.f1 + p.f1 - (q.f2 + p.f2)) = -(q.f1 - q.f2) + -(p.f1 - p.f2) by omega, Int.add_mul]
def totP (s : List Ser) (d : List Int) (l : List Posn) : Int := (l.map (lossP s d)).sum
theorem QbH (s : List Ser) (d : List Int) : totP s d [] = 0 := rfl
theorem QbG (s : List Ser) (d : List Int) (l : List Posn) (p : Posn) : totP s d (l ++ [p]) = totP s d l + lossP s d p := by simp [totP]
theorem Qbs (s : List Ser) (d : List Int) (l : List Posn) (p : Posn) : totP s d (p :: l) = lossP s d p + totP s d l := by simp [totP]
theorem pos_of (b : List Posn) (hb : ∀ p ∈ b, lotsOk p) (i : Nat) (h : i < b.length) : lotsOk (rd_T71 b (i : Int)) := by
 refine hb _ ?_
 unfold rd_T71
 rw [Int.toNat_natCast, List.getD_eq_getElem?_getD, List.getElem?_eq_getElem h]
 exact List.getElem_mem _
theorem bB_l2 (a b : List Posn) (hb : b.length ≤ 128) : ∀ n j k : Nat, j + n = b.length → n + 300 ≤ k → ∀ o : List Posn, o.length ≤ 128 + j → ∃ r : List Posn, Qak.l2 k b o (j : Int) = some (r, chk r == 0) ∧ ∀ s d, totP s d r = totP s d o + totP s d (b.drop j) := by
 intro n
 induction n with
 | zero =>
  intro j k hj hk o ho
  obtain ⟨k, rfl⟩ : ∃ m, k = m + 1 := ⟨k - 1, by omega⟩
  refine ⟨o, ?_, fun s d => ?_⟩
  ·rw [Qak.l2, if_neg (by omega), QbD o k (by omega)]; rfl
  rw [List.drop_eq_nil_of_le (by omega), QbH, Int.add_zero]
 | succ n ih =>
  intro j k hj hk o ho
  obtain ⟨k, rfl⟩ : ∃ m, k = m + 1 := ⟨k - 1, by omega⟩
  rw [Qak.l2, if_pos (by omega), if_pos (by omega), if_pos (by omega), QaS (by omega) (by omega)]
  obtain ⟨r, r1, r2⟩ := ih (j + 1) k (by omega) (by omega) (o ++ [rd_T71 b (j : Int)]) (by simp; omega)
  refine ⟨r, r1, fun s d => ?_⟩
  rw [r2, QbG, Qbl b j (by omega), Qbs]
  omega
theorem bB_l0 (a b : List Posn) (ha : a.length ≤ 128) (hb : b.length ≤ 128) (ga : ∀ p ∈ a, lotsOk p) (gb : ∀ p ∈ b, lotsOk p) : ∀ n i j k : Nat, i ≤ a.length → j ≤ b.length → (a.length - i) + (b.length - j) ≤ n → 3 * n + 500 ≤ k → ∀ o : List Posn, o.length ≤ i + j →
  (∃ r : List Posn, Qak.l0 k a b o (j : Int) (i : Int) = some (r, chk r == 0) ∧ ∀ s d, totP s d r = totP s d o + totP s d (a.drop i) + totP s d (b.drop j)) ∧
  (i < a.length → ∃ r : List Posn, Qak.l1 k a b o (j : Int) (i : Int) = some (r, chk r == 0) ∧ ∀ s d, totP s d r = totP s d o + totP s d (a.drop i) + totP s d (b.drop j)) := by
 intro n
 induction n with
 | zero =>
  intro i j k hi hj hn hk o ho
  refine ⟨?_, fun h => by omega⟩
  obtain ⟨k, rfl⟩ : ∃ m, k = m + 1 := ⟨k - 1, by omega⟩
  rw [Qak.l0, if_neg (by omega)]
  obtain ⟨r, r1, r2⟩ := bB_l2 a b hb (b.length - j) j k (by omega) (by omega) o (by omega)
  refine ⟨r, r1, fun s d => ?_⟩
  rw [r2, show a.drop i = [] from List.drop_eq_nil_of_le (by omega), QbH, Int.add_zero]
 | succ n ih =>
  intro i j k hi hj hn hk o ho
  have main : ∀ k : Nat, 3 * n + 502 ≤ k → i < a.length → ∃ r : List Posn, Qak.l1 k a b o (j : Int) (i : Int) = some (r, chk r == 0) ∧ ∀ s d, totP s d r = totP s d o + totP s d (a.drop i) + totP s d (b.drop j) := by
   intro k hk hlt
   obtain ⟨k, rfl⟩ : ∃ m, k = m + 1 := ⟨k - 1, by omega⟩
   have step : ∃ r : List Posn, Qak.l0 k a b (o ++ [rd_T71 a (i : Int)]) (j : Int) ((i + 1 : Nat) : Int) = some (r, chk r == 0) ∧ ∀ s d, totP s d r = totP s d o + totP s d (a.drop i) + totP s d (b.drop j) := by
    obtain ⟨r, r1, r2⟩ := (ih (i + 1) j k (by omega) hj (by omega) (by omega) (o ++ [rd_T71 a (i : Int)]) (by simp; omega)).1
    refine ⟨r, r1, fun s d => ?_⟩
    rw [r2, QbG, Qbl a i hlt, Qbs]
    omega
   rw [Qak.l1]
   by_cases hjb : j < b.length
   ·rw [if_pos (by omega), if_pos (by omega), if_pos (by omega), if_pos (by omega), cmp_eq, Option.bind_some]
    by_cases c : cmpS (rd_T71 b (j : Int)).f0 (rd_T71 a (i : Int)).f0 < 0
    ·rw [if_pos c, if_pos (by omega), QaS (x := (j : Int) + 1) (by omega) (by omega)]
     obtain ⟨r, r1, r2⟩ := (ih i (j + 1) k hi (by omega) (by omega) (by omega) (o ++ [rd_T71 b (j : Int)]) (by simp; omega)).2 hlt
     refine ⟨r, r1, fun s d => ?_⟩
     rw [r2, QbG, Qbl b j hjb, Qbs]
     omega
    rw [if_neg c]
    split
    ·rename_i e
     simp only [Bool.and_eq_true, beq_iff_eq] at e
     obtain ⟨A1, A2, _⟩ := pos_of a ga i hlt
     obtain ⟨B1, B2, _⟩ := pos_of b gb j hjb
     rw [if_pos (by omega), QaS (x := (j : Int) + 1) (by omega) (by omega), QaS (x := (i : Int) + 1) (by omega) (by omega), QaS (x := (rd_T71 a (i : Int)).f1 + (rd_T71 b (j : Int)).f1) (by omega) (by omega), QaS (x := (rd_T71 a (i : Int)).f2 + (rd_T71 b (j : Int)).f2) (by omega) (by omega)]
     obtain ⟨r, r1, r2⟩ := (ih (i + 1) (j + 1) k (by omega) (by omega) (by omega) (by omega) (o ++ [⟨⟨(rd_T71 a (i : Int)).f0.f0, (rd_T71 a (i : Int)).f0.f1, (rd_T71 a (i : Int)).f0.f2, (rd_T71 a (i : Int)).f0.f3⟩, (rd_T71 a (i : Int)).f1 + (rd_T71 b (j : Int)).f1, (rd_T71 a (i : Int)).f2 + (rd_T71 b (j : Int)).f2⟩]) (by simp; omega)).1
     refine ⟨r, r1, fun s d => ?_⟩
     rw [r2, QbG, QcY s d _ _ e, Qbl b j hjb, Qbs, Qbl a i hlt, Qbs]
     omega
    rw [if_pos (by omega), QaS (x := (i : Int) + 1) (by omega) (by omega)]
    exact step
   rw [if_neg (by omega), if_pos (by omega), if_pos (by omega), if_pos (by omega), QaS (x := (i : Int) + 1) (by omega) (by omega)]
   exact step
  refine ⟨?_, main k (by omega)⟩
  obtain ⟨k, rfl⟩ : ∃ m, k = m + 1 := ⟨k - 1, by omega⟩
  rw [Qak.l0]
  by_cases hlt : i < a.length
  ·rw [if_pos (by omega)]
   exact main k (by omega) hlt
  rw [if_neg (by omega)]
  obtain ⟨r, r1, r2⟩ := bB_l2 a b hb (b.length - j) j k (by omega) (by omega) o (by omega)
  refine ⟨r, r1, fun s d => ?_⟩
  rw [r2, show a.drop i = [] from List.drop_eq_nil_of_le (by omega), QbH, Int.add_zero]
theorem bB_ex (a b : List Posn) (ha : QbC a) (hb : QbC b) (k : Nat) (hk : 2000 ≤ k) : ∃ r : List Posn, Qak.f k a b = some (r, chk r == 0) ∧ ∀ s d, totP s d r = totP s d a + totP s d b := by
 obtain ⟨r, r1, r2⟩ := (bB_l0 a b ha.1 hb.1 ha.2.2 hb.2.2 (a.length + b.length) 0 0 k (by omega) (by omega) (by omega) (by have := ha.1; have := hb.1; omega) [] (by simp)).1
 refine ⟨r, r1, fun s d => ?_⟩
 rw [r2, QbH, List.drop_zero, List.drop_zero]
 omega
end Go.Proofs.Ytgnmhfjfefgbfaa.Pr
