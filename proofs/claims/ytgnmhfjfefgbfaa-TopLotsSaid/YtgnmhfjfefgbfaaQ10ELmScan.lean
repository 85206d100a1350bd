/- scan: Check's answer, found, Losses, Risk, Delta. -/
import Derived.Test.YtgnmhfjfefgbfaaQ10ELmPos
import Derived.Test.YtgnmhfjfefgbfaaQ10EP0
import Derived.Test.YtgnmhfjfefgbfaaQ10EP1
import Derived.Test.YtgnmhfjfefgbfaaQ10EP2
namespace Go.Proofs.Ytgnmhfjfefgbfaa.Pr
open Go.RowKit Go.Proofs.Ytgnmhfjfefgbfaa.Pr Go.Proofs.YtgnmhfjfefgbfaaW.PrintWords Go.Proofs.YtgnmhfjfefgbfaaW.PrintLast Go.Proofs.YtgnmhfjfefgbfaaW.PrintMore
set_option linter.unusedVariables false
set_option linter.unusedSimpArgs false
abbrev Arr := S128
theorem smW {x : Int} (h0 : 0 ≤ x) (h1 : x ≤ 1073741824) : wrap64 x = x := IntWalk.wrap64_in x (by omega)
theorem smW1 {i : Nat} (h : i ≤ 1073741823) : wrap64 ((i : Int) + 1) = ((i + 1 : Nat) : Int) := by rw [smW (by omega) (by omega)]; omega
theorem sck_in (x0 x10 : List Arr) (x11 x12 : Int) (L : List Int) (hL : L.length ≤ 32) (s0 : ByteArray) (s1 s2 s3 s5 : Int) (s4 : List Int) : ∀ n j k : Nat, j + n = L.length → n + 1 ≤ k →
  (∃ e, e ≠ 0 ∧ Qan.l1 k x0 x10 x11 x12 L (L.length : Int) (j : Int) s0 s1 s2 s3 s4 s5 = some e) ∨ ∃ k', k ≤ k' + n + 1 ∧ Qan.l1 k x0 x10 x11 x12 L (L.length : Int) (j : Int) s0 s1 s2 s3 s4 s5 = Qan.l0 k' x0 x10 x11 (wrap64 (x12 + 1)) := by
 intro n
 induction n with
 | zero =>
  intro j k hj hk
  obtain ⟨k, rfl⟩ : ∃ m, k = m + 1 := ⟨k - 1, by omega⟩
  rw [Qan.l1, if_neg (show ¬ (j : Int) < (L.length : Int) by omega)]
  by_cases h1 : s5 < (-1000)
  ·rw [if_pos h1]; exact .inl ⟨2, by decide, rfl⟩
  rw [if_neg h1]
  by_cases h2 : s5 > 1000
  ·rw [if_pos h2]; exact .inl ⟨2, by decide, rfl⟩
  rw [if_neg h2]; exact .inr ⟨k, by omega, rfl⟩
 | succ n ih =>
  intro j k hj hk
  obtain ⟨k, rfl⟩ : ∃ m, k = m + 1 := ⟨k - 1, by omega⟩
  rw [Qan.l1, if_pos (show (j : Int) < (L.length : Int) by omega), if_pos (show (0 : Int) ≤ (j : Int) by omega), if_pos (show (j : Int) < (L.length : Int) by omega)]
  by_cases h1 : rd L (j : Int) < (-68719476736)
  ·rw [if_pos h1]; exact .inl ⟨3, by decide, rfl⟩
  rw [if_neg h1]
  by_cases h2 : rd L (j : Int) > 68719476736
  ·rw [if_pos h2]; exact .inl ⟨3, by decide, rfl⟩
  rw [if_neg h2, smW1 (by omega)]
  rcases ih (j + 1) k (by omega) (by omega) with h | ⟨k', h3, h4⟩
  ·exact .inl h
  exact .inr ⟨k', by omega, h4⟩
def uniS (l : List Arr) (i : Nat) : Prop := ∀ j : Nat, i ≤ j → j < l.length → (Qaa l (j : Int)).f1.length = (Qaa l 0).f1.length ∧ (Qaa l (j : Int)).f1.length ≤ 32
theorem QfE (l : List Arr) (hl : l.length ≤ 128) : ∀ n i k : Nat, i + n = l.length → 40 * n + 1 ≤ k → ∃ e, Qan.l0 k l l (l.length : Int) (i : Int) = some e ∧ (e = 0 → uniS l i) := by
 intro n
 induction n with
 | zero =>
  intro i k hi hk
  obtain ⟨k, rfl⟩ : ∃ m, k = m + 1 := ⟨k - 1, by omega⟩
  rw [Qan.l0, if_neg (show ¬ (i : Int) < (l.length : Int) by omega)]
  exact ⟨0, rfl, fun _ j h1 h2 => by omega⟩
 | succ n ih =>
  intro i k hi hk
  obtain ⟨k, rfl⟩ : ∃ m, k = m + 1 := ⟨k - 1, by omega⟩
  have J : ∀ t : Bool, ∃ e, Qan.j1 k l l (l.length : Int) (i : Int) t (Qaa l (i : Int)).f0.f0 (Qaa l (i : Int)).f0.f1 (Qaa l (i : Int)).f0.f2 (Qaa l (i : Int)).f0.f3 (Qaa l (i : Int)).f1 (Qaa l (i : Int)).f2 = some e ∧ (e = 0 → uniS l i) := by
   intro t
   obtain ⟨a, ha⟩ : ∃ a, a = Qaa l (i : Int) := ⟨_, rfl⟩
   obtain ⟨k, rfl⟩ : ∃ m, k = m + 1 := ⟨k - 1, by omega⟩
   rw [← ha, Qan.j1]
   have J2 : ∀ u : Bool, (u = false → a.f1.length = (Qaa l 0).f1.length ∧ a.f1.length ≤ 32) → ∃ e, Qan.j2 k l l (l.length : Int) (i : Int) u a.f0.f0 a.f0.f1 a.f0.f2 a.f0.f3 a.f1 a.f2 = some e ∧ (e = 0 → uniS l i) := by
    intro u hu
    obtain ⟨k, rfl⟩ : ∃ m, k = m + 1 := ⟨k - 1, by omega⟩
    rw [Qan.j2]
    cases u with
    | true => rw [if_pos rfl]; exact ⟨27, rfl, fun h => by cases h⟩
    | false =>
     obtain ⟨hu1, hu2⟩ := hu rfl
     rw [if_neg (by decide)]
     rcases sck_in l l (l.length : Int) (i : Int) a.f1 hu2 a.f0.f0 a.f0.f1 a.f0.f2 a.f0.f3 a.f2 a.f1 a.f1.length 0 k (by omega) (by omega) with ⟨e, h1, h2⟩ | ⟨k', h1, h2⟩
     ·exact ⟨e, h2, fun h => absurd h h1⟩
     rw [smW1 (by omega)] at h2
     obtain ⟨e, h3, h4⟩ := ih (i + 1) k' (by omega) (by omega)
     refine ⟨e, h2.trans h3, fun h j hj1 hj2 => ?_⟩
     rcases Nat.lt_or_ge i j with h5 | h5
     ·exact h4 h j h5 hj2
     obtain rfl : j = i := by omega
     rw [← ha]; exact ⟨hu1, hu2⟩
   cases t with
   | true => rw [if_pos rfl]; exact ⟨19, rfl, fun h => by cases h⟩
   | false =>
    rw [if_neg (by decide)]
    by_cases h1 : (a.f1.length : Int) < 1
    ·rw [if_pos h1]; exact J2 true (fun h => by cases h)
    rw [if_neg h1]
    by_cases h2 : (a.f1.length : Int) > 32
    ·rw [if_pos h2]; exact J2 true (fun h => by cases h)
    rw [if_neg h2, if_pos (show (0 : Int) < (l.length : Int) by omega)]
    refine J2 _ (fun h => ⟨?_, by omega⟩)
    have := bne_eq_false_iff_eq.1 h
    omega
  rw [Qan.l0, if_pos (show (i : Int) < (l.length : Int) by omega), if_pos (show (0 : Int) ≤ (i : Int) by omega), if_pos (show (i : Int) < (l.length : Int) by omega)]
  by_cases h0 : (i : Int) > 0
  ·rw [if_pos h0, smW (show (0 : Int) ≤ (i : Int) - 1 by omega) (by omega), if_pos (show (0 : Int) ≤ (i : Int) - 1 by omega), if_pos (show (i : Int) - 1 < (l.length : Int) by omega), cmp_eq, Option.bind_some]
   exact J _
  rw [if_neg h0]; exact J _
theorem sck_eq (l : List Arr) : ∃ e, (∀ k, 6000 ≤ k → Qan.f k l = some e) ∧ (e = 0 → l.length ≤ 128 ∧ uniS l 0) := by
 by_cases h : (l.length : Int) > 128
 ·exact ⟨8, fun k _ => by unfold Qan.f; rw [if_pos h], fun e => by cases e⟩
 obtain ⟨e, h1, h2⟩ := QfE l (by omega) l.length 0 6000 (by omega) (by omega)
 have h3 : Qan.f 6000 l = some e := by unfold Qan.f; rw [if_neg h]; exact h1
 exact ⟨e, fun k hk => QbK (Qan.mono l) hk h3, fun h0 => ⟨by omega, h2 h0⟩⟩
def eqA (p : Posn) (a : Arr) : Bool := (a.f0.f0.toList == p.f0.f0.toList) && ((a.f0.f1 == p.f0.f1) && ((a.f0.f2 == p.f0.f2) && (a.f0.f3 == p.f0.f3)))
def ownM (arr : List Arr) : List Posn → Option (List Arr)
 | [] => some []
 | p :: t => (arr.find? (eqA p)).bind fun a => (ownM arr t).map (fun r => a :: r)
theorem Qdi (l : List Arr) (i : Nat) (h : i < l.length) : l.drop i = Qaa l (i : Int) :: l.drop (i + 1) := by
 rw [List.drop_eq_getElem_cons h]
 unfold Qaa
 rw [Int.toNat_natCast, List.getD_eq_getElem?_getD, List.getElem?_eq_getElem h]
 rfl
theorem fnd_in (arr : List Arr) (acc : List Arr) (L : List Posn) (i : Nat) (hl : arr.length ≤ 130) (hacc : acc.length ≤ 130) (p : Posn) : ∀ n j k : Nat, j + n = arr.length → n + 1 ≤ k →
  ∃ k', k ≤ k' + n + 1 ∧ QaA.l1 k arr acc L (L.length : Int) (i : Int) arr (arr.length : Int) (j : Int) p.f0.f0 p.f0.f1 p.f0.f2 p.f0.f3 p.f1 p.f2 = (match (arr.drop j).find? (eqA p) with | none => some ([], 11) | some a => QaA.l0 k' arr (acc ++ [a]) L (L.length : Int) (wrap64 ((i : Int) + 1))) := by
 intro n
 induction n with
 | zero =>
  intro j k hj hk
  obtain ⟨k, rfl⟩ : ∃ m, k = m + 1 := ⟨k - 1, by omega⟩
  rw [QaA.l1, if_neg (show ¬ (j : Int) < (arr.length : Int) by omega), List.drop_of_length_le (by omega)]
  exact ⟨k, by omega, rfl⟩
 | succ n ih =>
  intro j k hj hk
  obtain ⟨k, rfl⟩ : ∃ m, k = m + 1 := ⟨k - 1, by omega⟩
  rw [QaA.l1, if_pos (show (j : Int) < (arr.length : Int) by omega), if_pos (show (0 : Int) ≤ (j : Int) by omega), if_pos (show (j : Int) < (arr.length : Int) by omega), Qdi arr j (by omega)]
  cases h : eqA p (Qaa arr (j : Int)) with
  | true =>
   have h' := h
   unfold eqA at h'
   rw [if_pos h', if_pos (by omega), List.find?_cons_of_pos h]
   exact ⟨k, by omega, rfl⟩
  | false =>
   have h' := h
   unfold eqA at h'
   rw [if_neg (by rw [h']; decide), List.find?_cons_of_neg (by rw [h]; decide), smW1 (by omega)]
   obtain ⟨k', h1, h2⟩ := ih (j + 1) k (by omega) (by omega)
   exact ⟨k', by omega, h2⟩
theorem Qfp (arr : List Arr) (L : List Posn) (hl : arr.length ≤ 130) (hL : L.length ≤ 128) : ∀ n i k : Nat, i + n = L.length → 140 * n + 1 ≤ k → ∀ acc : List Arr, acc.length = i →
  QaA.l0 k arr acc L (L.length : Int) (i : Int) = some (match ownM arr (L.drop i) with | none => ([], 11) | some o => (acc ++ o, 0)) := by
 intro n
 induction n with
 | zero =>
  intro i k hi hk acc ha
  obtain ⟨k, rfl⟩ : ∃ m, k = m + 1 := ⟨k - 1, by omega⟩
  rw [QaA.l0, if_neg (show ¬ (i : Int) < (L.length : Int) by omega), List.drop_of_length_le (by omega)]
  simp [ownM]
 | succ n ih =>
  intro i k hi hk acc ha
  obtain ⟨k, rfl⟩ : ∃ m, k = m + 1 := ⟨k - 1, by omega⟩
  rw [QaA.l0, if_pos (show (i : Int) < (L.length : Int) by omega), if_pos (show (0 : Int) ≤ (i : Int) by omega), if_pos (show (i : Int) < (L.length : Int) by omega), Qcx L i (by omega)]
  obtain ⟨k', h1, h2⟩ := fnd_in arr acc L i hl (by omega) (rd_T71 L (i : Int)) arr.length 0 k (by omega) (by omega)
  rw [show ((0 : Nat) : Int) = 0 from rfl] at h2
  rw [h2, List.drop_zero, ownM]
  cases hf : arr.find? (eqA (rd_T71 L (i : Int))) with
  | none => rfl
  | some a =>
   rw [Option.bind_some]
   dsimp only
   rw [smW1 (by omega), ih (i + 1) k' (by omega) (by omega) (acc ++ [a]) (by simp [ha])]
   cases ownM arr (L.drop (i + 1)) with
   | none => rfl
   | some o => simp
def fndS (ce : Int) (L : List Posn) (arr : List Arr) : List Arr × Int := if ce = 0 then (if chk L = 0 then (match ownM arr L with | none => ([], 11) | some o => (o, 0)) else ([], chk L)) else ([], ce)
theorem fnd_eq (ce : Int) (arr : List Arr) (L : List Posn) (hl : arr.length ≤ 130) (hc : ∀ k, 6000 ≤ k → Qan.f k arr = some ce) (k : Nat) (hk : 20000 ≤ k) : QaA.f k L arr = some (fndS ce L arr) := by
 unfold QaA.f Qa0.f fndS
 rw [hc k (by omega), Option.bind_some]
 by_cases h : ce = 0
 ·rw [if_pos h, if_pos h, Qbw L k (by omega), Option.bind_some, Option.bind_some]
  by_cases g : chk L = 0
  ·rw [if_pos g, if_pos g]
   have hL : L.length ≤ 128 := by
    unfold chk at g
    by_cases q : (L.length : Int) > 128
    ·rw [if_pos q] at g; cases g
    omega
   exact Qfp arr L hl hL L.length 0 k (by omega) (by omega) [] rfl
  rw [if_neg g, if_neg g]
 rw [if_neg h, if_neg h, Option.bind_some, if_neg h]
end Go.Proofs.Ytgnmhfjfefgbfaa.Pr
