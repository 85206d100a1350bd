/- scan.Expiries: days and deltas of the same length, with the same sum as Delta (in 64 bits). -/
import Derived.Test.YtgnmhfjfefgbfaaQ5C0LmPos
import Derived.Test.YtgnmhfjfefgbfaaQ5C0LmScan
import Derived.Test.YtgnmhfjfefgbfaaQ5C0LmScanR
import Derived.Test.YtgnmhfjfefgbfaaQ5C0LmSums
import Derived.Test.YtgnmhfjfefgbfaaQ5C0P0
import Derived.Test.YtgnmhfjfefgbfaaQ5C0P3
namespace Go.Proofs.Ytgnmhfjfefgbfaa.Pr
open Go.RowKit Go.Proofs.Ytgnmhfjfefgbfaa.Pr Go.Proofs.YtgnmhfjfefgbfaaW.PrintWords Go.Proofs.YtgnmhfjfefgbfaaW.PrintLast Go.Proofs.YtgnmhfjfefgbfaaW.PrintMore
set_option linter.unusedVariables false
set_option linter.unusedSimpArgs false
theorem Qfm (l : List Int) (hl : l.length ≤ 1073741823) : ∀ n i k : Nat, i + n = l.length → n + 1 ≤ k → ∀ D : Int, QaC.l0 k l (wrap64 D) (i : Int) = some (wrap64 (D + (l.drop i).sum)) := by
 intro n
 induction n with
 | zero =>
  intro i k hi hk D
  obtain ⟨k, rfl⟩ : ∃ q, k = q + 1 := ⟨k - 1, by omega⟩
  rw [QaC.l0, if_neg (show ¬ (i : Int) < (l.length : Int) by omega), List.drop_of_length_le (by omega)]
  simp
 | succ n ih =>
  intro i k hi hk D
  obtain ⟨k, rfl⟩ : ∃ q, k = q + 1 := ⟨k - 1, by omega⟩
  rw [QaC.l0, if_pos (show (i : Int) < (l.length : Int) by omega), if_pos (show (0 : Int) ≤ (i : Int) by omega), smW1 (by omega), addW, Qdr l i (by omega), List.sum_cons, ← Int.add_assoc]
  exact ih (i + 1) k (by omega) (by omega) _
theorem QeO (l : List Int) (hl : l.length ≤ 1073741823) (k : Nat) (hk : l.length + 1 ≤ k) : QaC.f k l = some (wrap64 l.sum) := by
 have h := Qfm l hl l.length 0 k (by omega) hk 0
 rw [zeroW, List.drop_zero, Int.zero_add] at h
 exact h
theorem Qc6 : ∀ (l : List Int) (i : Nat) (v : Int), i < l.length → (l.set i v).sum = l.sum + (v - rd l (i : Int))
 | [], i, v, h => by simp at h
 | x :: t, 0, v, h => by
  rw [List.set_cons_zero, List.sum_cons, List.sum_cons]
  have : rd (x :: t) ((0 : Nat) : Int) = x := rfl
  rw [this]; omega
 | x :: t, i + 1, v, h => by
  rw [List.set_cons_succ, List.sum_cons, List.sum_cons, Qc6 t i v (by simpa using h)]
  have : rd (x :: t) ((i + 1 : Nat) : Int) = rd t (i : Int) := rfl
  rw [this]; omega
theorem QfC (l : List Int) (i : Int) : (insA l i 0).sum = l.sum := by
 unfold insA
 rw [List.sum_append, List.sum_cons, Int.zero_add, ← List.sum_append, List.take_append_drop]
theorem QdV (l : List Int) (i x : Int) (h : i ≤ (l.length : Int)) : (insA l i x).length = l.length + 1 := by
 unfold insA
 simp; omega
theorem Qgl (a b : Nat) (ha : a ≤ 1048576) (hb : b ≤ 1048576) : wrap64 ((IntKind.u64.wrap (wrap64 ((a : Int) + (b : Int)))) / 2) = (((a + b) / 2 : Nat) : Int) := by
 rw [smW (show (0 : Int) ≤ (a : Int) + (b : Int) by omega) (by omega)]
 have e : IntKind.u64.wrap ((a : Int) + (b : Int)) = (a : Int) + (b : Int) := by
  rw [IntKind.wrap_u64]; omega
 rw [e, smW (by omega) (by omega)]
 omega
theorem Qfq (l : List Int) (x : Int) (hl : l.length ≤ 1048576) : ∀ n a b k : Nat, b ≤ a + n → a ≤ b → b ≤ l.length → n + 1 ≤ k → ∃ (r : Nat) (t : Bool), Qal.l0 k l x (l.length : Int) (a : Int) (b : Int) = some ((r : Int), t) ∧ r ≤ l.length ∧ (t = true → r < l.length) := by
 intro n
 induction n with
 | zero =>
  intro a b k h1 h2 h3 hk
  obtain ⟨k, rfl⟩ : ∃ q, k = q + 1 := ⟨k - 1, by omega⟩
  rw [Qal.l0, if_neg (show ¬ (a : Int) < (b : Int) by omega)]
  by_cases h : (a : Int) < (l.length : Int)
  ·rw [if_pos h, if_pos (show (0 : Int) ≤ (a : Int) by omega), if_pos h]
   by_cases g : rd l (a : Int) = x
   ·rw [if_pos g]; exact ⟨a, true, rfl, by omega, fun _ => by omega⟩
   rw [if_neg g]
   unfold Qbe.f
   rw [bne_self_eq_false, Option.bind_some, if_neg (by decide)]
   exact ⟨a, false, rfl, by omega, fun h => by cases h⟩
  rw [if_neg h]; exact ⟨a, false, rfl, by omega, fun h => by cases h⟩
 | succ n ih =>
  intro a b k h1 h2 h3 hk
  by_cases hab : a < b
  ·obtain ⟨k, rfl⟩ : ∃ q, k = q + 1 := ⟨k - 1, by omega⟩
   rw [Qal.l0, if_pos (show (a : Int) < (b : Int) by omega), Qgl a b (by omega) (by omega), if_pos (by omega), if_pos (by omega)]
   have hless : ∀ u v : Int, Qbw.f u v = some (decide (u < v)) := fun u v => by
    unfold Qbw.f Qa8.f
    rw [bne_self_eq_false, Option.bind_some, if_neg (by decide)]
   rw [hless, Option.bind_some]
   by_cases g : decide (rd l (((a + b) / 2 : Nat) : Int) < x) = true
   ·rw [if_pos g, smW1 (by omega)]
    exact ih ((a + b) / 2 + 1) b k (by omega) (by omega) h3 (by omega)
   rw [if_neg g]
   exact ih a ((a + b) / 2) k (by omega) (by omega) (by omega) (by omega)
  obtain ⟨r, t, h4, h5⟩ := ih a b k (by omega) h2 h3 (by omega)
  exact ⟨r, t, h4, h5⟩
theorem bs_ex (l : List Int) (x : Int) (hl : l.length ≤ 1048576) (k : Nat) (hk : l.length + 1 ≤ k) : ∃ (r : Nat) (t : Bool), Qal.f k l x = some ((r : Int), t) ∧ r ≤ l.length ∧ (t = true → r < l.length) :=
 Qfq l x hl l.length 0 l.length k (by omega) (by omega) (by omega) hk
theorem Qga (L : List Posn) (o : List Arr) (hL : L.length ≤ 128) (ho : o.length = L.length) : ∀ n i k : Nat, i + n = L.length → n + 200 ≤ k → ∀ d b : List Int, d.length = b.length → d.length ≤ i →
  ∃ d' b', Qay.l0 k d b o L (L.length : Int) (i : Int) = some (d', b', 0) ∧ d'.length = b'.length ∧ d'.length ≤ L.length ∧ wrap64 b'.sum = wrap64 (b.sum + ((List.zipWith dltS L o).drop i).sum) := by
 intro n
 induction n with
 | zero =>
  intro i k hi hk d b h1 h2
  obtain ⟨k, rfl⟩ : ∃ q, k = q + 1 := ⟨k - 1, by omega⟩
  rw [Qay.l0, if_neg (show ¬ (i : Int) < (L.length : Int) by omega), List.drop_of_length_le (by rw [List.length_zipWith]; omega)]
  exact ⟨d, b, rfl, h1, by omega, by simp⟩
 | succ n ih =>
  intro i k hi hk d b h1 h2
  obtain ⟨k, rfl⟩ : ∃ q, k = q + 1 := ⟨k - 1, by omega⟩
  obtain ⟨r, t, h3, h4, h5⟩ := bs_ex d (rd_T71 L (i : Int)).f0.f2 (by omega) k (by omega)
  rw [Qay.l0, if_pos (show (i : Int) < (L.length : Int) by omega), if_pos (show (0 : Int) ≤ (i : Int) by omega), if_pos (show (i : Int) < (L.length : Int) by omega), h3, Option.bind_some, Qc8 dltS L o ho i (by omega), List.sum_cons]
  obtain ⟨X, hX⟩ : ∃ X, X = dltS (rd_T71 L (i : Int)) (Qaa o (i : Int)) := ⟨_, rfl⟩
  have hX' : wrap64 ((wrap64 ((rd_T71 L (i : Int)).f1 - (rd_T71 L (i : Int)).f2)) * (Qaa o (i : Int)).f2) = X := hX.symm
  dsimp only
  rw [hX', ← hX, smW1 (by omega)]
  cases t with
  | true =>
   have h6 := h5 rfl
   rw [if_pos rfl, if_pos (by omega), if_pos (by omega), if_pos (show (i : Int) < (o.length : Int) by omega)]
   obtain ⟨d', b', e1, e2, e3, e4⟩ := ih (i + 1) k (by omega) (by omega) d (b.set r (wrap64 (rd b (r : Int) + X))) (by rw [List.length_set]; exact h1) (by omega)
   refine ⟨d', b', ?_, e2, e3, ?_⟩
   ·rw [Int.toNat_natCast]; exact e1
   rw [e4, Qc6 b r _ (by omega)]
   generalize rd b (r : Int) = Y
   generalize b.sum = S
   generalize (List.drop (i + 1) (List.zipWith dltS L o)).sum = Z
   unfold wrap64; omega
  | false =>
   rw [if_neg (by decide), if_pos (show insOk d (r : Int) from ⟨by omega, by omega, by omega⟩), if_pos (show insOk b (r : Int) from ⟨by omega, by omega, by omega⟩), Option.bind_some]
   have hb1 : (insA b (r : Int) 0).length = b.length + 1 := QdV b r 0 (by omega)
   have hd1 : (insA d (r : Int) (rd_T71 L (i : Int)).f0.f2).length = d.length + 1 := QdV d r _ (by omega)
   rw [if_pos (by omega), if_pos (by omega), if_pos (show (i : Int) < (o.length : Int) by omega)]
   obtain ⟨d', b', e1, e2, e3, e4⟩ := ih (i + 1) k (by omega) (by omega) (insA d (r : Int) (rd_T71 L (i : Int)).f0.f2) ((insA b (r : Int) 0).set r (wrap64 (rd (insA b (r : Int) 0) (r : Int) + X))) (by rw [List.length_set]; omega) (by omega)
   refine ⟨d', b', ?_, e2, e3, ?_⟩
   ·rw [Int.toNat_natCast]; exact e1
   rw [e4, Qc6 (insA b (r : Int) 0) r _ (by omega), QfC]
   generalize rd (insA b (r : Int) 0) (r : Int) = Y
   generalize b.sum = S
   generalize (List.drop (i + 1) (List.zipWith dltS L o)).sum = Z
   unfold wrap64; omega
theorem exp_ex (ce : Int) (arr : List Arr) (L : List Posn) (hl : arr.length ≤ 130) (hc : ∀ k, 6000 ≤ k → Qar.f k arr = some ce) :
  ∃ d b, (∀ k, 30000 ≤ k → Qay.f k L arr = some (d, b, (fndS ce L arr).2)) ∧ ((fndS ce L arr).2 = 0 → d.length = b.length ∧ d.length ≤ 128 ∧ wrap64 b.sum = wrap64 (List.zipWith dltS L (fndS ce L arr).1).sum) := by
 by_cases h : (fndS ce L arr).2 = 0
 ·obtain ⟨c1, c2, o, c3, c4⟩ := fnd_ok h
  have hL := Qcr c2
  obtain ⟨d, b, e1, e2, e3, e4⟩ := Qga L o hL (Qct c3).1 L.length 0 29000 (by omega) (by omega) [] [] rfl (by simp)
  refine ⟨d, b, fun k hk => ?_, fun _ => ⟨e2, by omega, ?_⟩⟩
  ·refine QbV (Qay.mono L arr) (show 29000 ≤ k by omega) ?_
   unfold Qay.f
   rw [fnd_eq ce arr L hl hc 29000 (by omega), Option.bind_some, if_pos h, c4]
   exact e1
  rw [e4, c4]; simp
 refine ⟨[], [], fun k hk => ?_, fun h' => absurd h' h⟩
 unfold Qay.f
 rw [fnd_eq ce arr L hl hc k (by omega), Option.bind_some, if_neg h]
end Go.Proofs.Ytgnmhfjfefgbfaa.Pr
