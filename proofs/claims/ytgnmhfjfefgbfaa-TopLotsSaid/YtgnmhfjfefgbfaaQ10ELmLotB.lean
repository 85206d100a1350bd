/- TopLots: a portfolio's products as lts, each begins with its product. -/
import Derived.Test.YtgnmhfjfefgbfaaQ10ELmLotC
import Derived.Test.YtgnmhfjfefgbfaaQ10ELmLotJ
import Derived.Test.YtgnmhfjfefgbfaaQ10ELmPos
import Derived.Test.YtgnmhfjfefgbfaaQ10ELmScan
import Derived.Test.YtgnmhfjfefgbfaaQ10ELmScanP
import Derived.Test.YtgnmhfjfefgbfaaQ10ELmScanR
import Derived.Test.YtgnmhfjfefgbfaaQ10EP0
import Derived.Test.YtgnmhfjfefgbfaaQ10EP4
import Derived.Test.YtgnmhfjfefgbfaaQ10EP2
namespace Go.Proofs.Ytgnmhfjfefgbfaa.Pr
open Go.RowKit Go.Proofs.Ytgnmhfjfefgbfaa.Pr Go.Proofs.YtgnmhfjfefgbfaaW.PrintWords Go.Proofs.YtgnmhfjfefgbfaaW.PrintLast Go.Proofs.YtgnmhfjfefgbfaaW.PrintMore
set_option linter.unusedVariables false
set_option linter.unusedSimpArgs false
def HdQ (x2 : List ByteArray) (x3 : List (List Posn)) : Prop := ∀ (m : Nat) (r : List Posn), x3[m]? = some r → ∃ p t, r = p :: t ∧ x2[m]? = some p.f0.f0
theorem Qfr {x2 : List ByteArray} {x3 : List (List Posn)} (h : HdQ x2 x3) (hl : x2.length = x3.length) (p : Posn) : HdQ (x2 ++ [p.f0.f0]) (x3 ++ [[p]]) := by
 intro m r hr
 by_cases c : m < x3.length
 ·rw [List.getElem?_append_left c] at hr
  rw [List.getElem?_append_left (by omega)]
  exact h m r hr
 rw [List.getElem?_append_right (by omega)] at hr
 rw [List.getElem?_append_right (by omega), hl]
 obtain ⟨e, he⟩ := List.getElem?_eq_some_iff.1 hr
 have e0 : m - x3.length = 0 := by simp at e; omega
 rw [e0] at hr ⊢
 have : r = [p] := (Option.some.inj hr).symm
 exact ⟨p, [], this, rfl⟩
theorem QeT {x2 : List ByteArray} {a : List (List Posn)} {b : List Posn} (h : HdQ x2 (a ++ [b])) (q : Posn) : HdQ x2 (a ++ [b ++ [q]]) := by
 intro m r hr
 by_cases c : m < a.length
 ·rw [List.getElem?_append_left c] at hr
  exact h m r (by rw [List.getElem?_append_left c]; exact hr)
 rw [List.getElem?_append_right (by omega)] at hr
 obtain ⟨e, he⟩ := List.getElem?_eq_some_iff.1 hr
 have e0 : m - a.length = 0 := by simp at e; omega
 rw [e0] at hr
 obtain ⟨p, t, e1, e2⟩ := h m b (by rw [List.getElem?_append_right (by omega), e0]; rfl)
 have : r = b ++ [q] := (Option.some.inj hr).symm
 exact ⟨p, t ++ [q], by rw [this, e1]; rfl, e2⟩
theorem Qe1 (L : List Posn) (hL : L.length ≤ 128) (sz : ∀ p ∈ L, p.f0.f0.size ≤ 9223372036854775807) : ∀ n i k : Nat, i + n = L.length → n + 1 ≤ k → ∀ (x2 : List ByteArray) (x3 : List (List Posn)), PdOk L i x2 x3 → HdQ x2 x3 →
  ∃ N P, Qap.l0 k x2 x3 L (L.length : Int) (i : Int) = some (N, P) ∧ PdOk L L.length N P ∧ HdQ N P := by
 intro n
 induction n with
 | zero =>
  intro i k hi hk x2 x3 h hq
  obtain ⟨k, rfl⟩ : ∃ q, k = q + 1 := ⟨k - 1, by omega⟩
  rw [Qap.l0, if_neg (show ¬ (i : Int) < (L.length : Int) by omega)]
  obtain rfl : i = L.length := by omega
  exact ⟨x2, x3, rfl, h, hq⟩
 | succ n ih =>
  intro i k hi hk x2 x3 h hq
  obtain ⟨k, rfl⟩ : ∃ q, k = q + 1 := ⟨k - 1, by omega⟩
  have N := pd_new h (by omega) sz
  obtain ⟨h1, h2, h3, h4⟩ := h
  obtain ⟨N', P', e1, e2⟩ := ih (i + 1) k (by omega) (by omega) _ _ N (Qfr hq h1 _)
  have yl : (((x3 ++ [[]] : List (List Posn)).length : Nat) : Int) = (x3.length : Int) + 1 := by simp
  have w1 : wrap64 ((((x3 ++ [[]] : List (List Posn)).length : Nat) : Int) - 1) = (x3.length : Int) := by rw [yl, smW (by omega) (by omega)]; omega
  rw [Qap.l0, if_pos (show (i : Int) < (L.length : Int) by omega), if_pos (show (0 : Int) ≤ (i : Int) by omega), if_pos (show (i : Int) < (L.length : Int) by omega)]
  by_cases g : (x2.length : Int) = 0
  ·rw [if_pos g, if_pos (by omega), if_pos (by omega), Option.bind_some, w1, if_pos (by omega), if_pos (by rw [yl]; omega), Qb6, if_pos (by simp), Int.toNat_natCast, Qb9, smW1 (by omega)]
   exact ⟨N', P', e1, e2⟩
  rw [if_neg g, smW (show (0 : Int) ≤ (x2.length : Int) - 1 by omega) (by omega), if_pos (by omega), if_pos (by omega)]
  by_cases q : (rdOf ByteArray.empty x2 ((x2.length : Int) - 1)).toList = ((rd_T71 L (i : Int)).f0.f0).toList
  ·rw [if_pos q, smW (show (0 : Int) ≤ (x3.length : Int) - 1 by omega) (by omega), if_pos (by omega), if_pos (by omega)]
   obtain ⟨a, b, hab⟩ : ∃ a b, x3 = a ++ [b] := ⟨x3.dropLast, x3.getLast (by intro e; rw [e] at h1; exact g (by rw [h1]; rfl)), (List.dropLast_concat_getLast _).symm⟩
   subst hab
   have al : (((a ++ [b]).length : Nat) : Int) - 1 = (a.length : Int) := by simp
   have bl : b.length ≤ L.length := by
    have := congrArg List.length h3
    rw [List.flatten_append, List.length_append, List.length_take] at this
    simp at this; omega
   rw [al, Qb6, if_pos (by omega), Int.toNat_natCast, Qb9, smW1 (by omega)]
   refine ih (i + 1) k (by omega) (by omega) x2 (a ++ [b ++ [rd_T71 L (i : Int)]]) ⟨by rw [h1]; simp, by omega, ?_, h4⟩ (QeT hq _)
   rw [QdC L i (by omega), ← h3]; simp
  rw [if_neg q, if_pos (by omega), if_pos (by omega), Option.bind_some, w1, if_pos (by omega), if_pos (by rw [yl]; omega), Qb6, if_pos (by simp), Int.toNat_natCast, Qb9, smW1 (by omega)]
  exact ⟨N', P', e1, e2⟩
theorem Qe2 (L : List Posn) (hc : chk L = 0) (sz : ∀ p ∈ L, p.f0.f0.size ≤ 9223372036854775807) : ∃ N P, (∀ k, 1000 ≤ k → Qap.f k L = some (N, P)) ∧ N.length = P.length ∧ N.length ≤ 128 ∧ P.flatten = L ∧ HdQ N P := by
 have hL := QcL hc
 obtain ⟨N, P, h1, ⟨h2, h3, h4, h5⟩, h6⟩ := Qe1 L hL sz L.length 0 1000 (by omega) (by omega) [] [] ⟨rfl, by simp, rfl, fun y hy => (List.not_mem_nil hy).elim⟩ (fun m r hr => by simp at hr)
 refine ⟨N, P, fun k hk => QbK (Qap.mono L) hk ?_, h2, by omega, by rw [h4, List.take_length], h6⟩
 unfold Qap.f
 rw [Qbw L 1000 (by omega), Option.bind_some, if_pos hc]
 exact h1
theorem QcF : ∀ (x : List (List Posn)) (id : Int), (∀ r ∈ x, r ≠ []) → (someL x id).map (·.f1) = x
 | [], _, _ => rfl
 | r :: x, id, h => by
  rw [someL, if_neg (fun e => h r (by simp) (List.length_eq_zero_iff.1 e)), List.map_cons, QcF x _ (fun q hq => h q (List.mem_cons_of_mem _ hq))]
theorem Qdu : ∀ (x : List (List Posn)) (r : List Posn), r ∈ x → r.Sublist x.flatten
 | [], _, h => by simp at h
 | q :: x, r, h => by
  rw [List.flatten_cons]
  rcases List.mem_cons.1 h with rfl | h
  ·exact List.sublist_append_left _ _
  exact (Qdu x r h).trans (List.sublist_append_right _ _)
theorem Qdp {L r : List Posn} (hL : QaY L) (h : r.Sublist L) : QaY r := Qcj hL (h.map _) (fun q hq => hL.2.2 q (h.subset hq))
theorem by_ex {L : List Posn} (hL : QaY L) (sz : ∀ p ∈ L, p.f0.f0.size ≤ 9223372036854775807) : ∃ N lts, (∀ k, 2000 ≤ k → lot_By.f k L = some (lts, 0)) ∧ (∀ k, 1000 ≤ k → Qap.f k L = some (N, lts.map (·.f1))) ∧ N.length = lts.length ∧ lts.length ≤ 128 ∧ (∀ x ∈ lts, QaY x.f1) ∧ Whole L (allOf lts) ∧ HdQ N (lts.map (·.f1)) := by
 obtain ⟨N, P, h1, h2, h3, h4, h5⟩ := Qe2 L ((Qbp L).2 hL) sz
 have ne : ∀ r ∈ P, r ≠ [] := fun r hr => by
  obtain ⟨m, hm, e⟩ := List.mem_iff_getElem.1 hr
  obtain ⟨p, t, e1, _⟩ := h5 m r (by rw [List.getElem?_eq_getElem hm, e])
  rw [e1]; simp
 have fl := QcF P 0 ne
 have ln : (someL P 0).length = P.length := by rw [← List.length_map (f := (·.f1)), fl]
 refine ⟨N, someL P 0, fun k hk => ?_, fun k hk => by rw [fl]; exact h1 k hk, by omega, by omega, fun x hx => ?_, ?_, by rw [fl]; exact h5⟩
 ·unfold lot_By.f
  rw [Qbw L k (by omega), Option.bind_some, if_pos ((Qbp L).2 hL), h1 k (by omega), Option.bind_some, if_pos (show (N, P).2.length ≤ 1000000 by dsimp only; omega)]
 ·have hm : x.f1 ∈ P := by rw [← fl]; exact List.mem_map_of_mem hx
  have := Qdu P _ hm
  rw [h4] at this
  exact Qdp hL this
 have : allOf (someL P 0) = L := by unfold allOf; rw [fl, h4]
 rw [this]
 exact QdG hL (fun s => ⟨rfl, rfl⟩) (fun q hq => ⟨q, hq, rfl⟩)
end Go.Proofs.Ytgnmhfjfefgbfaa.Pr
