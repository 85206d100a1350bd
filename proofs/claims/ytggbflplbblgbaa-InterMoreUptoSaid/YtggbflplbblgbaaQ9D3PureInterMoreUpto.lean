/- InterMore, for lists of bulk at most 1048576: appending credits never reduces a saving, and credits of 0 thousandths save nothing. -/
import Derived.Test.YtggbflplbblgbaaQ9D3LmInter
import Derived.Test.YtggbflplbblgbaaQ9D3LmInter2
import Derived.Test.YtggbflplbblgbaaQ9D3LmInter3
import Derived.Test.YtggbflplbblgbaaQ9D3LmInter4
import Derived.Test.YtggbflplbblgbaaQ9D3LmName
import Derived.Test.YtggbflplbblgbaaQ9D3P0
import Derived.Test.YtggbflplbblgbaaQ9D3P3
import Derived.Test.YtggbflplbblgbaaQ9D3PrxRd
namespace Go.Proofs.Ytggbflplbblgbaa.Pure
open Go.RowKit Go.Proofs.Ytggbflplbblgbaa.Pr Go.Proofs.YtggbflplbblgbaaW.PrintWords Go.Proofs.YtggbflplbblgbaaW.PrintLast Go.Proofs.YtggbflplbblgbaaW.PrintMore
set_option linter.unusedVariables false
set_option linter.unusedSimpArgs false
theorem InterMoreUpto : ∀ (l0_0 : List ByteArray) (l0_1 : List Int) (l0_2 : List Int) (l1 : List (S75)) (l2 : List (S75)), l0_0.length ≤ 9223372036854775807 → l0_0.length * 16 ≤ 140737488351232 → (∀ y_ ∈ l0_0, y_.size ≤ 9223372036854775807) → l0_1.length ≤ 9223372036854775807 → l0_1.length * 8 ≤ 140737488351232 → (∀ y_ ∈ l0_1, (Lit.int .i64 y_).wf = true) → l0_2.length ≤ 9223372036854775807 → l0_2.length * 8 ≤ 140737488351232 → (∀ y_ ∈ l0_2, (Lit.int .i64 y_).wf = true) → l1.length ≤ 9223372036854775807 → l1.length ≤ 1048576 → l1.length * 56 ≤ 140737488351232 → (∀ y_ ∈ l1, ok75 y_) → l2.length ≤ 9223372036854775807 → l2.length ≤ 1048576 → l2.length * 56 ≤ 140737488351232 → (∀ y_ ∈ l2, ok75 y_) → ∃ k, contangolaw25_InterMore.f k l0_0 l0_1 l0_2 l1 l2 = some true := by
 intro l0 l1 l2 a b _ y0 sz _ _ _ _ _ _ _ ha _ oka _ hb _ okb
 have biga : bigC a := fun c hc => ⟨(oka c hc).1, (oka c hc).2.1⟩
 have bigab : bigC (a ++ b) := fun c hc => by
  rcases List.mem_append.1 hc with h | h
  ·exact biga c h
  exact ⟨(okb c h).1, (okb c h).2.1⟩
 have bigz : bigC ((a ++ b).map zC) := fun c hc => by
  obtain ⟨x, hx, rfl⟩ := List.mem_map.1 hc
  exact bigab x hx
 refine ⟨5000000 + 4 * l0.length, ?_⟩
 obtain ⟨K, hK⟩ : ∃ K, K = 5000000 + 4 * l0.length := ⟨_, rfl⟩
 rw [← hK]
 unfold contangolaw25_InterMore.f
 rw [if_pos (by simp; omega), List.nil_append, Option.bind_some, if_pos (by omega)]
 obtain ⟨L, hL⟩ : ∃ L, L = a ++ b := ⟨_, rfl⟩
 have len : L.length = a.length + b.length := by rw [hL, List.length_append]
 rw [← hL] at bigab bigz ⊢
 -- what stands behind the loop that lays the list of no thousandths
 have tail : ∀ k, 4 * l0.length + 8000 ≤ k → contangolaw25_InterMore.l0 k a L (L.map zC) (L.length : Int) l0 l1 l2 = some true := by
  intro k hk
  obtain ⟨k, rfl⟩ : ∃ m, k = m + 1 := ⟨k - 1, by omega⟩
  rw [contangolaw25_InterMore.l0, if_neg (by omega), QbK l0 l1 l2 a (by omega) sz biga k (by omega), Option.bind_some, QbK l0 l1 l2 L (by omega) sz bigab k (by omega), Option.bind_some, QbK l0 l1 l2 (L.map zC) (by omega) sz bigz k (by omega), Option.bind_some]
  obtain ⟨k, rfl⟩ : ∃ m, k = m + 1 := ⟨k - 1, by omega⟩
  have out : ∀ x1 x2 x3 x4 x5 x6, contangolaw25_InterMore.j1 (k + 1) x1 x2 x3 x4 x5 x6 true = some true := by
   intro x1 x2 x3 x4 x5 x6
   rw [contangolaw25_InterMore.j1, if_pos rfl, goes25 k (by omega)]; rfl
  by_cases e1 : (saveS l0 l1 l2 a).2.2 = 0
  ·rw [if_pos e1]
   by_cases e2 : (saveS l0 l1 l2 L).2.2 = 0
   ·have c2 : crS L = 0 := by
     unfold saveS at e2
     by_cases c : crS L = 0
     ·exact c
     rw [if_neg c] at e2; exact absurd e2 c
    have m : mayS l0 l1 l2 = true := by
     unfold saveS at e2
     rw [if_pos c2] at e2
     by_cases c : mayS l0 l1 l2 = true
     ·exact c
     rw [if_neg c] at e2; cases e2
    have c1 : crS a = 0 := by
     unfold saveS at e1
     by_cases c : crS a = 0
     ·exact c
     rw [if_neg c] at e1; exact absurd e1 c
    obtain ⟨n1, ok1⟩ := crS_ok c1
    obtain ⟨n2, ok2⟩ := crS_ok c2
    have M := Qde m
    have ok3 : ∀ c ∈ L.map zC, crOk c ∧ crOk2 c := fun c hc => by
     obtain ⟨x, hx, rfl⟩ := List.mem_map.1 hc
     exact zC_ok (ok2 x hx)
    have c3 : crS (L.map zC) = 0 := crS_mk (by rw [List.length_map]; exact n2) ok3
    have P := may_pl M
    have D := Qdf M
    obtain ⟨I1, _, _⟩ := QbJ (ixI l0 0) l1 l2 l0.length P D a _ (QbI M) ok1
    obtain ⟨I2, _, _⟩ := QbJ (ixI l0 0) l1 l2 l0.length P D L _ (QbI M) ok2
    obtain ⟨I3, _, _⟩ := QbJ (ixI l0 0) l1 l2 l0.length P D (L.map zC) _ (QbI M) ok3
    have mono : ∀ j : Nat, j < l0.length → rd (pS l0 l1 l2 a).1 (j : Int) ≤ rd (pS l0 l1 l2 L).1 (j : Int) := by
     intro j hj
     unfold pS
     rw [hL, Qdi]
     exact (QbJ (ixI l0 0) l1 l2 l0.length P D b _ I1 (fun c hc => ok2 c (by rw [hL]; exact List.mem_append_right _ hc))).2.1 j hj
    have same : (pS l0 l1 l2 L).2 = (pS l0 l1 l2 (L.map zC)).2 := QcS (ixI l0 0) l1 l2 L _ _ rfl
    have zero : ∀ j : Nat, j < l0.length → rd (pS l0 l1 l2 (L.map zC)).1 (j : Int) = 0 := by
     intro j hj
     have h := QcT (ixI l0 0) l1 l2 l0.length P L (List.replicate l0.length 0, l1) List.length_replicate (fun j hj => (QbI M).s j hj |>.2) j hj
     exact h.trans (rd_rep _ _)
    change InvI l1 l2 l0.length (pS l0 l1 l2 a) at I1
    change InvI l1 l2 l0.length (pS l0 l1 l2 L) at I2
    change InvI l1 l2 l0.length (pS l0 l1 l2 (L.map zC)) at I3
    have s1 : saveS l0 l1 l2 a = ((pS l0 l1 l2 a).1, (pS l0 l1 l2 a).2, 0) := by unfold saveS; rw [if_pos c1, if_pos m]
    have s2 : saveS l0 l1 l2 L = ((pS l0 l1 l2 L).1, (pS l0 l1 l2 L).2, 0) := by unfold saveS; rw [if_pos c2, if_pos m]
    have s3 : saveS l0 l1 l2 (L.map zC) = ((pS l0 l1 l2 (L.map zC)).1, (pS l0 l1 l2 (L.map zC)).2, 0) := by unfold saveS; rw [if_pos c3, if_pos m]
    rw [s1, s2, s3]
    dsimp only
    have x1 := I1.n1
    have x2 := I2.n1
    have x3 := I3.n1
    have x4 := I2.n2
    rw [contangolaw25_InterMore.j1, if_neg (by decide), if_pos (by omega), if_pos (by omega), if_pos rfl, ← same, Qbt _ (by omega) k (by omega), Option.bind_some]
    obtain ⟨k, rfl⟩ : ∃ m, k = m + 1 := ⟨k - 1, by omega⟩
    rw [contangolaw25_InterMore.j2, if_neg (by decide)]
    have loop : ∀ n j k : Nat, j + n = l0.length → n + 3001 ≤ k → contangolaw25_InterMore.l1 k (pS l0 l1 l2 a).1 (pS l0 l1 l2 L).1 (pS l0 l1 l2 (L.map zC)).1 (j : Int) = some true := by
     intro n
     induction n with
     | zero =>
      intro j k hj hk
      obtain ⟨k, rfl⟩ : ∃ m, k = m + 1 := ⟨k - 1, by omega⟩
      rw [contangolaw25_InterMore.l1, if_neg (by omega), goes25 k (by omega)]; rfl
     | succ n ih =>
      intro j k hj hk
      obtain ⟨k, rfl⟩ : ∃ m, k = m + 1 := ⟨k - 1, by omega⟩
      have z := zero j (by omega)
      have q := mono j (by omega)
      have w : wrap64 ((j : Int) + 1) = ((j + 1 : Nat) : Int) := by rw [nwrap (by omega) (by omega)]; omega
      rw [contangolaw25_InterMore.l1, w]
      clear w
      rw [if_pos (by omega), if_pos (by omega), if_pos (by omega), if_neg (by omega), if_pos (by omega), if_pos z]
      exact ih (j + 1) k (by omega) (by omega)
    exact loop l0.length 0 k (by omega) (by omega)
   have e2b : ((saveS l0 l1 l2 L).2.2 != 0) = true := bne_iff_ne.2 e2
   rw [e2b]
   exact out _ _ _ _ _ _
  rw [if_neg e1]
  exact out _ _ _ _ _ _
 have fill : ∀ n i k : Nat, i + n = L.length → 4 * l0.length + 8000 + n ≤ k → contangolaw25_InterMore.l0 k a L ((L.take i).map zC) (i : Int) l0 l1 l2 = some true := by
  intro n
  induction n with
  | zero =>
   intro i k hi hk
   have e : i = L.length := by omega
   subst e
   rw [List.take_length]
   exact tail k (by omega)
  | succ n ih =>
   intro i k hi hk
   obtain ⟨k, rfl⟩ : ∃ m, k = m + 1 := ⟨k - 1, by omega⟩
   have w : wrap64 ((i : Int) + 1) = ((i + 1 : Nat) : Int) := by rw [nwrap (by omega) (by omega)]; omega
   rw [contangolaw25_InterMore.l0, w]
   clear w
   rw [if_pos (by omega), if_pos (by omega), if_pos (by rw [List.length_map, List.length_take]; omega)]
   have e : (L.take i).map zC ++ [(⟨(rd_T75 L (i : Int)).f0, (rd_T75 L (i : Int)).f1, (rd_T75 L (i : Int)).f2, (rd_T75 L (i : Int)).f3, 0⟩ : S75)] = (L.take (i + 1)).map zC := by
    have d := Qcj L i (by omega)
    rw [List.drop_eq_getElem_cons (show i < L.length by omega)] at d
    have d1 := (List.cons.inj d).1
    rw [List.take_succ_eq_append_getElem (show i < L.length by omega), List.map_append, ← d1]
    rfl
   rw [e]
   exact ih (i + 1) k (by omega) (by omega)
 exact fill L.length 0 K (by omega) (by omega)
end Go.Proofs.Ytggbflplbblgbaa.Pure
