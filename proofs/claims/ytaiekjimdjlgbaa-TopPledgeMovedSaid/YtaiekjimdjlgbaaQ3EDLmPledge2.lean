/- Pledges: what Put and Take answer, by the program and by the reference. -/
import Derived.Test.YtaiekjimdjlgbaaQ3EDLmName
import Derived.Test.YtaiekjimdjlgbaaQ3EDLmPledge
import Derived.Test.YtaiekjimdjlgbaaQ3EDP0
import Derived.Test.YtaiekjimdjlgbaaQ3EDP4
import Derived.Test.YtaiekjimdjlgbaaQ3EDP1
import Derived.Test.YtaiekjimdjlgbaaQ3EDPrxRd
namespace Go.Proofs.Ytaiekjimdjlgbaa.Pr
open Go.RowKit Go.Proofs.Ytaiekjimdjlgbaa.Pr Go.Proofs.YtaiekjimdjlgbaaW.PrintWords Go.Proofs.YtaiekjimdjlgbaaW.PrintLast Go.Proofs.YtaiekjimdjlgbaaW.PrintMore
set_option linter.unusedVariables false
set_option linter.unusedSimpArgs false
def goodP (l : List Pled) : Prop := l.length ≤ 1024 ∧ sortedP l ∧ ∀ p ∈ l, okName p = true ∧ okQty p.f2 = true
theorem chkLP_zero : ∀ (l : List Pled) (q : Option PK), chkLP q l = 0 ↔ ((∀ s, q = some s → ∀ p ∈ l, klt s (pkey p) = true) ∧ sortedP l ∧ ∀ p ∈ l, okName p = true ∧ okQty p.f2 = true)
  | [], q => by simp [chkLP, sortedP]
  | p :: t, q => by
    have ih := chkLP_zero t (some (pkey p))
    have t1 : (∀ s, (some (pkey p)) = some s → ∀ x ∈ t, klt s (pkey x) = true) ↔ ∀ x ∈ t, klt (pkey p) (pkey x) = true := by simp
    rw [t1] at ih
    rw [chkLP_cons]
    by_cases hn : okName p = true
    · rw [if_pos hn]
      by_cases hq : ordBadP q (pkey p) = true
      · rw [if_pos hq]
        refine ⟨fun h => absurd h (by decide), fun h => ?_⟩
        cases q with
        | none => cases hq
        | some s =>
          have := h.1 s rfl p (by simp)
          rw [show ordBadP (some s) (pkey p) = !klt s (pkey p) from rfl, this] at hq
          cases hq
      · rw [if_neg hq]
        by_cases hp : okQty p.f2 = true
        · rw [if_pos hp, ih]
          unfold sortedP
          rw [List.pairwise_cons]
          constructor
          · rintro ⟨h1, h2, h3⟩
            refine ⟨?_, ⟨h1, h2⟩, ?_⟩
            · rintro s rfl x hx
              have hs : klt s (pkey p) = true := by
                cases h : klt s (pkey p) with
                | true => rfl
                | false => exact absurd (show ordBadP (some s) (pkey p) = true by rw [show ordBadP (some s) (pkey p) = !klt s (pkey p) from rfl, h]; rfl) hq
              rcases List.mem_cons.1 hx with rfl | hx
              · exact hs
              · exact klt_trans _ _ _ hs (h1 x hx)
            · intro x hx
              rcases List.mem_cons.1 hx with rfl | hx
              · exact ⟨hn, hp⟩
              · exact h3 x hx
          · rintro ⟨_, ⟨h1, h2⟩, h3⟩
            exact ⟨h1, h2, fun x hx => h3 x (List.mem_cons_of_mem _ hx)⟩
        · rw [if_neg hp]
          exact ⟨fun h => absurd h (by decide), fun h => absurd (h.2.2 p (by simp)).2 hp⟩
    · rw [if_neg hn]
      exact ⟨fun h => absurd h (by decide), fun h => absurd (h.2.2 p (by simp)).1 hn⟩
theorem chkP_zero (l : List Pled) : chkP l = 0 ↔ goodP l := by
  unfold chkP goodP
  split
  · exact ⟨fun h => absurd h (by decide), fun h => by omega⟩
  · rw [chkLP_zero]
    simp
    omega
theorem okQty_iff (n : Int) : okQty n = true ↔ 1 ≤ n ∧ n ≤ 1152921504606846976 := by unfold okQty; simp
theorem had_mid {q : PK} {l : List Pled} (h : goodP l) : (midP q l = [] ∧ hadP q l = 0) ∨ (∃ x, midP q l = [x] ∧ x ∈ l ∧ pkey x = q ∧ hadP q l = x.f2 ∧ 1 ≤ hadP q l ∧ hadP q l ≤ 1152921504606846976) := by
  rcases mid_cases q l h.2.1 with hm | ⟨x, hm, hx⟩
  · exact Or.inl ⟨hm, by unfold hadP; rw [hm]⟩
  · have hxl : x ∈ l := (List.mem_filter.1 (show x ∈ midP q l by rw [hm]; simp)).1
    have := (okQty_iff _).1 (h.2.2 x hxl).2
    have e : hadP q l = x.f2 := by unfold hadP; rw [hm]
    exact Or.inr ⟨x, hm, hxl, hx, e, by omega, by omega⟩
theorem len3 (q : PK) (l : List Pled) (h : sortedP l) : l.length = (loP q l).length + ((midP q l).length + (hiP q l).length) := by
  have e := congrArg List.length (split3 q l h)
  rw [List.length_append, List.length_append] at e
  exact e
theorem ins_len (q : PK) (n : Int) (l : List Pled) : (insP q n l).length = (loP q l).length + ((if n = 0 then 0 else 1) + (hiP q l).length) := by
  unfold insP
  split <;> simp <;> omega
end Go.Proofs.Ytaiekjimdjlgbaa.Pr
