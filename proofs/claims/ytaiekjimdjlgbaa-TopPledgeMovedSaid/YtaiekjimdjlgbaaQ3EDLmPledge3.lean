/- Pledges: a list with a pledge is one again; what stands in it. -/
import Derived.Test.YtaiekjimdjlgbaaQ3EDLmPledge
import Derived.Test.YtaiekjimdjlgbaaQ3EDLmPledge2
import Derived.Test.YtaiekjimdjlgbaaQ3EDP0
namespace Go.Proofs.Ytaiekjimdjlgbaa.Pr
open Go.RowKit Go.Proofs.Ytaiekjimdjlgbaa.Pr Go.Proofs.YtaiekjimdjlgbaaW.PrintWords Go.Proofs.YtaiekjimdjlgbaaW.PrintLast Go.Proofs.YtaiekjimdjlgbaaW.PrintMore
set_option linter.unusedVariables false
set_option linter.unusedSimpArgs false
theorem mid_ins (q : PK) (n : Int) (l : List Pled) : midP q (insP q n l) = if n = 0 then [] else [plOf q n] := by
  unfold insP loP hiP midP
  rw [List.filter_append, List.filter_append, List.filter_filter, List.filter_filter]
  have h1 : l.filter (fun p => decide (pkey p = q) && klt (pkey p) q) = [] := by
    refine List.filter_eq_nil_iff.2 fun p hp => ?_
    by_cases h : pkey p = q
    · rw [h, klt_self]; simp
    · simp [h]
  have h3 : l.filter (fun p => decide (pkey p = q) && klt q (pkey p)) = [] := by
    refine List.filter_eq_nil_iff.2 fun p hp => ?_
    by_cases h : pkey p = q
    · rw [h, klt_self]; simp
    · simp [h]
  rw [h1, h3]
  split
  · rfl
  · simp [plOf, pkey]
theorem had_ins (q : PK) (n : Int) (l : List Pled) : hadP q (insP q n l) = n := by
  unfold hadP
  rw [mid_ins]
  by_cases h : n = 0
  · simp [h]
  · simp [h, plOf]
theorem sorted_ins (q : PK) (n : Int) (l : List Pled) (h : sortedP l) : sortedP (insP q n l) := by
  unfold insP sortedP
  have hl : (loP q l).Pairwise (fun a b => klt (pkey a) (pkey b) = true) := List.Pairwise.filter _ h
  have hh : (hiP q l).Pairwise (fun a b => klt (pkey a) (pkey b) = true) := List.Pairwise.filter _ h
  rw [List.pairwise_append, List.pairwise_append]
  refine ⟨hl, ⟨?_, hh, ?_⟩, ?_⟩
  · split <;> simp
  · intro a ha b hb
    split at ha
    · simp at ha
    · rw [List.mem_singleton.1 ha]
      exact hi_gt hb
  · intro a ha b hb
    have h1 := lo_lt ha
    rcases List.mem_append.1 hb with h2 | h2
    · split at h2
      · simp at h2
      · rw [List.mem_singleton.1 h2]
        exact h1
    · exact klt_trans _ _ _ h1 (hi_gt h2)
theorem mem_ins {q : PK} {n : Int} {l : List Pled} {x : Pled} (h : x ∈ insP q n l) : x ∈ l ∨ (n ≠ 0 ∧ x = plOf q n) := by
  unfold insP at h
  rcases List.mem_append.1 h with h | h
  · exact Or.inl (List.mem_filter.1 h).1
  · rcases List.mem_append.1 h with h | h
    · split at h
      · simp at h
      · exact Or.inr ⟨by assumption, List.mem_singleton.1 h⟩
    · exact Or.inl (List.mem_filter.1 h).1
theorem ins_len_le (q : PK) (n : Int) (l : List Pled) (h : sortedP l) : (insP q n l).length ≤ l.length + 1 := by
  have := len3 q l h
  rw [ins_len]
  split <;> omega
theorem had_bd {q : PK} {l : List Pled} (h : goodP l) : 0 ≤ hadP q l ∧ hadP q l ≤ 1152921504606846976 := by
  rcases had_mid (q := q) h with ⟨_, h0⟩ | ⟨x, _, _, _, _, h0, h1⟩ <;> omega
end Go.Proofs.Ytaiekjimdjlgbaa.Pr
