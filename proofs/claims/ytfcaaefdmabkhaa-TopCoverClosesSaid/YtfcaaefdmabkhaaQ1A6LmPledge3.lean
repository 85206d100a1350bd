/- Pledges: a list with a pledge is one again; what stands in it. -/
import Derived.Test.YtfcaaefdmabkhaaQ1A6LmPledge
import Derived.Test.YtfcaaefdmabkhaaQ1A6LmPledge2
import Derived.Test.YtfcaaefdmabkhaaQ1A6P0
namespace Go.Proofs.Ytfcaaefdmabkhaa.Pr
open Go.RowKit Go.Proofs.Ytfcaaefdmabkhaa.Pr Go.Proofs.YtfcaaefdmabkhaaW.PrintWords Go.Proofs.YtfcaaefdmabkhaaW.PrintLast Go.Proofs.YtfcaaefdmabkhaaW.PrintMore
set_option linter.unusedVariables false
set_option linter.unusedSimpArgs false
theorem Qga (q : PK) (l : List Pled) (h : goodP l) : insP q (hadP q l) l = l := by
 have e := split3 q l h.2.1
 conv => rhs; rw [e]
 unfold insP
 rcases Qch (q := q) h with ⟨hm, h0⟩ | ⟨x, hm, _, hx, hn, h0, _⟩
 ·rw [if_pos h0, hm]
 rw [if_neg (by omega), hm, hn]
 congr 2
 subst hx
 rfl
theorem QeS (q : PK) (n : Int) (l : List Pled) (h : Qbz l) : Qbz (insP q n l) := by
 unfold insP Qbz
 have hl : (loP q l).Pairwise (fun a b => klt (pkey a) (pkey b) = true) := List.Pairwise.filter _ h
 have hh : (hiP q l).Pairwise (fun a b => klt (pkey a) (pkey b) = true) := List.Pairwise.filter _ h
 rw [List.pairwise_append, List.pairwise_append]
 refine ⟨hl, ⟨?_, hh, ?_⟩, ?_⟩
 ·split <;> simp
 ·intro a ha b hb
  split at ha
  ·simp at ha
  rw [List.mem_singleton.1 ha]
  exact hi_gt hb
 intro a ha b hb
 have h1 := lo_lt ha
 rcases List.mem_append.1 hb with h2 | h2
 ·split at h2
  ·simp at h2
  rw [List.mem_singleton.1 h2]
  exact h1
 exact Qct _ _ _ h1 (hi_gt h2)
theorem Qgi {q : PK} {n : Int} {l : List Pled} {x : Pled} (h : x ∈ insP q n l) : x ∈ l ∨ (n ≠ 0 ∧ x = plOf q n) := by
 unfold insP at h
 rcases List.mem_append.1 h with h | h
 ·exact Or.inl (List.mem_filter.1 h).1
 rcases List.mem_append.1 h with h | h
 ·split at h
  ·simp at h
  exact Or.inr ⟨by assumption, List.mem_singleton.1 h⟩
 exact Or.inl (List.mem_filter.1 h).1
theorem Qgr (l : List Pled) (q : PK) (n : Int) (h : (putS l q n).2 = 0) : goodP l ∧ qName q = true ∧ (1 ≤ n ∧ n ≤ 1152921504606846976) ∧ hadP q l + n ≤ 1152921504606846976 ∧ ¬ (hadP q l = 0 ∧ l.length = 1024) ∧ putS l q n = (insP q (hadP q l + n) l, 0) := by
 unfold putS at *
 by_cases h1 : chkP l = 0
 ·by_cases h2 : qName q = true
  ·by_cases h3 : okQty n = true
   ·by_cases h4 : hadP q l + n ≤ 1152921504606846976
    ·by_cases h5 : hadP q l = 0 ∧ l.length = 1024
     ·rw [if_pos h1, if_pos h2, if_pos h3, if_pos h4, if_pos h5] at h; cases h
     exact ⟨(QbU l).1 h1, h2, (Qb3 n).1 h3, h4, h5, by rw [if_pos h1, if_pos h2, if_pos h3, if_pos h4, if_neg h5]⟩
    rw [if_pos h1, if_pos h2, if_pos h3, if_neg h4] at h; cases h
   rw [if_pos h1, if_pos h2, if_neg h3] at h; cases h
  rw [if_pos h1, if_neg h2] at h; cases h
 rw [if_neg h1] at h; exact absurd h h1
theorem QfQ (l : List Pled) (q : PK) (n : Int) (h : goodP l) (hn : 1 ≤ n ∧ n ≤ 1152921504606846976) (h2 : n ≤ hadP q l) : takeS l q n = (insP q (hadP q l - n) l, 0) := by
 unfold takeS
 rw [if_pos ((QbU l).2 h), if_pos ((Qb3 n).2 hn), if_neg (by omega)]
theorem had_bd {q : PK} {l : List Pled} (h : goodP l) : 0 ≤ hadP q l ∧ hadP q l ≤ 1152921504606846976 := by
 rcases Qch (q := q) h with ⟨_, h0⟩ | ⟨x, _, _, _, _, h0, h1⟩ <;> omega
end Go.Proofs.Ytfcaaefdmabkhaa.Pr
