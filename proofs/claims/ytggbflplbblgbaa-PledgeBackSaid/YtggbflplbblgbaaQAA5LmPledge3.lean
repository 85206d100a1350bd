/- Pledges: a list with a pledge is one again; what stands in it. -/
import Derived.Test.YtggbflplbblgbaaQAA5LmPledge
import Derived.Test.YtggbflplbblgbaaQAA5LmPledge2
import Derived.Test.YtggbflplbblgbaaQAA5P0
namespace Go.Proofs.Ytggbflplbblgbaa.Pr
open Go.RowKit Go.Proofs.Ytggbflplbblgbaa.Pr Go.Proofs.YtggbflplbblgbaaW.PrintWords Go.Proofs.YtggbflplbblgbaaW.PrintLast Go.Proofs.YtggbflplbblgbaaW.PrintMore
set_option linter.unusedVariables false
set_option linter.unusedSimpArgs false
theorem lo_ins (q : PK) (n : Int) (l : List Pl) : loP q (insP q n l) = loP q l := by
  unfold insP loP hiP
  rw [List.filter_append, List.filter_append, List.filter_filter]
  have h1 : (l.filter (fun p => klt q (pkey p))).filter (fun p => klt (pkey p) q) = [] := by
    refine List.filter_eq_nil_iff.2 fun p hp => ?_
    rw [klt_asym _ _ (List.mem_filter.1 hp).2]; simp
  have h2 : (if n = 0 then [] else [plOf q n]).filter (fun p => klt (pkey p) q) = [] := by
    split
    · rfl
    · simp [plOf, pkey, klt_self]
  rw [h1, h2]
  simp
theorem hi_ins (q : PK) (n : Int) (l : List Pl) : hiP q (insP q n l) = hiP q l := by
  unfold insP loP hiP
  rw [List.filter_append, List.filter_append, List.filter_filter, List.filter_filter]
  have h1 : l.filter (fun p => klt q (pkey p) && klt (pkey p) q) = [] := by
    refine List.filter_eq_nil_iff.2 fun p hp => ?_
    cases h : klt q (pkey p) with
    | false => simp
    | true => rw [klt_asym _ _ h]; simp
  have h2 : (if n = 0 then [] else [plOf q n]).filter (fun p => klt q (pkey p)) = [] := by
    split
    · rfl
    · simp [plOf, pkey, klt_self]
  rw [h1, h2]
  simp
theorem mid_ins (q : PK) (n : Int) (l : List Pl) : midP q (insP q n l) = if n = 0 then [] else [plOf q n] := by
  unfold insP loP hiP midP
  rw [List.filter_append, List.filter_append, List.filter_filter, List.filter_filter]
  have h1 : l.filter (fun p => decide (pkey p = q) && klt (pkey p) q) = [] := by
    refine List.filter_eq_nil_iff.2 fun p hp => ?_
    by_cases h : pkey p = q
    · rw [h, klt_self]; simp
    · simp [h]
  have h3 : l.filter (fun p => decide (pkey p = q) && klt q (pkey p)) = [] := by
    refine List.filter_eq_nil_iff.2 fun p hp => ?_
    by_cases h : pkey p = q
    · rw [h, klt_self]; simp
    · simp [h]
  rw [h1, h3]
  split
  · rfl
  · simp [plOf, pkey]
theorem had_ins (q : PK) (n : Int) (l : List Pl) : hadP q (insP q n l) = n := by
  unfold hadP
  rw [mid_ins]
  by_cases h : n = 0
  · simp [h]
  · simp [h, plOf]
theorem ins_ins (q : PK) (m n : Int) (l : List Pl) : insP q m (insP q n l) = insP q m l := by
  show loP q (insP q n l) ++ ((if m = 0 then [] else [plOf q m]) ++ hiP q (insP q n l)) = insP q m l
  rw [lo_ins, hi_ins]
  rfl
theorem ins_had (q : PK) (l : List Pl) (h : goodP l) : insP q (hadP q l) l = l := by
  have e := split3 q l h.2.1
  conv => rhs; rw [e]
  unfold insP
  rcases had_mid (q := q) h with ⟨hm, h0⟩ | ⟨x, hm, _, hx, hn, h0, _⟩
  · rw [if_pos h0, hm]
  · rw [if_neg (by omega), hm, hn]
    congr 2
    subst hx
    rfl
theorem sorted_ins (q : PK) (n : Int) (l : List Pl) (h : sortedP l) : sortedP (insP q n l) := by
  unfold insP sortedP
  have hl : (loP q l).Pairwise (fun a b => klt (pkey a) (pkey b) = true) := List.Pairwise.filter _ h
  have hh : (hiP q l).Pairwise (fun a b => klt (pkey a) (pkey b) = true) := List.Pairwise.filter _ h
  rw [List.pairwise_append, List.pairwise_append]
  refine ⟨hl, ⟨?_, hh, ?_⟩, ?_⟩
  · split <;> simp
  · intro a ha b hb
    split at ha
    · simp at ha
    · rw [List.mem_singleton.1 ha]
      exact hi_gt hb
  · intro a ha b hb
    have h1 := lo_lt ha
    rcases List.mem_append.1 hb with h2 | h2
    · split at h2
      · simp at h2
      · rw [List.mem_singleton.1 h2]
        exact h1
    · exact klt_trans _ _ _ h1 (hi_gt h2)
theorem mem_ins {q : PK} {n : Int} {l : List Pl} {x : Pl} (h : x ∈ insP q n l) : x ∈ l ∨ (n ≠ 0 ∧ x = plOf q n) := by
  unfold insP at h
  rcases List.mem_append.1 h with h | h
  · exact Or.inl (List.mem_filter.1 h).1
  · rcases List.mem_append.1 h with h | h
    · split at h
      · simp at h
      · exact Or.inr ⟨by assumption, List.mem_singleton.1 h⟩
    · exact Or.inl (List.mem_filter.1 h).1
theorem good_ins (q : PK) (n : Int) (l : List Pl) (h : goodP l) (hq : qName q = true) (hn : n = 0 ∨ okQty n = true) (hl : (insP q n l).length ≤ 1024) : goodP (insP q n l) := by
  refine ⟨hl, sorted_ins q n l h.2.1, fun x hx => ?_⟩
  rcases mem_ins hx with hx | ⟨h0, rfl⟩
  · exact h.2.2 x hx
  · rcases hn with hn | hn
    · exact absurd hn h0
    · exact ⟨hq, hn⟩
theorem ins_len_le (q : PK) (n : Int) (l : List Pl) (h : sortedP l) : (insP q n l).length ≤ l.length + 1 := by
  have := len3 q l h
  rw [ins_len]
  split <;> omega
theorem putS_err (l : List Pl) (q : PK) (n : Int) (h : (putS l q n).2 ≠ 0) : (putS l q n).1 = [] := by
  unfold putS at *
  (repeat' split) <;> first | rfl | (exfalso; simp_all; done)
theorem putS_ok (l : List Pl) (q : PK) (n : Int) (h : (putS l q n).2 = 0) : goodP l ∧ qName q = true ∧ (1 ≤ n ∧ n ≤ 1152921504606846976) ∧ hadP q l + n ≤ 1152921504606846976 ∧ ¬ (hadP q l = 0 ∧ l.length = 1024) ∧ putS l q n = (insP q (hadP q l + n) l, 0) := by
  unfold putS at *
  by_cases h1 : chkP l = 0
  · by_cases h2 : qName q = true
    · by_cases h3 : okQty n = true
      · by_cases h4 : hadP q l + n ≤ 1152921504606846976
        · by_cases h5 : hadP q l = 0 ∧ l.length = 1024
          · rw [if_pos h1, if_pos h2, if_pos h3, if_pos h4, if_pos h5] at h; cases h
          · exact ⟨(chkP_zero l).1 h1, h2, (okQty_iff n).1 h3, h4, h5, by rw [if_pos h1, if_pos h2, if_pos h3, if_pos h4, if_neg h5]⟩
        · rw [if_pos h1, if_pos h2, if_pos h3, if_neg h4] at h; cases h
      · rw [if_pos h1, if_pos h2, if_neg h3] at h; cases h
    · rw [if_pos h1, if_neg h2] at h; cases h
  · rw [if_neg h1] at h; exact absurd h h1
theorem takeS_ok (l : List Pl) (q : PK) (n : Int) (h : goodP l) (hn : 1 ≤ n ∧ n ≤ 1152921504606846976) (h2 : n ≤ hadP q l) : takeS l q n = (insP q (hadP q l - n) l, 0) := by
  unfold takeS
  rw [if_pos ((chkP_zero l).2 h), if_pos ((okQty_iff n).2 hn), if_neg (by omega)]
theorem had_bd {q : PK} {l : List Pl} (h : goodP l) : 0 ≤ hadP q l ∧ hadP q l ≤ 1152921504606846976 := by
  rcases had_mid (q := q) h with ⟨_, h0⟩ | ⟨x, _, _, _, _, h0, h1⟩ <;> omega
end Go.Proofs.Ytggbflplbblgbaa.Pr
