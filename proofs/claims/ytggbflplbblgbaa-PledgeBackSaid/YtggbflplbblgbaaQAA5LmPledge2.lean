/- Pledges: what Put and Take answer, by the program and by the reference. -/
import Derived.Test.YtggbflplbblgbaaQAA5LmName
import Derived.Test.YtggbflplbblgbaaQAA5LmPledge
import Derived.Test.YtggbflplbblgbaaQAA5P0
import Derived.Test.YtggbflplbblgbaaQAA5P1
import Derived.Test.YtggbflplbblgbaaQAA5P3
import Derived.Test.YtggbflplbblgbaaQAA5P5
import Derived.Test.YtggbflplbblgbaaQAA5PrxRd
namespace Go.Proofs.Ytggbflplbblgbaa.Pr
open Go.RowKit Go.Proofs.Ytggbflplbblgbaa.Pr Go.Proofs.YtggbflplbblgbaaW.PrintWords Go.Proofs.YtggbflplbblgbaaW.PrintLast Go.Proofs.YtggbflplbblgbaaW.PrintMore
set_option linter.unusedVariables false
set_option linter.unusedSimpArgs false
def goodP (l : List Pl) : Prop := l.length ≤ 1024 ∧ sortedP l ∧ ∀ p ∈ l, okName p = true ∧ okQty p.f2 = true
theorem chkLP_zero : ∀ (l : List Pl) (q : Option PK), chkLP q l = 0 ↔ ((∀ s, q = some s → ∀ p ∈ l, klt s (pkey p) = true) ∧ sortedP l ∧ ∀ p ∈ l, okName p = true ∧ okQty p.f2 = true)
  | [], q => by simp [chkLP, sortedP]
  | p :: t, q => by
    have ih := chkLP_zero t (some (pkey p))
    have t1 : (∀ s, (some (pkey p)) = some s → ∀ x ∈ t, klt s (pkey x) = true) ↔ ∀ x ∈ t, klt (pkey p) (pkey x) = true := by simp
    rw [t1] at ih
    rw [chkLP_cons]
    by_cases hn : okName p = true
    · rw [if_pos hn]
      by_cases hq : ordBadP q (pkey p) = true
      · rw [if_pos hq]
        refine ⟨fun h => absurd h (by decide), fun h => ?_⟩
        cases q with
        | none => cases hq
        | some s =>
          have := h.1 s rfl p (by simp)
          rw [show ordBadP (some s) (pkey p) = !klt s (pkey p) from rfl, this] at hq
          cases hq
      · rw [if_neg hq]
        by_cases hp : okQty p.f2 = true
        · rw [if_pos hp, ih]
          unfold sortedP
          rw [List.pairwise_cons]
          constructor
          · rintro ⟨h1, h2, h3⟩
            refine ⟨?_, ⟨h1, h2⟩, ?_⟩
            · rintro s rfl x hx
              have hs : klt s (pkey p) = true := by
                cases h : klt s (pkey p) with
                | true => rfl
                | false => exact absurd (show ordBadP (some s) (pkey p) = true by rw [show ordBadP (some s) (pkey p) = !klt s (pkey p) from rfl, h]; rfl) hq
              rcases List.mem_cons.1 hx with rfl | hx
              · exact hs
              · exact klt_trans _ _ _ hs (h1 x hx)
            · intro x hx
              rcases List.mem_cons.1 hx with rfl | hx
              · exact ⟨hn, hp⟩
              · exact h3 x hx
          · rintro ⟨_, ⟨h1, h2⟩, h3⟩
            exact ⟨h1, h2, fun x hx => h3 x (List.mem_cons_of_mem _ hx)⟩
        · rw [if_neg hp]
          exact ⟨fun h => absurd h (by decide), fun h => absurd (h.2.2 p (by simp)).2 hp⟩
    · rw [if_neg hn]
      exact ⟨fun h => absurd h (by decide), fun h => absurd (h.2.2 p (by simp)).1 hn⟩
theorem chkP_zero (l : List Pl) : chkP l = 0 ↔ goodP l := by
  unfold chkP goodP
  split
  · exact ⟨fun h => absurd h (by decide), fun h => by omega⟩
  · rw [chkLP_zero]
    simp
    omega
theorem okQty_iff (n : Int) : okQty n = true ↔ 1 ≤ n ∧ n ≤ 1152921504606846976 := by unfold okQty; simp
theorem had_mid {q : PK} {l : List Pl} (h : goodP l) : (midP q l = [] ∧ hadP q l = 0) ∨ (∃ x, midP q l = [x] ∧ x ∈ l ∧ pkey x = q ∧ hadP q l = x.f2 ∧ 1 ≤ hadP q l ∧ hadP q l ≤ 1152921504606846976) := by
  rcases mid_cases q l h.2.1 with hm | ⟨x, hm, hx⟩
  · exact Or.inl ⟨hm, by unfold hadP; rw [hm]⟩
  · have hxl : x ∈ l := (List.mem_filter.1 (show x ∈ midP q l by rw [hm]; simp)).1
    have := (okQty_iff _).1 (h.2.2 x hxl).2
    have e : hadP q l = x.f2 := by unfold hadP; rw [hm]
    exact Or.inr ⟨x, hm, hxl, hx, e, by omega, by omega⟩
theorem len3 (q : PK) (l : List Pl) (h : sortedP l) : l.length = (loP q l).length + ((midP q l).length + (hiP q l).length) := by
  have e := congrArg List.length (split3 q l h)
  rw [List.length_append, List.length_append] at e
  exact e
theorem ins_len (q : PK) (n : Int) (l : List Pl) : (insP q n l).length = (loP q l).length + ((if n = 0 then 0 else 1) + (hiP q l).length) := by
  unfold insP
  split <;> simp <;> omega
def qName (q : PK) : Bool := nameOk q.1 && (nameOk q.2.1 && nameOk q.2.2)
def putS (l : List Pl) (q : PK) (n : Int) : List Pl × Int :=
  if chkP l = 0 then
    if qName q = true then
      if okQty n = true then
        if hadP q l + n ≤ 1152921504606846976 then
          if hadP q l = 0 ∧ l.length = 1024 then ([], 8) else (insP q (hadP q l + n) l, 0)
        else ([], 18)
      else ([], 18)
    else ([], 10)
  else ([], chkP l)
def takeS (l : List Pl) (q : PK) (n : Int) : List Pl × Int :=
  if chkP l = 0 then
    if okQty n = true then
      if hadP q l < n then ([], 23) else (insP q (hadP q l - n) l, 0)
    else ([], 18)
  else ([], chkP l)
theorem pput_eq (l : List Pl) (q : PK) (n : Int) (k : Nat) (hk : 2100 ≤ k) : pledge_Put.f k l q.1 q.2.1 q.2.2 n = some (putS l q n) := by
  unfold pledge_Put.f putS
  rw [pcheck_eq l k (by omega), Option.bind_some]
  by_cases h : chkP l = 0
  · have hg := (chkP_zero l).1 h
    rw [if_pos h, if_pos h, pnamed_eq _ (by simp) k (by simp; omega), Option.bind_some, many_eq, Option.bind_some]
    rw [show [q.1, q.2.1, q.2.2].all nameOk = qName q by simp [qName]]
    by_cases h1 : qName q = true
    · rw [if_pos h1, if_pos h1]
      by_cases h2 : okQty n = true
      · have hn := (okQty_iff n).1 h2
        have hlen := hg.1
        rw [if_pos h2, if_pos h2, pwith_eq q n l hg.2.1 (by omega) hn (fun p hp => (hg.2.2 p hp).2) k (by omega), Option.bind_some]
        by_cases h3 : hadP q l + n ≤ 1152921504606846976
        · simp only [if_pos h3, if_true, ins_len]
          have hl3 := len3 q l hg.2.1
          rcases had_mid (q := q) hg with ⟨hm, h0⟩ | ⟨x, hm, _, _, _, h0, _⟩
          · rw [hm, List.length_nil] at hl3
            rw [if_neg (show ¬ hadP q l + n = 0 by omega)]
            by_cases h4 : l.length = 1024
            · rw [if_pos (by omega), if_pos ⟨h0, h4⟩]
            · rw [if_neg (by omega), if_neg (fun z => h4 z.2)]
          · rw [hm, List.length_singleton] at hl3
            rw [if_neg (show ¬ hadP q l + n = 0 by omega), if_neg (by omega), if_neg (by omega)]
        · simp only [if_neg h3]
          rfl
      · rw [if_neg h2, if_neg h2]
    · rw [if_neg h1, if_neg h1]
  · rw [if_neg h, if_neg h]
theorem prput_eq (l : List Pl) (hb : ∀ p ∈ l, bigOk p) (q : PK) (hq : q.1.size ≤ 9223372036854775807 ∧ q.2.1.size ≤ 9223372036854775807 ∧ q.2.2.size ≤ 9223372036854775807) (n : Int) (k : Nat) (hk : szsP l + (q.1.size + q.2.1.size + q.2.2.size) + 3200 ≤ k) : contangoref32_Put.f k l q.1 q.2.1 q.2.2 n = some (putS l q n) := by
  obtain ⟨k, rfl⟩ : ∃ m, k = m + 2 := ⟨k - 2, by omega⟩
  unfold contangoref32_Put.f putS
  rw [prcheck_eq l hb _ (by omega), Option.bind_some]
  by_cases h : chkP l = 0
  · have hg := (chkP_zero l).1 h
    have hlen := hg.1
    rw [if_pos h, if_pos h, rnames_eq _ _ hq.1 hq.2.1 _ (by omega), Option.bind_some, rname_eq _ hq.2.2 _ (by omega), Option.bind_some]
    have key1 : ∀ b : Bool, contangoref32_Put.j0 (k + 2) l q.2.2 n b q.1 q.2.1 = some (if b = true then ([], 10) else if okQty n = true then if hadP q l + n ≤ 1152921504606846976 then if hadP q l = 0 ∧ l.length = 1024 then ([], 8) else (insP q (hadP q l + n) l, 0) else ([], 18) else ([], 18)) := by
      intro b
      rw [contangoref32_Put.j0]
      cases b with
      | true => simp
      | false =>
        simp only [Bool.false_eq_true, if_false]
        rw [prqty_eq q l (by omega) _ (by omega), Option.bind_some, may_eq, Option.bind_some]
        by_cases h2 : okQty n = true
        · have hn := (okQty_iff n).1 h2
          have hh : 0 ≤ hadP q l ∧ hadP q l ≤ 1152921504606846976 := by
            rcases had_mid (q := q) hg with ⟨hm, h0⟩ | ⟨x, hm, _, _, _, h0, h1⟩ <;> omega
          have hw : wrap64 (hadP q l + n) = hadP q l + n := IntWalk.wrap64_in _ (by omega)
          rw [if_pos h2, if_pos h2, hw, may_eq, Option.bind_some, contangoref32_Put.j1]
          by_cases h3 : hadP q l + n ≤ 1152921504606846976
          · rw [(okQty_iff _).2 ⟨by omega, h3⟩, if_pos h3, if_neg (by simp), hw, prwith_eq q _ l hg.2.1 (by omega) _ (by omega), Option.bind_some]
            by_cases h4 : hadP q l = 0
            · rw [if_pos h4]
              by_cases h5 : l.length = 1024
              · rw [if_pos (by omega), if_pos ⟨h4, h5⟩]
              · rw [if_neg (by omega), if_neg (fun z => h5 z.2)]
            · rw [if_neg h4, if_neg (fun z => h4 z.1)]
          · rw [show okQty (hadP q l + n) = false by unfold okQty; simp [h3], if_neg h3]
            simp
        · rw [if_neg h2, if_neg h2, contangoref32_Put.j1, if_pos rfl]
    rw [show qName q = ((nameOk q.1 && nameOk q.2.1) && nameOk q.2.2) by unfold qName; rw [Bool.and_assoc]]
    cases (nameOk q.1 && nameOk q.2.1) with
    | false => rw [if_neg (by simp), key1 true]; simp
    | true =>
      rw [if_pos rfl, key1]
      cases nameOk q.2.2 <;> simp
  · rw [if_neg h, if_neg h]
theorem ptake_eq (l : List Pl) (q : PK) (n : Int) (k : Nat) (hk : 2100 ≤ k) : pledge_Take.f k l q.1 q.2.1 q.2.2 n = some (takeS l q n) := by
  obtain ⟨k, rfl⟩ : ∃ m, k = m + 1 := ⟨k - 1, by omega⟩
  unfold pledge_Take.f takeS
  rw [pcheck_eq l _ (by omega), Option.bind_some]
  by_cases h : chkP l = 0
  · have hg := (chkP_zero l).1 h
    have hlen := hg.1
    rw [if_pos h, if_pos h, many_eq, Option.bind_some]
    by_cases h2 : okQty n = true
    · have hn := (okQty_iff n).1 h2
      have hl3 := len3 q l hg.2.1
      have e := split3 q l hg.2.1
      rw [if_pos h2, if_pos h2, pplace_eq q 0 l hg.2.1 (by omega) _ (by omega), Option.bind_some]
      rcases had_mid (q := q) hg with ⟨hm, h0⟩ | ⟨x, hm, hxl, hx, he, h0, h1⟩
      · simp only [hm, ne_eq, not_true_eq_false, decide_false, Bool.false_eq_true, if_false]
        rw [pledge_Take.j0, if_pos rfl, h0, if_pos (by omega)]
      · rw [hm, List.length_singleton] at hl3
        have hlt : (loP q l).length < l.length := by omega
        have hrd : rd_T26 l ((loP q l).length : Int) = x := by
          rw [pl_rd l _ hlt]
          have : l[(loP q l).length]? = some x := by
            refine (congrArg (fun z : List Pl => z[(loP q l).length]?) e).trans ?_
            show (loP q l ++ (midP q l ++ hiP q l))[(loP q l).length]? = some x
            rw [List.getElem?_append_right (Nat.le_refl _), Nat.sub_self, hm]
            rfl
          rw [List.getElem?_eq_getElem hlt] at this
          exact Option.some.inj this
        have hdr : l.drop ((loP q l).length + 1) = hiP q l := by
          rw [← List.drop_drop, drop_lo q l hg.2.1, hm]
          rfl
        have hch : ∀ p : List Pl, p.length ≤ 1000 → pledge_changed_api_Pledge.f l ((loP q l).length : Int) 1 p = some (loP q l ++ p ++ hiP q l) := by
          intro p hp
          have := pchanged_eq l p (loP q l).length 1 (by omega) hp (by omega)
          rw [take_lo q l hg.2.1, hdr] at this
          exact this
        simp only [hm, ne_eq, reduceCtorEq, not_false_eq_true, decide_true, if_true]
        rw [if_pos (by omega), if_pos (by omega), hrd, ← he, pledge_Take.j0]
        by_cases h3 : hadP q l < n
        · rw [if_pos h3, if_pos (by simp [h3])]
        · have hw : wrap64 (hadP q l - n) = hadP q l - n := IntWalk.wrap64_in _ (by omega)
          rw [if_neg h3, if_neg (by simp [h3]), if_pos (by omega), if_pos (by omega), hrd, ← he, hw]
          unfold insP
          by_cases h4 : hadP q l - n = 0
          · rw [if_pos h4, if_pos h4, hch _ (by simp), Option.bind_some]
            simp
          · rw [if_neg h4, if_neg h4, hch _ (by simp), Option.bind_some]
            simp [plOf]
    · rw [if_neg h2, if_neg h2]
  · rw [if_neg h, if_neg h]
theorem prtake_eq (l : List Pl) (hb : ∀ p ∈ l, bigOk p) (q : PK) (n : Int) (k : Nat) (hk : szsP l + 3200 ≤ k) : contangoref32_Take.f k l q.1 q.2.1 q.2.2 n = some (takeS l q n) := by
  unfold contangoref32_Take.f takeS
  rw [prcheck_eq l hb _ (by omega), Option.bind_some]
  by_cases h : chkP l = 0
  · have hg := (chkP_zero l).1 h
    have hlen := hg.1
    rw [if_pos h, if_pos h, prqty_eq q l (by omega) _ (by omega), Option.bind_some, may_eq, Option.bind_some]
    by_cases h2 : okQty n = true
    · have hn := (okQty_iff n).1 h2
      have hh : 0 ≤ hadP q l ∧ hadP q l ≤ 1152921504606846976 := by
        rcases had_mid (q := q) hg with ⟨hm, h0⟩ | ⟨x, hm, _, _, _, h0, h1⟩ <;> omega
      rw [if_pos h2, if_pos h2]
      by_cases h3 : hadP q l < n
      · rw [if_pos h3, if_pos h3]
      · rw [if_neg h3, if_neg h3, IntWalk.wrap64_in (hadP q l - n) (by omega), prwith_eq q _ l hg.2.1 (by omega) _ (by omega), Option.bind_some]
    · rw [if_neg h2, if_neg h2]
  · rw [if_neg h, if_neg h]
theorem putS_len (l : List Pl) (q : PK) (n : Int) : (putS l q n).1.length ≤ 1025 := by
  unfold putS
  by_cases h : chkP l = 0
  · have hg := (chkP_zero l).1 h
    have := len3 q l hg.2.1
    have := hg.1
    have h2 := ins_len q (hadP q l + n) l
    (repeat' split) <;> first | (simp only [List.length_nil]; omega) | (rw [h2]; split <;> omega)
  · rw [if_neg h]; simp
theorem takeS_len (l : List Pl) (q : PK) (n : Int) : (takeS l q n).1.length ≤ 1025 := by
  unfold takeS
  by_cases h : chkP l = 0
  · have hg := (chkP_zero l).1 h
    have := len3 q l hg.2.1
    have := hg.1
    have h2 := ins_len q (hadP q l - n) l
    (repeat' split) <;> first | (simp only [List.length_nil]; omega) | (rw [h2]; split <;> omega)
  · rw [if_neg h]; simp
theorem touched_loop : ∀ n i k : Nat, n + 1 ≤ k → ∀ l : List Pl, i + n = l.length → l.length ≤ 1073741824 → ∃ r, contangolaw32_touched.l0 k l (l.length : Int) (i : Int) = some r := by
  intro n
  induction n with
  | zero =>
    intro i k hk l hi hl
    obtain ⟨k, rfl⟩ : ∃ m, k = m + 1 := ⟨k - 1, by omega⟩
    exact ⟨l, by rw [contangolaw32_touched.l0, if_neg (by omega)]⟩
  | succ n ih =>
    intro i k hk l hi hl
    obtain ⟨k, rfl⟩ : ∃ m, k = m + 1 := ⟨k - 1, by omega⟩
    obtain ⟨r, hr⟩ := ih (i + 1) k (by omega) (l.set (i : Int).toNat ⟨⟨⟨#[]⟩, ⟨#[]⟩⟩, ⟨#[]⟩, -7⟩) (by rw [List.length_set]; omega) (by rw [List.length_set]; omega)
    rw [List.length_set] at hr
    exact ⟨r, by rw [contangolaw32_touched.l0, if_pos (by omega), if_pos (by omega), if_pos (by omega), nwrap (by omega) (by omega), show ((i : Int) + 1) = ((i + 1 : Nat) : Int) by omega, hr]⟩
theorem ptouched_some (l : List Pl) (hl : l.length ≤ 1073741824) (k : Nat) (hk : l.length + 1 ≤ k) : ∃ r, contangolaw32_touched.f k l = some r := by
  unfold contangolaw32_touched.f
  exact touched_loop l.length 0 k hk l (by omega) hl
theorem pgoes (k : Nat) (hk : 60 ≤ k) : contangolaw32_goes.f k = some true := at_rounds contangolaw32_goes.mono hk (by decide +kernel)
theorem pok_big {l : List Pl} (h : ∀ p ∈ l, ok26 p) : ∀ p ∈ l, bigOk p := fun p hp => ⟨(h p hp).1.1, (h p hp).1.2, (h p hp).2.1⟩
end Go.Proofs.Ytggbflplbblgbaa.Pr
