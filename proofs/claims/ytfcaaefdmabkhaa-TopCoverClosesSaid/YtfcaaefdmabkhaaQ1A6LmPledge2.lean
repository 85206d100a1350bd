/- Pledges: what Put and Take answer, by the program and by the reference. -/
import Derived.Test.YtfcaaefdmabkhaaQ1A6LmName
import Derived.Test.YtfcaaefdmabkhaaQ1A6LmPledge
import Derived.Test.YtfcaaefdmabkhaaQ1A6P0
import Derived.Test.YtfcaaefdmabkhaaQ1A6P3
import Derived.Test.YtfcaaefdmabkhaaQ1A6P7
import Derived.Test.YtfcaaefdmabkhaaQ1A6PrxRd
namespace Go.Proofs.Ytfcaaefdmabkhaa.Pr
open Go.RowKit Go.Proofs.Ytfcaaefdmabkhaa.Pr Go.Proofs.YtfcaaefdmabkhaaW.PrintWords Go.Proofs.YtfcaaefdmabkhaaW.PrintLast Go.Proofs.YtfcaaefdmabkhaaW.PrintMore
set_option linter.unusedVariables false
set_option linter.unusedSimpArgs false
def goodP (l : List Pled) : Prop := l.length ≤ 1024 ∧ Qbz l ∧ ∀ p ∈ l, okName p = true ∧ okQty p.f2 = true
theorem Qdn : ∀ (l : List Pled) (q : Option PK), chkLP q l = 0 ↔ ((∀ s, q = some s → ∀ p ∈ l, klt s (pkey p) = true) ∧ Qbz l ∧ ∀ p ∈ l, okName p = true ∧ okQty p.f2 = true)
 | [], q => by simp [chkLP, Qbz]
 | p :: t, q => by
  have ih := Qdn t (some (pkey p))
  have t1 : (∀ s, (some (pkey p)) = some s → ∀ x ∈ t, klt s (pkey x) = true) ↔ ∀ x ∈ t, klt (pkey p) (pkey x) = true := by simp
  rw [t1] at ih
  rw [Qdm]
  by_cases hn : okName p = true
  ·rw [if_pos hn]
   by_cases hq : Qb4 q (pkey p) = true
   ·rw [if_pos hq]
    refine ⟨fun h => absurd h (by decide), fun h => ?_⟩
    cases q with
    | none => cases hq
    | some s =>
     have := h.1 s rfl p (by simp)
     rw [show Qb4 (some s) (pkey p) = !klt s (pkey p) from rfl, this] at hq
     cases hq
   rw [if_neg hq]
   by_cases hp : okQty p.f2 = true
   ·rw [if_pos hp, ih]
    unfold Qbz
    rw [List.pairwise_cons]
    constructor
    ·rintro ⟨h1, h2, h3⟩
     refine ⟨?_, ⟨h1, h2⟩, ?_⟩
     ·rintro s rfl x hx
      have hs : klt s (pkey p) = true := by
       cases h : klt s (pkey p) with
       | true => rfl
       | false => exact absurd (show Qb4 (some s) (pkey p) = true by rw [show Qb4 (some s) (pkey p) = !klt s (pkey p) from rfl, h]; rfl) hq
      rcases List.mem_cons.1 hx with rfl | hx
      ·exact hs
      exact Qct _ _ _ hs (h1 x hx)
     intro x hx
     rcases List.mem_cons.1 hx with rfl | hx
     ·exact ⟨hn, hp⟩
     exact h3 x hx
    rintro ⟨_, ⟨h1, h2⟩, h3⟩
    exact ⟨h1, h2, fun x hx => h3 x (List.mem_cons_of_mem _ hx)⟩
   rw [if_neg hp]
   exact ⟨fun h => absurd h (by decide), fun h => absurd (h.2.2 p (by simp)).2 hp⟩
  rw [if_neg hn]
  exact ⟨fun h => absurd h (by decide), fun h => absurd (h.2.2 p (by simp)).1 hn⟩
theorem QbU (l : List Pled) : chkP l = 0 ↔ goodP l := by
 unfold chkP goodP
 split
 ·exact ⟨fun h => absurd h (by decide), fun h => by omega⟩
 rw [Qdn]
 simp
 omega
theorem Qb3 (n : Int) : okQty n = true ↔ 1 ≤ n ∧ n ≤ 1152921504606846976 := by unfold okQty; simp
theorem Qch {q : PK} {l : List Pled} (h : goodP l) : (midP q l = [] ∧ hadP q l = 0) ∨ (∃ x, midP q l = [x] ∧ x ∈ l ∧ pkey x = q ∧ hadP q l = x.f2 ∧ 1 ≤ hadP q l ∧ hadP q l ≤ 1152921504606846976) := by
 rcases Qcu q l h.2.1 with hm | ⟨x, hm, hx⟩
 ·exact Or.inl ⟨hm, by unfold hadP; rw [hm]⟩
 have hxl : x ∈ l := (List.mem_filter.1 (show x ∈ midP q l by rw [hm]; simp)).1
 have := (Qb3 _).1 (h.2.2 x hxl).2
 have e : hadP q l = x.f2 := by unfold hadP; rw [hm]
 exact Or.inr ⟨x, hm, hxl, hx, e, by omega, by omega⟩
theorem len3 (q : PK) (l : List Pled) (h : Qbz l) : l.length = (loP q l).length + ((midP q l).length + (hiP q l).length) := by
 have e := congrArg List.length (split3 q l h)
 rw [List.length_append, List.length_append] at e
 exact e
theorem Qex (q : PK) (n : Int) (l : List Pled) : (insP q n l).length = (loP q l).length + ((if n = 0 then 0 else 1) + (hiP q l).length) := by
 unfold insP
 split <;> simp <;> omega
def qName (q : PK) : Bool := nameOk q.1 && (nameOk q.2.1 && nameOk q.2.2)
def putS (l : List Pled) (q : PK) (n : Int) : List Pled × Int :=
 if chkP l = 0 then
  if qName q = true then
   if okQty n = true then
    if hadP q l + n ≤ 1152921504606846976 then
     if hadP q l = 0 ∧ l.length = 1024 then ([], 8) else (insP q (hadP q l + n) l, 0)
    else ([], 18)
   else ([], 18)
  else ([], 10)
 else ([], chkP l)
def takeS (l : List Pled) (q : PK) (n : Int) : List Pled × Int :=
 if chkP l = 0 then
  if okQty n = true then
   if hadP q l < n then ([], 23) else (insP q (hadP q l - n) l, 0)
  else ([], 18)
 else ([], chkP l)
theorem Qgp (l : List Pled) (q : PK) (n : Int) (k : Nat) (hk : 2100 ≤ k) : Qbq.f k l q.1 q.2.1 q.2.2 n = some (putS l q n) := by
 unfold Qbq.f putS
 rw [Qcd l k (by omega), Option.bind_some]
 by_cases h : chkP l = 0
 ·have hg := (QbU l).1 h
  rw [if_pos h, if_pos h, Qd2 _ (by simp) k (by simp; omega), Option.bind_some, QdJ, Option.bind_some]
  rw [show [q.1, q.2.1, q.2.2].all nameOk = qName q by simp [qName]]
  by_cases h1 : qName q = true
  ·rw [if_pos h1, if_pos h1]
   by_cases h2 : okQty n = true
   ·have hn := (Qb3 n).1 h2
    have hlen := hg.1
    rw [if_pos h2, if_pos h2, QfJ q n l hg.2.1 (by omega) hn (fun p hp => (hg.2.2 p hp).2) k (by omega), Option.bind_some]
    by_cases h3 : hadP q l + n ≤ 1152921504606846976
    ·simp only [if_pos h3, if_true, Qex]
     have hl3 := len3 q l hg.2.1
     rcases Qch (q := q) hg with ⟨hm, h0⟩ | ⟨x, hm, _, _, _, h0, _⟩
     ·rw [hm, List.length_nil] at hl3
      rw [if_neg (show ¬ hadP q l + n = 0 by omega)]
      by_cases h4 : l.length = 1024
      ·rw [if_pos (by omega), if_pos ⟨h0, h4⟩]
      rw [if_neg (by omega), if_neg (fun z => h4 z.2)]
     rw [hm, List.length_singleton] at hl3
     rw [if_neg (show ¬ hadP q l + n = 0 by omega), if_neg (by omega), if_neg (by omega)]
    simp only [if_neg h3]
    rfl
   rw [if_neg h2, if_neg h2]
  rw [if_neg h1, if_neg h1]
 rw [if_neg h, if_neg h]
theorem QfI (l : List Pled) (q : PK) (n : Int) (k : Nat) (hk : 2100 ≤ k) : QaT.f k l q.1 q.2.1 q.2.2 n = some (takeS l q n) := by
 obtain ⟨k, rfl⟩ : ∃ m, k = m + 1 := ⟨k - 1, by omega⟩
 unfold QaT.f takeS
 rw [Qcd l _ (by omega), Option.bind_some]
 by_cases h : chkP l = 0
 ·have hg := (QbU l).1 h
  have hlen := hg.1
  rw [if_pos h, if_pos h, QdJ, Option.bind_some]
  by_cases h2 : okQty n = true
  ·have hn := (Qb3 n).1 h2
   have hl3 := len3 q l hg.2.1
   have e := split3 q l hg.2.1
   rw [if_pos h2, if_pos h2, Qd3 q 0 l hg.2.1 (by omega) _ (by omega), Option.bind_some]
   rcases Qch (q := q) hg with ⟨hm, h0⟩ | ⟨x, hm, hxl, hx, he, h0, h1⟩
   ·simp only [hm, ne_eq, not_true_eq_false, decide_false, Bool.false_eq_true, if_false]
    rw [QaT.j0, if_pos rfl, h0, if_pos (by omega)]
   rw [hm, List.length_singleton] at hl3
   have hlt : (loP q l).length < l.length := by omega
   have hrd : rd_T46 l ((loP q l).length : Int) = x := by
    rw [pl_rd l _ hlt]
    have : l[(loP q l).length]? = some x := by
     refine (congrArg (fun z : List Pled => z[(loP q l).length]?) e).trans ?_
     show (loP q l ++ (midP q l ++ hiP q l))[(loP q l).length]? = some x
     rw [List.getElem?_append_right (Nat.le_refl _), Nat.sub_self, hm]
     rfl
    rw [List.getElem?_eq_getElem hlt] at this
    exact Option.some.inj this
   have hdr : l.drop ((loP q l).length + 1) = hiP q l := by
    rw [← List.drop_drop, QdB q l hg.2.1, hm]
    rfl
   have hch : ∀ p : List Pled, p.length ≤ 1000 → QaE.f l ((loP q l).length : Int) 1 p = some (loP q l ++ p ++ hiP q l) := by
    intro p hp
    have := QcA l p (loP q l).length 1 (by omega) hp (by omega)
    rw [QdN q l hg.2.1, hdr] at this
    exact this
   simp only [hm, ne_eq, reduceCtorEq, not_false_eq_true, decide_true, if_true]
   rw [if_pos (by omega), if_pos (by omega), hrd, ← he, QaT.j0]
   by_cases h3 : hadP q l < n
   ·rw [if_pos h3, if_pos (by simp [h3])]
   have hw : wrap64 (hadP q l - n) = hadP q l - n := IntWalk.wrap64_in _ (by omega)
   rw [if_neg h3, if_neg (by simp [h3]), if_pos (by omega), if_pos (by omega), hrd, ← he, hw]
   unfold insP
   by_cases h4 : hadP q l - n = 0
   ·rw [if_pos h4, if_pos h4, hch _ (by simp), Option.bind_some]
    simp
   rw [if_neg h4, if_neg h4, hch _ (by simp), Option.bind_some]
   simp [plOf]
  rw [if_neg h2, if_neg h2]
 rw [if_neg h, if_neg h]
end Go.Proofs.Ytfcaaefdmabkhaa.Pr
