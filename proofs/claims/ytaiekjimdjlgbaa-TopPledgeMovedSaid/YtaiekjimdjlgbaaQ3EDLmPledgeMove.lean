/- Pledges moved from one account to another, by the program and by the reference. -/
import Derived.Test.YtaiekjimdjlgbaaQ3EDLmBytes
import Derived.Test.YtaiekjimdjlgbaaQ3EDLmName
import Derived.Test.YtaiekjimdjlgbaaQ3EDLmPledge
import Derived.Test.YtaiekjimdjlgbaaQ3EDLmPledge2
import Derived.Test.YtaiekjimdjlgbaaQ3EDLmPledge3
import Derived.Test.YtaiekjimdjlgbaaQ3EDLmPledgeOf
import Derived.Test.YtaiekjimdjlgbaaQ3EDP0
import Derived.Test.YtaiekjimdjlgbaaQ3EDP5
namespace Go.Proofs.Ytaiekjimdjlgbaa.Pr
open Go.RowKit Go.Proofs.Ytaiekjimdjlgbaa.Pr Go.Proofs.YtaiekjimdjlgbaaW.PrintWords Go.Proofs.YtaiekjimdjlgbaaW.PrintLast Go.Proofs.YtaiekjimdjlgbaaW.PrintMore
set_option linter.unusedVariables false
set_option linter.unusedSimpArgs false
theorem pled_key (q : PK) (n : Int) : pkey (plOf q n) = q := rfl
theorem fil_ins_out (φ : Pled → Bool) (q : PK) (n : Int) (l : List Pled) (hs : sortedP l) (h : ∀ p, pkey p = q → φ p = false) : (insP q n l).filter φ = l.filter φ := by
  have e := split3 q l hs
  have hm : (midP q l).filter φ = [] := List.filter_eq_nil_iff.2 fun x hx => by rw [h x (mid_is hx)]; simp
  have e2 : l.filter φ = (loP q l).filter φ ++ ((midP q l).filter φ ++ (hiP q l).filter φ) := by
    have := congrArg (List.filter φ) e
    rw [List.filter_append, List.filter_append] at this
    exact this
  rw [e2, hm]
  unfold insP
  rw [List.filter_append, List.filter_append]
  congr 1
  by_cases h0 : n = 0
  · rw [if_pos h0]; rfl
  · rw [if_neg h0, List.filter_cons_of_neg (by rw [h _ (pled_key q n)]; simp)]; rfl
theorem had_of_mid {q : PK} {l m : List Pled} (h : midP q l = midP q m) : hadP q l = hadP q m := by unfold hadP; rw [h]
theorem had_ins_ne (q q' : PK) (n : Int) (l : List Pled) (hs : sortedP l) (h : q' ≠ q) : hadP q' (insP q n l) = hadP q' l :=
  had_of_mid (fil_ins_out _ q n l hs (fun p hp => decide_eq_false (by rw [hp]; exact fun e => h e.symm)))
def isOf (a b : ByteArray) (p : Pled) : Bool := decide (p.f0.f0 = a ∧ p.f0.f1 = b)
def notP (a b : ByteArray) (l : List Pled) : List Pled := l.filter (fun p => !isOf a b p)
theorem ofP_is (a b : ByteArray) (l : List Pled) : ofP a b l = l.filter (isOf a b) := rfl
theorem isOf_key {a b : ByteArray} {p : Pled} (h : isOf a b p = true) : pkey p = (a, b, p.f1) := by
  have := of_decide_eq_true h
  unfold pkey; rw [this.1, this.2]
theorem isOf_of_key {a b s : ByteArray} {p : Pled} (h : pkey p = (a, b, s)) : isOf a b p = true := by
  unfold pkey at h
  simp only [Prod.mk.injEq] at h
  exact decide_eq_true ⟨h.1, h.2.1⟩
theorem isOf_ne {a b c d s : ByteArray} {p : Pled} (h : pkey p = (c, d, s)) (hne : ¬ (a = c ∧ b = d)) : isOf a b p = false := by
  unfold pkey at h
  simp only [Prod.mk.injEq] at h
  refine decide_eq_false fun z => hne ⟨?_, ?_⟩
  · rw [← z.1, h.1]
  · rw [← z.2, h.2.1]
theorem not_of_len (a b : ByteArray) : ∀ l : List Pled, (notP a b l).length + (ofP a b l).length = l.length
  | [] => rfl
  | p :: t => by
    have ih := not_of_len a b t
    unfold notP at *
    rw [ofP_is] at *
    cases h : isOf a b p with
    | true => rw [List.filter_cons_of_neg (by rw [h]; simp), List.filter_cons_of_pos h, List.length_cons, List.length_cons]; omega
    | false => rw [List.filter_cons_of_pos (by rw [h]; simp), List.filter_cons_of_neg (by rw [h]; simp), List.length_cons, List.length_cons]; omega
theorem notP_cons (a b : ByteArray) (p : Pled) (t : List Pled) : notP a b (p :: t) = if isOf a b p = true then notP a b t else p :: notP a b t := by
  unfold notP
  cases h : isOf a b p with
  | true => rw [List.filter_cons_of_neg (by rw [h]; simp)]; simp
  | false => rw [List.filter_cons_of_pos (by rw [h]; simp)]; simp
/-- The loop over the giver's pledges. -/
def mvL (c d : ByteArray) : List Pled → List Pled → List Pled × Int
  | out, [] => (out, 0)
  | out, p :: r => if hadP (c, d, p.f1) out + p.f2 ≤ 1152921504606846976 then mvL c d (insP (c, d, p.f1) (hadP (c, d, p.f1) out + p.f2) out) r else ([], 18)
theorem had_nonneg {q : PK} {l : List Pled} (hs : sortedP l) (h : ∀ p ∈ l, okQty p.f2 = true) : 0 ≤ hadP q l ∧ hadP q l ≤ 1152921504606846976 := by
  rcases mid_cases q l hs with hm | ⟨x, hm, _⟩
  · have h0 : hadP q l = 0 := by unfold hadP; rw [hm]
    omega
  · have h0 : hadP q l = x.f2 := by unfold hadP; rw [hm]
    have hx : x ∈ l := (List.mem_filter.1 (show x ∈ midP q l by rw [hm]; simp)).1
    have := (okQty_iff _).1 (h x hx)
    omega
theorem qty_ins {q : PK} {n : Int} {l : List Pled} (hl : ∀ p ∈ l, okQty p.f2 = true) (hn : okQty n = true) : ∀ p ∈ insP q n l, okQty p.f2 = true := by
  intro p hp
  rcases mem_ins hp with h | ⟨_, rfl⟩
  · exact hl p h
  · exact hn
theorem pm_loop (c d : ByteArray) (own : List Pled) (hlen : own.length ≤ 1024) (hq : ∀ p ∈ own, okQty p.f2 = true) : ∀ n i k : Nat, i + n = own.length → n + 1200 ≤ k → ∀ out : List Pled, sortedP out → out.length + n ≤ 1024 → (∀ p ∈ out, okQty p.f2 = true) →
    pledge_Move.l1 k out own (own.length : Int) (i : Int) c d = some (mvL c d out (own.drop i)) := by
  intro n
  induction n with
  | zero =>
    intro i k hi hk out hs hl ho
    obtain ⟨k, rfl⟩ : ∃ m, k = m + 1 := ⟨k - 1, by omega⟩
    rw [pledge_Move.l1, if_neg (by omega), List.drop_eq_nil_of_le (by omega), mvL]
  | succ n ih =>
    intro i k hi hk out hs hl ho
    obtain ⟨k, rfl⟩ : ∃ m, k = m + 1 := ⟨k - 1, by omega⟩
    have hx := hq own[i] (List.getElem_mem _)
    rw [← pl_rd own i (by omega)] at hx
    have hxn := (okQty_iff _).1 hx
    have hw := pwith_eq (c, d, (rd_T85 own (i : Int)).f1) (rd_T85 own (i : Int)).f2 out hs (by omega) hxn ho k (by omega)
    simp only at hw
    rw [pledge_Move.l1, if_pos (by omega), if_pos (by omega), if_pos (by omega), hw, Option.bind_some, nwrap (by omega) (by omega), show ((i : Int) + 1) = ((i + 1 : Nat) : Int) by omega, pl_drop own i (by omega), mvL]
    by_cases h : hadP (c, d, (rd_T85 own (i : Int)).f1) out + (rd_T85 own (i : Int)).f2 ≤ 1152921504606846976
    · have hh := had_nonneg (q := (c, d, (rd_T85 own (i : Int)).f1)) hs ho
      have hil := ins_len_le (c, d, (rd_T85 own (i : Int)).f1) (hadP (c, d, (rd_T85 own (i : Int)).f1) out + (rd_T85 own (i : Int)).f2) out hs
      rw [if_pos h, if_pos h]
      simp only [if_true]
      exact ih (i + 1) k (by omega) (by omega) _ (sorted_ins _ _ _ hs) (by omega) (qty_ins ho ((okQty_iff _).2 (by omega)))
    · rw [if_neg h, if_neg h]
      simp
theorem sorted_fil {l : List Pled} (φ : Pled → Bool) (h : sortedP l) : sortedP (l.filter φ) := List.Pairwise.filter _ h
theorem rw_cond' (x : Pled) (a b : ByteArray) : ((!(x.f0.f0.toList == a.toList) || (!(x.f0.f1.toList == b.toList))) = true) ↔ ¬ isOf a b x = true := by
  unfold isOf
  simp only [Bool.or_eq_true, Bool.not_eq_true', beq_eq_false_iff_ne, ne_eq, tl_iff, decide_eq_true_eq]
  by_cases h1 : x.f0.f0 = a <;> by_cases h2 : x.f0.f1 = b <;> simp [h1, h2]
theorem pm0_loop (a b c d : ByteArray) (l : List Pled) (hlen : l.length ≤ 1024) (hs : sortedP l) (hq : ∀ p ∈ l, okQty p.f2 = true) : ∀ n i k : Nat, i + n = l.length → n + 4000 ≤ k → ∀ out : List Pled, out.length ≤ i → out ++ notP a b (l.drop i) = notP a b l →
    pledge_Move.l0 k l out l (l.length : Int) (i : Int) a b c d = some (mvL c d (notP a b l) (ofP a b l)) := by
  intro n
  induction n with
  | zero =>
    intro i k hi hk out ho he
    obtain ⟨k, rfl⟩ : ∃ m, k = m + 1 := ⟨k - 1, by omega⟩
    have hln := not_of_len a b l
    rw [List.drop_eq_nil_of_le (by omega)] at he
    have he' : out = notP a b l := by rw [← he]; exact (List.append_nil out).symm
    rw [pledge_Move.l0, if_neg (by omega), of_eq a b l (by omega) k (by omega), Option.bind_some, he', show (0 : Int) = ((0 : Nat) : Int) from rfl,
      pm_loop c d (ofP a b l) (by omega) (fun p hp => hq p (List.mem_filter.1 hp).1) (ofP a b l).length 0 k (by omega) (by omega) (notP a b l) (sorted_fil _ hs) (by omega) (fun p hp => hq p (List.mem_filter.1 hp).1), List.drop_zero]
  | succ n ih =>
    intro i k hi hk out ho he
    obtain ⟨k, rfl⟩ : ∃ m, k = m + 1 := ⟨k - 1, by omega⟩
    rw [pledge_Move.l0, if_pos (by omega), if_pos (by omega), if_pos (by omega), nwrap (by omega) (by omega), show ((i : Int) + 1) = ((i + 1 : Nat) : Int) by omega]
    rw [pl_drop l i (by omega), notP_cons] at he
    simp only [rw_cond']
    by_cases h : isOf a b (rd_T85 l (i : Int)) = true
    · rw [if_pos h] at he
      rw [if_neg (fun z => z h)]
      exact ih (i + 1) k (by omega) (by omega) _ (by omega) he
    · rw [if_neg h] at he
      rw [if_pos h, if_pos (by omega)]
      exact ih (i + 1) k (by omega) (by omega) _ (by simp; omega) (by rw [List.append_assoc]; exact he)
def moveS (l : List Pled) (a b c d : ByteArray) : List Pled × Int :=
  if chkP l = 0 then (if (nameOk a && (nameOk b && (nameOk c && nameOk d))) = true then (if a = c ∧ b = d then ([], 21) else mvL c d (notP a b l) (ofP a b l)) else ([], 10)) else ([], chkP l)
theorem acc_cond (a b c d : ByteArray) : ((a.toList == c.toList && (b.toList == d.toList)) = true) ↔ (a = c ∧ b = d) := by
  simp only [Bool.and_eq_true, beq_iff_eq, tl_iff]
theorem pmove_eq (l : List Pled) (a b c d : ByteArray) (k : Nat) (hk : 6000 ≤ k) : pledge_Move.f k l a b c d = some (moveS l a b c d) := by
  unfold pledge_Move.f moveS
  rw [pcheck_eq l k (by omega), Option.bind_some]
  by_cases h : chkP l = 0
  · rw [if_pos h, if_pos h, pnamed_eq _ (by simp) k (by simp; omega), Option.bind_some]
    simp only [List.all_cons, List.all_nil, Bool.and_true]
    by_cases hn : (nameOk a && (nameOk b && (nameOk c && nameOk d))) = true
    · rw [if_pos hn, if_pos hn]
      simp only [acc_cond]
      by_cases he : a = c ∧ b = d
      · rw [if_pos he, if_pos he]
      · have hg := (chkP_zero l).1 h
        have hgl := hg.1
        rw [if_neg he, if_neg he, show (0 : Int) = ((0 : Nat) : Int) from rfl]
        exact pm0_loop a b c d l hg.1 hg.2.1 (fun p hp => (hg.2.2 p hp).2) l.length 0 k (by omega) (by omega) [] (by simp) rfl
    · rw [if_neg hn, if_neg hn]
  · rw [if_neg h, if_neg h]
theorem had_notP (a b c d s : ByteArray) (hne : ¬ (a = c ∧ b = d)) (l : List Pled) : hadP (c, d, s) (notP a b l) = hadP (c, d, s) l := by
  refine had_of_mid ?_
  unfold midP notP
  rw [List.filter_filter]
  refine List.filter_congr fun p _ => ?_
  by_cases h : pkey p = (c, d, s)
  · rw [isOf_ne h hne]; simp [h]
  · simp [h]
end Go.Proofs.Ytaiekjimdjlgbaa.Pr
