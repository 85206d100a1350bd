/- Pledges moved from one account to another, by the program and by the reference. -/
import Derived.Test.YtggbflplbblgbaaQ769LmBytes
import Derived.Test.YtggbflplbblgbaaQ769LmName
import Derived.Test.YtggbflplbblgbaaQ769LmPledge
import Derived.Test.YtggbflplbblgbaaQ769LmPledge2
import Derived.Test.YtggbflplbblgbaaQ769LmPledge3
import Derived.Test.YtggbflplbblgbaaQ769LmPledgeOf
import Derived.Test.YtggbflplbblgbaaQ769P0
import Derived.Test.YtggbflplbblgbaaQ769P4
import Derived.Test.YtggbflplbblgbaaQ769P7
namespace Go.Proofs.Ytggbflplbblgbaa.Pr
open Go.RowKit Go.Proofs.Ytggbflplbblgbaa.Pr Go.Proofs.YtggbflplbblgbaaW.PrintWords Go.Proofs.YtggbflplbblgbaaW.PrintLast Go.Proofs.YtggbflplbblgbaaW.PrintMore
set_option linter.unusedVariables false
set_option linter.unusedSimpArgs false
theorem pled_key (q : PK) (n : Int) : pkey (plOf q n) = q := rfl
theorem fil_ins (φ : Pled → Bool) (q : PK) (n : Int) (l : List Pled) (h : n ≠ 0 → φ (plOf q n) = true) : (insP q n l).filter φ = insP q n (l.filter φ) := by
  unfold insP loP hiP
  rw [List.filter_append, List.filter_append, List.filter_filter, List.filter_filter, List.filter_filter, List.filter_filter]
  congr 1
  · congr 1; funext p; exact Bool.and_comm _ _
  congr 1
  · by_cases h0 : n = 0
    · rw [if_pos h0]; rfl
    · rw [if_neg h0, List.filter_cons_of_pos (h h0)]; rfl
  · congr 1; funext p; exact Bool.and_comm _ _
theorem fil_ins_out (φ : Pled → Bool) (q : PK) (n : Int) (l : List Pled) (hs : sortedP l) (h : ∀ p, pkey p = q → φ p = false) : (insP q n l).filter φ = l.filter φ := by
  have e := split3 q l hs
  have hm : (midP q l).filter φ = [] := List.filter_eq_nil_iff.2 fun x hx => by rw [h x (mid_is hx)]; simp
  have e2 : l.filter φ = (loP q l).filter φ ++ ((midP q l).filter φ ++ (hiP q l).filter φ) := by
    have := congrArg (List.filter φ) e
    rw [List.filter_append, List.filter_append] at this
    exact this
  rw [e2, hm]
  unfold insP
  rw [List.filter_append, List.filter_append]
  congr 1
  by_cases h0 : n = 0
  · rw [if_pos h0]; rfl
  · rw [if_neg h0, List.filter_cons_of_neg (by rw [h _ (pled_key q n)]; simp)]; rfl
theorem had_of_mid {q : PK} {l m : List Pled} (h : midP q l = midP q m) : hadP q l = hadP q m := by unfold hadP; rw [h]
theorem had_ins_ne (q q' : PK) (n : Int) (l : List Pled) (hs : sortedP l) (h : q' ≠ q) : hadP q' (insP q n l) = hadP q' l :=
  had_of_mid (fil_ins_out _ q n l hs (fun p hp => decide_eq_false (by rw [hp]; exact fun e => h e.symm)))
theorem ins0_head (p : Pled) (r : List Pled) (h : sortedP (p :: r)) : insP (pkey p) 0 (p :: r) = r := by
  have hp : ∀ x ∈ r, klt (pkey p) (pkey x) = true := (List.pairwise_cons.1 h).1
  unfold insP
  rw [if_pos rfl, List.nil_append]
  have e1 : loP (pkey p) (p :: r) = [] := by
    unfold loP; rw [List.filter_cons_of_neg (by rw [klt_self]; simp)]; exact lo_nil _ r hp
  have e2 : hiP (pkey p) (p :: r) = r := by
    unfold hiP; rw [List.filter_cons_of_neg (by rw [klt_self]; simp)]; exact hi_all _ r hp
  rw [e1, e2]; rfl
def isOf (a b : ByteArray) (p : Pled) : Bool := decide (p.f0.f0 = a ∧ p.f0.f1 = b)
def notP (a b : ByteArray) (l : List Pled) : List Pled := l.filter (fun p => !isOf a b p)
theorem ofP_is (a b : ByteArray) (l : List Pled) : ofP a b l = l.filter (isOf a b) := rfl
theorem isOf_key {a b : ByteArray} {p : Pled} (h : isOf a b p = true) : pkey p = (a, b, p.f1) := by
  have := of_decide_eq_true h
  unfold pkey; rw [this.1, this.2]
theorem isOf_of_key {a b s : ByteArray} {p : Pled} (h : pkey p = (a, b, s)) : isOf a b p = true := by
  unfold pkey at h
  simp only [Prod.mk.injEq] at h
  exact decide_eq_true ⟨h.1, h.2.1⟩
theorem isOf_ne {a b c d s : ByteArray} {p : Pled} (h : pkey p = (c, d, s)) (hne : ¬ (a = c ∧ b = d)) : isOf a b p = false := by
  unfold pkey at h
  simp only [Prod.mk.injEq] at h
  refine decide_eq_false fun z => hne ⟨?_, ?_⟩
  · rw [← z.1, h.1]
  · rw [← z.2, h.2.1]
theorem not_of_len (a b : ByteArray) : ∀ l : List Pled, (notP a b l).length + (ofP a b l).length = l.length
  | [] => rfl
  | p :: t => by
    have ih := not_of_len a b t
    unfold notP at *
    rw [ofP_is] at *
    cases h : isOf a b p with
    | true => rw [List.filter_cons_of_neg (by rw [h]; simp), List.filter_cons_of_pos h, List.length_cons, List.length_cons]; omega
    | false => rw [List.filter_cons_of_pos (by rw [h]; simp), List.filter_cons_of_neg (by rw [h]; simp), List.length_cons, List.length_cons]; omega
theorem notP_nil (a b : ByteArray) (l : List Pled) (h : ofP a b l = []) : notP a b l = l := by
  refine List.filter_eq_self.2 fun p hp => ?_
  have h2 : ¬ isOf a b p = true := List.filter_eq_nil_iff.1 h p hp
  rw [Bool.eq_false_iff.2 h2]; rfl
theorem notP_cons (a b : ByteArray) (p : Pled) (t : List Pled) : notP a b (p :: t) = if isOf a b p = true then notP a b t else p :: notP a b t := by
  unfold notP
  cases h : isOf a b p with
  | true => rw [List.filter_cons_of_neg (by rw [h]; simp)]; simp
  | false => rw [List.filter_cons_of_pos (by rw [h]; simp)]; simp
/-- The loop over the giver's pledges. -/
def mvL (c d : ByteArray) : List Pled → List Pled → List Pled × Int
  | out, [] => (out, 0)
  | out, p :: r => if hadP (c, d, p.f1) out + p.f2 ≤ 1152921504606846976 then mvL c d (insP (c, d, p.f1) (hadP (c, d, p.f1) out + p.f2) out) r else ([], 18)
theorem had_nonneg {q : PK} {l : List Pled} (hs : sortedP l) (h : ∀ p ∈ l, okQty p.f2 = true) : 0 ≤ hadP q l ∧ hadP q l ≤ 1152921504606846976 := by
  rcases mid_cases q l hs with hm | ⟨x, hm, _⟩
  · have h0 : hadP q l = 0 := by unfold hadP; rw [hm]
    omega
  · have h0 : hadP q l = x.f2 := by unfold hadP; rw [hm]
    have hx : x ∈ l := (List.mem_filter.1 (show x ∈ midP q l by rw [hm]; simp)).1
    have := (okQty_iff _).1 (h x hx)
    omega
theorem qty_ins {q : PK} {n : Int} {l : List Pled} (hl : ∀ p ∈ l, okQty p.f2 = true) (hn : okQty n = true) : ∀ p ∈ insP q n l, okQty p.f2 = true := by
  intro p hp
  rcases mem_ins hp with h | ⟨_, rfl⟩
  · exact hl p h
  · exact hn
theorem pm_loop (c d : ByteArray) (own : List Pled) (hlen : own.length ≤ 1024) (hq : ∀ p ∈ own, okQty p.f2 = true) : ∀ n i k : Nat, i + n = own.length → n + 1200 ≤ k → ∀ out : List Pled, sortedP out → out.length + n ≤ 1024 → (∀ p ∈ out, okQty p.f2 = true) →
    pledge_Move.l1 k out own (own.length : Int) (i : Int) c d = some (mvL c d out (own.drop i)) := by
  intro n
  induction n with
  | zero =>
    intro i k hi hk out hs hl ho
    obtain ⟨k, rfl⟩ : ∃ m, k = m + 1 := ⟨k - 1, by omega⟩
    rw [pledge_Move.l1, if_neg (by omega), List.drop_eq_nil_of_le (by omega), mvL]
  | succ n ih =>
    intro i k hi hk out hs hl ho
    obtain ⟨k, rfl⟩ : ∃ m, k = m + 1 := ⟨k - 1, by omega⟩
    have hx := hq own[i] (List.getElem_mem _)
    rw [← pl_rd own i (by omega)] at hx
    have hxn := (okQty_iff _).1 hx
    have hw := pwith_eq (c, d, (rd_T26 own (i : Int)).f1) (rd_T26 own (i : Int)).f2 out hs (by omega) hxn ho k (by omega)
    simp only at hw
    rw [pledge_Move.l1, if_pos (by omega), if_pos (by omega), if_pos (by omega), hw, Option.bind_some, nwrap (by omega) (by omega), show ((i : Int) + 1) = ((i + 1 : Nat) : Int) by omega, pl_drop own i (by omega), mvL]
    by_cases h : hadP (c, d, (rd_T26 own (i : Int)).f1) out + (rd_T26 own (i : Int)).f2 ≤ 1152921504606846976
    · have hh := had_nonneg (q := (c, d, (rd_T26 own (i : Int)).f1)) hs ho
      have hil := ins_len_le (c, d, (rd_T26 own (i : Int)).f1) (hadP (c, d, (rd_T26 own (i : Int)).f1) out + (rd_T26 own (i : Int)).f2) out hs
      rw [if_pos h, if_pos h]
      simp only [if_true]
      exact ih (i + 1) k (by omega) (by omega) _ (sorted_ins _ _ _ hs) (by omega) (qty_ins ho ((okQty_iff _).2 (by omega)))
    · rw [if_neg h, if_neg h]
      simp
theorem sorted_fil {l : List Pled} (φ : Pled → Bool) (h : sortedP l) : sortedP (l.filter φ) := List.Pairwise.filter _ h
theorem rw_cond' (x : Pled) (a b : ByteArray) : ((!(x.f0.f0.toList == a.toList) || (!(x.f0.f1.toList == b.toList))) = true) ↔ ¬ isOf a b x = true := by
  unfold isOf
  simp only [Bool.or_eq_true, Bool.not_eq_true', beq_eq_false_iff_ne, ne_eq, tl_iff, decide_eq_true_eq]
  by_cases h1 : x.f0.f0 = a <;> by_cases h2 : x.f0.f1 = b <;> simp [h1, h2]
theorem pm0_loop (a b c d : ByteArray) (l : List Pled) (hlen : l.length ≤ 1024) (hs : sortedP l) (hq : ∀ p ∈ l, okQty p.f2 = true) : ∀ n i k : Nat, i + n = l.length → n + 4000 ≤ k → ∀ out : List Pled, out.length ≤ i → out ++ notP a b (l.drop i) = notP a b l →
    pledge_Move.l0 k l out l (l.length : Int) (i : Int) a b c d = some (mvL c d (notP a b l) (ofP a b l)) := by
  intro n
  induction n with
  | zero =>
    intro i k hi hk out ho he
    obtain ⟨k, rfl⟩ : ∃ m, k = m + 1 := ⟨k - 1, by omega⟩
    have hln := not_of_len a b l
    rw [List.drop_eq_nil_of_le (by omega)] at he
    have he' : out = notP a b l := by rw [← he]; exact (List.append_nil out).symm
    rw [pledge_Move.l0, if_neg (by omega), of_eq a b l (by omega) k (by omega), Option.bind_some, he', show (0 : Int) = ((0 : Nat) : Int) from rfl,
      pm_loop c d (ofP a b l) (by omega) (fun p hp => hq p (List.mem_filter.1 hp).1) (ofP a b l).length 0 k (by omega) (by omega) (notP a b l) (sorted_fil _ hs) (by omega) (fun p hp => hq p (List.mem_filter.1 hp).1), List.drop_zero]
  | succ n ih =>
    intro i k hi hk out ho he
    obtain ⟨k, rfl⟩ : ∃ m, k = m + 1 := ⟨k - 1, by omega⟩
    rw [pledge_Move.l0, if_pos (by omega), if_pos (by omega), if_pos (by omega), nwrap (by omega) (by omega), show ((i : Int) + 1) = ((i + 1 : Nat) : Int) by omega]
    rw [pl_drop l i (by omega), notP_cons] at he
    simp only [rw_cond']
    by_cases h : isOf a b (rd_T26 l (i : Int)) = true
    · rw [if_pos h] at he
      rw [if_neg (fun z => z h)]
      exact ih (i + 1) k (by omega) (by omega) _ (by omega) he
    · rw [if_neg h] at he
      rw [if_pos h, if_pos (by omega)]
      exact ih (i + 1) k (by omega) (by omega) _ (by simp; omega) (by rw [List.append_assoc]; exact he)
def moveS (l : List Pled) (a b c d : ByteArray) : List Pled × Int :=
  if chkP l = 0 then (if (nameOk a && (nameOk b && (nameOk c && nameOk d))) = true then (if a = c ∧ b = d then ([], 21) else mvL c d (notP a b l) (ofP a b l)) else ([], 10)) else ([], chkP l)
theorem acc_cond (a b c d : ByteArray) : ((a.toList == c.toList && (b.toList == d.toList)) = true) ↔ (a = c ∧ b = d) := by
  simp only [Bool.and_eq_true, beq_iff_eq, tl_iff]
theorem pmove_eq (l : List Pled) (a b c d : ByteArray) (k : Nat) (hk : 6000 ≤ k) : pledge_Move.f k l a b c d = some (moveS l a b c d) := by
  unfold pledge_Move.f moveS
  rw [pcheck_eq l k (by omega), Option.bind_some]
  by_cases h : chkP l = 0
  · rw [if_pos h, if_pos h, pnamed_eq _ (by simp) k (by simp; omega), Option.bind_some]
    simp only [List.all_cons, List.all_nil, Bool.and_true]
    by_cases hn : (nameOk a && (nameOk b && (nameOk c && nameOk d))) = true
    · rw [if_pos hn, if_pos hn]
      simp only [acc_cond]
      by_cases he : a = c ∧ b = d
      · rw [if_pos he, if_pos he]
      · have hg := (chkP_zero l).1 h
        have hgl := hg.1
        rw [if_neg he, if_neg he, show (0 : Int) = ((0 : Nat) : Int) from rfl]
        exact pm0_loop a b c d l hg.1 hg.2.1 (fun p hp => (hg.2.2 p hp).2) l.length 0 k (by omega) (by omega) [] (by simp) rfl
    · rw [if_neg hn, if_neg hn]
  · rw [if_neg h, if_neg h]
theorem rm_loop (a b c d : ByteArray) (hne : ¬ (a = c ∧ b = d)) (l own : List Pled) (hl : goodP l) (hlen : own.length ≤ 1024) (hs : sortedP own) (hown : ∀ p ∈ own, isOf a b p = true ∧ okQty p.f2 = true) : ∀ n i k : Nat, i + n = own.length → n + 6000 ≤ k → ∀ outR : List Pled,
    sortedP outR → outR.length ≤ 1024 + i → ofP a b outR = own.drop i → (∀ p ∈ own.drop i, hadP (c, d, p.f1) (notP a b outR) = hadP (c, d, p.f1) l) →
    contangoref32_Move.l0 k l outR own (i : Int) a b c d = some (mvL c d (notP a b outR) (own.drop i)) := by
  intro n
  induction n with
  | zero =>
    intro i k hi hk outR hsR hlR hof hh
    obtain ⟨k, rfl⟩ : ∃ m, k = m + 1 := ⟨k - 1, by omega⟩
    rw [List.drop_eq_nil_of_le (by omega)] at hof ⊢
    rw [contangoref32_Move.l0, if_neg (by omega), Option.bind_some, List.nil_append, List.length_nil, if_pos (by omega), notP_nil a b outR hof, mvL]
  | succ n ih =>
    intro i k hi hk outR hsR hlR hof hh
    obtain ⟨k, rfl⟩ : ∃ m, k = m + 1 := ⟨k - 1, by omega⟩
    have hdrop := pl_drop own i (by omega)
    obtain ⟨p, hp⟩ : ∃ p, rd_T26 own (i : Int) = p := ⟨_, rfl⟩
    rw [hp] at hdrop
    have hpm : p ∈ own := List.mem_of_mem_drop (by rw [hdrop]; exact List.mem_cons_self)
    obtain ⟨hpi, hpq⟩ := hown p hpm
    have hpn := (okQty_iff _).1 hpq
    have hh0 := hh p (by rw [hdrop]; exact List.mem_cons_self)
    have hbd := had_bd (q := (c, d, p.f1)) hl
    have hll := hl.1
    have hqt := prqty_eq (c, d, p.f1) l (by omega) k (by omega)
    simp only at hqt
    have hw : wrap64 (p.f2 + hadP (c, d, p.f1) l) = p.f2 + hadP (c, d, p.f1) l := IntWalk.wrap64_in _ (by omega)
    rw [contangoref32_Move.l0, if_pos (by omega), if_pos (by omega), nwrap (x := (i : Int) + 1) (by omega) (by omega), show ((i : Int) + 1) = ((i + 1 : Nat) : Int) by omega, hp, hqt, Option.bind_some, hw, may_eq, Option.bind_some, hdrop, mvL, hh0]
    have hcom : hadP (c, d, p.f1) l + p.f2 = p.f2 + hadP (c, d, p.f1) l := Int.add_comm _ _
    rw [hcom]
    by_cases hm : p.f2 + hadP (c, d, p.f1) l ≤ 1152921504606846976
    · have hok : okQty (p.f2 + hadP (c, d, p.f1) l) = true := (okQty_iff _).2 (by omega)
      have w1 := prwith_eq (a, b, p.f1) 0 outR hsR (by omega) k (by omega)
      simp only at w1
      have hs1 := sorted_ins (a, b, p.f1) 0 outR hsR
      have hl1 := ins_len_le (a, b, p.f1) 0 outR hsR
      have w2 := prwith_eq (c, d, p.f1) (p.f2 + hadP (c, d, p.f1) l) (insP (a, b, p.f1) 0 outR) hs1 (by omega) k (by omega)
      simp only at w2
      have hs2 := sorted_ins (c, d, p.f1) (p.f2 + hadP (c, d, p.f1) l) _ hs1
      have hl2 := ins_len_le (c, d, p.f1) (p.f2 + hadP (c, d, p.f1) l) _ hs1
      have hl1' : (insP (a, b, p.f1) 0 outR).length ≤ outR.length := by
        have h3 := len3 (a, b, p.f1) outR hsR
        rw [ins_len, if_pos rfl]; omega
      rw [if_pos hok, w1, Option.bind_some, w2, Option.bind_some, if_pos hm]
      have hkey : pkey p = (a, b, p.f1) := isOf_key hpi
      have hnot1 : notP a b (insP (a, b, p.f1) 0 outR) = notP a b outR := fil_ins_out _ _ _ _ hsR (fun x hx => by rw [isOf_of_key hx]; rfl)
      have hnot2 : notP a b (insP (c, d, p.f1) (p.f2 + hadP (c, d, p.f1) l) (insP (a, b, p.f1) 0 outR)) = insP (c, d, p.f1) (p.f2 + hadP (c, d, p.f1) l) (notP a b outR) := by
        rw [← hnot1]
        exact fil_ins _ _ _ _ (fun _ => by rw [isOf_ne (pled_key _ _) hne]; rfl)
      have hof2 : ofP a b (insP (c, d, p.f1) (p.f2 + hadP (c, d, p.f1) l) (insP (a, b, p.f1) 0 outR)) = own.drop (i + 1) := by
        rw [ofP_is, fil_ins_out _ _ _ _ hs1 (fun x hx => isOf_ne hx hne), fil_ins _ _ _ _ (fun h0 => absurd rfl h0), ← ofP_is, hof, hdrop, ← hkey]
        exact ins0_head p _ (by rw [← hdrop]; exact List.Pairwise.sublist (List.drop_sublist _ _) hs)
      rw [← hnot2]
      refine ih (i + 1) k (by omega) (by omega) _ hs2 (by omega) hof2 (fun x hx => ?_)
      rw [hnot2]
      have hxne : klt (pkey p) (pkey x) = true := by
        have hsd : sortedP (p :: own.drop (i + 1)) := by rw [← hdrop]; exact List.Pairwise.sublist (List.drop_sublist _ _) hs
        exact (List.pairwise_cons.1 hsd).1 x hx
      have hxi := (hown x (List.mem_of_mem_drop hx)).1
      have hf : x.f1 ≠ p.f1 := fun e => klt_ne hxne (by rw [isOf_key hpi, isOf_key hxi, e])
      rw [had_ins_ne _ _ _ (notP a b outR) (sorted_fil _ hsR) (fun e => hf (by simp only [Prod.mk.injEq] at e; exact e.2.2))]
      exact hh x (by rw [hdrop]; exact List.mem_cons_of_mem _ hx)
    · have hok : ¬ okQty (p.f2 + hadP (c, d, p.f1) l) = true := fun e => hm ((okQty_iff _).1 e).2
      rw [if_neg hok, if_neg hm]
theorem had_notP (a b c d s : ByteArray) (hne : ¬ (a = c ∧ b = d)) (l : List Pled) : hadP (c, d, s) (notP a b l) = hadP (c, d, s) l := by
  refine had_of_mid ?_
  unfold midP notP
  rw [List.filter_filter]
  refine List.filter_congr fun p _ => ?_
  by_cases h : pkey p = (c, d, s)
  · rw [isOf_ne h hne]; simp [h]
  · simp [h]
theorem prmove_eq (l : List Pled) (hb : ∀ p ∈ l, bigOk p) (a b c d : ByteArray) (ha : a.size ≤ 9223372036854775807) (hb' : b.size ≤ 9223372036854775807) (hc : c.size ≤ 9223372036854775807) (hd : d.size ≤ 9223372036854775807) (k : Nat) (hk : 9000 + szsP l + a.size + b.size + c.size + d.size ≤ k) : contangoref32_Move.f k l a b c d = some (moveS l a b c d) := by
  unfold contangoref32_Move.f moveS
  rw [prcheck_eq l hb k (by omega), Option.bind_some]
  by_cases h : chkP l = 0
  · have hg := (chkP_zero l).1 h
    have hgl := hg.1
    obtain ⟨k, rfl⟩ : ∃ m, k = m + 1 := ⟨k - 1, by omega⟩
    rw [if_pos h, if_pos h, rnames_eq a b ha hb' _ (by omega), Option.bind_some, rnames_eq c d hc hd _ (by omega)]
    have hj : ∀ x : Bool, contangoref32_Move.j0 (k + 1) l x a b c d = some (if x = true then ([], 10) else if a = c ∧ b = d then ([], 21) else mvL c d (notP a b l) (ofP a b l)) := by
      intro x
      rw [contangoref32_Move.j0]
      cases x with
      | true => rw [if_pos rfl, if_pos rfl]
      | false =>
        simp only [Bool.false_eq_true, if_false, acc_cond]
        by_cases he : a = c ∧ b = d
        · rw [if_pos he, if_pos he]
        · have hof := ofP_len a b l
          have hfl : ∀ p ∈ ofP a b l, isOf a b p = true ∧ okQty p.f2 = true := fun p hp => ⟨(List.mem_filter.1 hp).2, (hg.2.2 p (List.mem_filter.1 hp).1).2⟩
          rw [if_neg he, if_neg he, rof_eq a b l (by omega) k (by omega), Option.bind_some, show (0 : Int) = ((0 : Nat) : Int) from rfl,
            rm_loop a b c d he l (ofP a b l) hg (by omega) (sorted_fil _ hg.2.1) hfl (ofP a b l).length 0 k (by omega) (by omega) l hg.2.1 (by omega) rfl (fun p _ => had_notP a b c d p.f1 he l), List.drop_zero]
    simp only [hj, Option.bind_some]
    cases nameOk a <;> cases nameOk b <;> cases nameOk c <;> cases nameOk d <;> simp
  · rw [if_neg h, if_neg h]
theorem mvL_len (c d : ByteArray) : ∀ (r out : List Pled), sortedP out → (mvL c d out r).1.length ≤ out.length + r.length
  | [], out, _ => by rw [mvL]; simp
  | p :: r, out, hs => by
    rw [mvL]
    split
    · have h1 := mvL_len c d r _ (sorted_ins (c, d, p.f1) (hadP (c, d, p.f1) out + p.f2) out hs)
      have h2 := ins_len_le (c, d, p.f1) (hadP (c, d, p.f1) out + p.f2) out hs
      rw [List.length_cons]; omega
    · simp
theorem moveS_len (l : List Pled) (a b c d : ByteArray) : (moveS l a b c d).1.length ≤ 1024 := by
  unfold moveS
  by_cases h : chkP l = 0
  · rw [if_pos h]
    have hg := (chkP_zero l).1 h
    have hgl := hg.1
    have := mvL_len c d (ofP a b l) (notP a b l) (sorted_fil _ hg.2.1)
    have := not_of_len a b l
    split
    · split
      · simp
      · omega
    · simp
  · rw [if_neg h]; simp
end Go.Proofs.Ytggbflplbblgbaa.Pr
