/- Pledges: their order, what Check answers, where a pledge stands, what a list with a pledge is. -/
import Derived.Test.YtaiekjimdjlgbaaQF9ELmBytes
import Derived.Test.YtaiekjimdjlgbaaQF9ELmName
import Derived.Test.YtaiekjimdjlgbaaQF9EP0
import Derived.Test.YtaiekjimdjlgbaaQF9EP1
import Derived.Test.YtaiekjimdjlgbaaQF9EP2
import Derived.Test.YtaiekjimdjlgbaaQF9EP6
import Derived.Test.YtaiekjimdjlgbaaQF9EP3
namespace Go.Proofs.Ytaiekjimdjlgbaa.Pr
open Go.RowKit Go.Proofs.Ytaiekjimdjlgbaa.Pr Go.Proofs.YtaiekjimdjlgbaaW.PrintWords Go.Proofs.YtaiekjimdjlgbaaW.PrintLast Go.Proofs.YtaiekjimdjlgbaaW.PrintMore
set_option linter.unusedVariables false
set_option linter.unusedSimpArgs false
abbrev Pled := S85
abbrev PK := ByteArray × ByteArray × ByteArray
def pkey (p : Pled) : PK := (p.f0.f0, p.f0.f1, p.f1)
def klt (a b : PK) : Bool :=
  if a.1 = b.1 then if a.2.1 = b.2.1 then Op.bytesLess a.2.2.toList b.2.2.toList else Op.bytesLess a.2.1.toList b.2.1.toList else Op.bytesLess a.1.toList b.1.toList
theorem klt_self (a : PK) : klt a a = false := by simp [klt, bl_self]
/-- What compare answers. -/
def cmpK (a b : PK) : Int := if a = b then 0 else if klt a b = true then -1 else 1
theorem pcompare_eq (a b : Pled) : pledge_compare.f a.f0.f0 a.f0.f1 a.f1 a.f2 b.f0.f0 b.f0.f1 b.f1 b.f2 = some (cmpK (pkey a) (pkey b)) := by
  unfold pledge_compare.f cmp_Compare_string.f cmp_isNaN_string.f cmpK klt pkey
  simp only [tl_iff, Prod.mk.injEq]
  by_cases e1 : a.f0.f0 = b.f0.f0
  · by_cases e2 : a.f0.f1 = b.f0.f1
    · by_cases e3 : a.f1 = b.f1
      · simp [e1, e2, e3, bl_self]
      · cases h : Op.bytesLess a.f1.toList b.f1.toList <;> simp [e1, e2, e3, bl_self, h]
    · cases h : Op.bytesLess a.f0.f1.toList b.f0.f1.toList <;> simp [e1, e2, bl_self, h]
  · cases h : Op.bytesLess a.f0.f0.toList b.f0.f0.toList <;> simp [e1, bl_self, h]
theorem ahead_eq (a b : Pled) : contangoref32_Ahead.f a.f0.f0 a.f0.f1 a.f1 a.f2 b.f0.f0 b.f0.f1 b.f1 b.f2 = some (klt (pkey a) (pkey b)) := by
  unfold contangoref32_Ahead.f klt pkey
  simp only [tl_iff]
  (repeat' split) <;> rfl
theorem pl_drop (l : List Pled) (i : Nat) (h : i < l.length) : l.drop i = rd_T85 l (i : Int) :: l.drop (i + 1) := by
  rw [List.drop_eq_getElem_cons h]
  unfold rd_T85
  rw [Int.toNat_natCast, List.getD_eq_getElem?_getD, List.getElem?_eq_getElem h]
  rfl
theorem pl_rd (l : List Pled) (i : Nat) (h : i < l.length) : rd_T85 l (i : Int) = l[i] := by
  unfold rd_T85
  rw [Int.toNat_natCast, List.getD_eq_getElem?_getD, List.getElem?_eq_getElem h]
  rfl
def okName (p : Pled) : Bool := nameOk p.f0.f0 && (nameOk p.f0.f1 && nameOk p.f1)
def okQty (n : Int) : Bool := decide (1 ≤ n) && decide (n ≤ 1152921504606846976)
theorem many_eq (n : Int) : pledge_many.f n = some (okQty n) := by
  unfold pledge_many.f okQty
  split
  · rename_i h; simp [show 1 ≤ n from h]
  · rename_i h; simp [show ¬ 1 ≤ n from h]
theorem may_eq (n : Int) : contangoref32_may.f n = some (okQty n) := by
  unfold contangoref32_may.f okQty
  split
  · rename_i h; simp [show 1 ≤ n from h]
  · rename_i h; simp [show ¬ 1 ≤ n from h]
def ordBadP (q : Option PK) (s : PK) : Bool := match q with | some r => !klt r s | none => false
def chkLP : Option PK → List Pled → Int
  | _, [] => 0
  | q, p :: t => if okName p = true then if ordBadP q (pkey p) = true then 12 else if okQty p.f2 = true then chkLP (some (pkey p)) t else 18 else 10
theorem chkLP_cons (q : Option PK) (p : Pled) (t : List Pled) : chkLP q (p :: t) = if okName p = true then if ordBadP q (pkey p) = true then 12 else if okQty p.f2 = true then chkLP (some (pkey p)) t else 18 else 10 := by
  cases q <;> rfl
/-- What Check answers. -/
def chkP (l : List Pled) : Int := if (l.length : Int) > 1024 then 8 else chkLP none l
def prevK (l : List Pled) : Nat → Option PK
  | 0 => none
  | i + 1 => some (pkey (rd_T85 l (i : Int)))
theorem named_loop (l : List ByteArray) (hl : l.length ≤ 1000) : ∀ n i k : Nat, i + n = l.length → n + 20 ≤ k → pledge_named.l0 k l (l.length : Int) (i : Int) = some ((l.drop i).all nameOk) := by
  intro n
  induction n with
  | zero =>
    intro i k hi hk
    obtain ⟨k, rfl⟩ : ∃ m, k = m + 1 := ⟨k - 1, by omega⟩
    rw [pledge_named.l0, if_neg (by omega), List.drop_eq_nil_of_le (by omega)]
    rfl
  | succ n ih =>
    intro i k hi hk
    obtain ⟨k, rfl⟩ : ∃ m, k = m + 1 := ⟨k - 1, by omega⟩
    have hlt : i < l.length := by omega
    have e : rdOf ByteArray.empty l (i : Int) = l[i] := by
      unfold rdOf
      rw [Int.toNat_natCast, List.getD_eq_getElem?_getD, List.getElem?_eq_getElem hlt]
      rfl
    rw [pledge_named.l0, if_pos (by omega), if_pos (by omega), if_pos (by omega), name_eq _ k (by omega), Option.bind_some, nwrap (by omega) (by omega), show ((i : Int) + 1) = ((i + 1 : Nat) : Int) by omega, ih (i + 1) k (by omega) (by omega), List.drop_eq_getElem_cons hlt, List.all_cons, e]
    cases nameOk l[i] <;> simp
theorem pnamed_eq (l : List ByteArray) (hl : l.length ≤ 1000) (k : Nat) (hk : l.length + 20 ≤ k) : pledge_named.f k l = some (l.all nameOk) := by
  unfold pledge_named.f
  rw [show (0 : Int) = ((0 : Nat) : Int) from rfl, named_loop l hl l.length 0 k (by omega) hk, List.drop_zero]
theorem cmpK_ge (a b : PK) : (cmpK a b ≥ 0) ↔ klt a b = false := by
  unfold cmpK
  by_cases e : a = b
  · rw [if_pos e, e, klt_self]; simp
  · rw [if_neg e]
    cases h : klt a b <;> simp
theorem pchk_loop (l : List Pled) (hl : l.length ≤ 1024) : ∀ n i k : Nat, i + n = l.length → 2 * n + 30 ≤ k → pledge_Check.l0 k l l (l.length : Int) (i : Int) = some (chkLP (prevK l i) (l.drop i)) := by
  intro n
  induction n with
  | zero =>
    intro i k hi hk
    obtain ⟨k, rfl⟩ : ∃ m, k = m + 1 := ⟨k - 1, by omega⟩
    rw [pledge_Check.l0, if_neg (by omega), List.drop_eq_nil_of_le (by omega), chkLP]
  | succ n ih =>
    intro i k hi hk
    obtain ⟨k, rfl⟩ : ∃ m, k = m + 2 := ⟨k - 2, by omega⟩
    have hlt : i < l.length := by omega
    have IH := ih (i + 1) k (by omega) (by omega)
    have tail : ∀ b : Bool, pledge_Check.j1 (k + 1) l l (l.length : Int) (i : Int) b (rd_T85 l i).f0.f0 (rd_T85 l i).f0.f1 (rd_T85 l i).f1 (rd_T85 l i).f2 = some (if b = true then 12 else if okQty (rd_T85 l i).f2 = true then chkLP (prevK l (i + 1)) (l.drop (i + 1)) else 18) := by
      intro b
      rw [pledge_Check.j1, many_eq, Option.bind_some, nwrap (by omega) (by omega), show ((i : Int) + 1) = ((i + 1 : Nat) : Int) by omega, IH]
      cases b <;> cases okQty (rd_T85 l i).f2 <;> simp
    rw [pledge_Check.l0, if_pos (by omega), if_pos (by omega), if_pos (by omega), pl_drop l i hlt, chkLP_cons, pnamed_eq _ (by simp) _ (by simp; omega), Option.bind_some]
    have e0 : [(rd_T85 l i).f0.f0, (rd_T85 l i).f0.f1, (rd_T85 l i).f1].all nameOk = okName (rd_T85 l i) := by simp [okName]
    rw [e0]
    cases hn : okName (rd_T85 l i) with
    | false => simp
    | true =>
      simp only [if_true]
      cases i with
      | zero =>
        rw [if_neg (by omega)]
        exact tail false
      | succ j =>
        have e : wrap64 (((j + 1 : Nat) : Int) - 1) = (j : Int) := by rw [nwrap (by omega) (by omega)]; omega
        rw [if_pos (by omega), e, if_pos (by omega), if_pos (by omega), pcompare_eq, Option.bind_some, tail]
        have : decide (cmpK (pkey (rd_T85 l (j : Int))) (pkey (rd_T85 l ((j + 1 : Nat) : Int))) ≥ 0) = ordBadP (prevK l (j + 1)) (pkey (rd_T85 l ((j + 1 : Nat) : Int))) := by
          unfold prevK ordBadP
          cases h : klt (pkey (rd_T85 l (j : Int))) (pkey (rd_T85 l ((j + 1 : Nat) : Int))) with
          | false => simp only [decide_eq_true_eq, h, Bool.not_false, cmpK_ge, decide_true]
          | true => simp only [h, Bool.not_true, cmpK_ge]; decide
        rw [this]
        rfl
theorem pcheck_eq (l : List Pled) (k : Nat) (hk : 2078 ≤ k) : pledge_Check.f k l = some (chkP l) := by
  unfold pledge_Check.f chkP
  split
  · rfl
  · exact pchk_loop l (by omega) l.length 0 k (by omega) (by omega)
/-- A number that no text of a list is longer than. -/
def szP (p : Pled) : Nat := p.f0.f0.size + p.f0.f1.size + p.f1.size
def szsP : List Pled → Nat
  | [] => 0
  | p :: t => szP p + szsP t
theorem szs_mem : ∀ {l : List Pled} {p : Pled}, p ∈ l → szP p ≤ szsP l
  | q :: t, p, h => by
    rcases List.mem_cons.1 h with rfl | h
    · unfold szsP; omega
    · have := szs_mem h
      unfold szsP; omega
def bigOk (p : Pled) : Prop := p.f0.f0.size ≤ 9223372036854775807 ∧ p.f0.f1.size ≤ 9223372036854775807 ∧ p.f1.size ≤ 9223372036854775807
theorem rnames_eq (a b : ByteArray) (ha : a.size ≤ 9223372036854775807) (hb : b.size ≤ 9223372036854775807) (k : Nat) (hk : a.size + b.size + 1 ≤ k) : contangoref32_names.f k a b = some (nameOk a && nameOk b) := by
  unfold contangoref32_names.f
  rw [rname_eq a ha k (by omega), rname_eq b hb k (by omega), Option.bind_some]
  cases nameOk a <;> simp
theorem prchk_loop (l : List Pled) (hl : l.length ≤ 1024) (hb : ∀ p ∈ l, bigOk p) : ∀ n i k : Nat, i + n = l.length → 3 * n + szsP l + 30 ≤ k → contangoref32_Check.l0 k l (i : Int) = some (chkLP (prevK l i) (l.drop i)) := by
  intro n
  induction n with
  | zero =>
    intro i k hi hk
    obtain ⟨k, rfl⟩ : ∃ m, k = m + 1 := ⟨k - 1, by omega⟩
    rw [contangoref32_Check.l0, if_neg (by omega), List.drop_eq_nil_of_le (by omega), chkLP]
  | succ n ih =>
    intro i k hi hk
    obtain ⟨k, rfl⟩ : ∃ m, k = m + 3 := ⟨k - 3, by omega⟩
    have hlt : i < l.length := by omega
    have IH := ih (i + 1) k (by omega) (by omega)
    have hm : rd_T85 l (i : Int) ∈ l := by rw [pl_rd l i hlt]; exact List.getElem_mem _
    have hz := szs_mem hm
    have hbg := hb _ hm
    unfold szP at hz
    have tail2 : ∀ b : Bool, contangoref32_Check.j2 (k + 1) l (i : Int) b = some (if b = true then 12 else if okQty (rd_T85 l i).f2 = true then chkLP (prevK l (i + 1)) (l.drop (i + 1)) else 18) := by
      intro b
      rw [contangoref32_Check.j2, if_pos (show (0 : Int) ≤ (i : Int) by omega), if_pos (show (i : Int) < (l.length : Int) by omega), may_eq, Option.bind_some, nwrap (by omega) (by omega), show ((i : Int) + 1) = ((i + 1 : Nat) : Int) by omega, IH]
      cases b <;> cases okQty (rd_T85 l i).f2 <;> simp
    have tail1 : ∀ b : Bool, contangoref32_Check.j1 (k + 2) l (i : Int) b = some (if b = true then 10 else if ordBadP (prevK l i) (pkey (rd_T85 l i)) = true then 12 else if okQty (rd_T85 l i).f2 = true then chkLP (prevK l (i + 1)) (l.drop (i + 1)) else 18) := by
      intro b
      rw [contangoref32_Check.j1]
      cases b with
      | true => simp
      | false =>
        rw [if_neg (by simp)]
        cases i with
        | zero =>
          rw [if_neg (by omega), tail2 false]
          rfl
        | succ j =>
          have e : wrap64 (((j + 1 : Nat) : Int) - 1) = (j : Int) := by rw [nwrap (by omega) (by omega)]; omega
          rw [if_pos (by omega), e, if_pos (by omega), if_pos (by omega), if_pos (by omega), if_pos (by omega), ahead_eq, Option.bind_some, tail2]
          rfl
    rw [contangoref32_Check.l0, if_pos (by omega), if_pos (by omega), pl_drop l i hlt, chkLP_cons, rnames_eq _ _ hbg.1 hbg.2.1 _ (by omega), Option.bind_some, rname_eq _ hbg.2.2 _ (by omega), Option.bind_some]
    rw [show okName (rd_T85 l i) = ((nameOk (rd_T85 l i).f0.f0 && nameOk (rd_T85 l i).f0.f1) && nameOk (rd_T85 l i).f1) by unfold okName; rw [Bool.and_assoc]]
    cases (nameOk (rd_T85 l i).f0.f0 && nameOk (rd_T85 l i).f0.f1) with
    | false => rw [if_neg (by simp), tail1 true]; simp
    | true =>
      rw [if_pos rfl, tail1]
      cases nameOk (rd_T85 l i).f1 <;> simp [prevK]
theorem prcheck_eq (l : List Pled) (hb : ∀ p ∈ l, bigOk p) (k : Nat) (hk : szsP l + 3102 ≤ k) : contangoref32_Check.f k l = some (chkP l) := by
  unfold contangoref32_Check.f chkP
  split
  · rfl
  · exact prchk_loop l (by omega) hb l.length 0 k (by omega) (by omega)
theorem qcond (x : Pled) (a b : ByteArray) : ((x.f0.f0.toList == a.toList && (x.f0.f1.toList == b.toList)) = true) ↔ (x.f0.f0 = a ∧ x.f0.f1 = b) := by
  simp only [Bool.and_eq_true, beq_iff_eq, tl_iff]
end Go.Proofs.Ytaiekjimdjlgbaa.Pr
