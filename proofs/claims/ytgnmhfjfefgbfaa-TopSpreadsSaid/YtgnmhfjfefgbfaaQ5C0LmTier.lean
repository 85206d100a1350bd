/- Tier: which spreads are formed, by the program and by the reference. -/
import Derived.Test.YtgnmhfjfefgbfaaQ5C0LmName
import Derived.Test.YtgnmhfjfefgbfaaQ5C0P0
import Derived.Test.YtgnmhfjfefgbfaaQ5C0P3
namespace Go.Proofs.Ytgnmhfjfefgbfaa.Pr
open Go.RowKit Go.Proofs.Ytgnmhfjfefgbfaa.Pr Go.Proofs.YtgnmhfjfefgbfaaW.PrintWords Go.Proofs.YtgnmhfjfefgbfaaW.PrintLast Go.Proofs.YtgnmhfjfefgbfaaW.PrintMore
set_option linter.unusedVariables false
set_option linter.unusedSimpArgs false
abbrev Sp := S146
theorem sp_rd (l : List Sp) (i : Nat) (h : i < l.length) : QaB l (i : Int) = l[i] := by
 unfold QaB
 rw [Int.toNat_natCast, List.getD_eq_getElem?_getD, List.getElem?_eq_getElem h]
 rfl
theorem QeM (l : List Sp) (i : Nat) (h : i < l.length) : l.drop i = QaB l (i : Int) :: l.drop (i + 1) := by
 rw [List.drop_eq_getElem_cons h, sp_rd l i h]
theorem rd_at (l : List Int) (i : Nat) (h : i < l.length) : rd l (i : Int) = l[i] := by
 unfold rd
 rw [Int.toNat_natCast, List.getD_eq_getElem?_getD, List.getElem?_eq_getElem h]
 rfl
theorem QbW (l : List Int) (a b : Nat) (v : Int) (h : a ≠ b) : rd (l.set a v) (b : Int) = rd l (b : Int) := by
 unfold rd
 rw [Int.toNat_natCast, List.getD_eq_getElem?_getD, List.getD_eq_getElem?_getD, List.getElem?_set_ne h]
theorem QdF (l : List Int) (a : Nat) (v : Int) (h : a < l.length) : rd (l.set a v) (a : Int) = v := by
 rw [rd_at _ _ (by rw [List.length_set]; exact h), List.getElem_set_self]
theorem set_rd (l : List Int) (a : Nat) : l.set a (rd l (a : Int)) = l := by
 by_cases h : a < l.length
 ·rw [rd_at l a h, List.set_getElem_self]
 exact List.set_eq_of_length_le (by omega)
theorem QeP (l : List Int) (a : Nat) (v : Int) (h : a < l.length) : (l.set a v).sum = l.sum - rd l (a : Int) + v := by
 rw [rd_at l a h]
 induction l generalizing a with
 | nil => cases h
 | cons x t ih =>
  cases a with
  | zero => simp; omega
  | succ a =>
   have := ih a (by simpa using h)
   simp only [List.set_cons_succ, List.sum_cons, List.getElem_cons_succ] at this ⊢
   omega
def spBad (s : Sp) : Int := if (0 ≤ s.f0 ∧ s.f0 ≤ 73048) ∧ (0 ≤ s.f1 ∧ s.f1 ≤ 73048) ∧ s.f0 ≠ s.f1 then (if 0 ≤ s.f2 ∧ s.f2 ≤ 68719476736 then 0 else 2) else 15
theorem QfT {s : Sp} (h : (0 ≤ s.f0 ∧ s.f0 ≤ 73048) ∧ (0 ≤ s.f1 ∧ s.f1 ≤ 73048) ∧ s.f0 ≠ s.f1) (g : 0 ≤ s.f2 ∧ s.f2 ≤ 68719476736) : spBad s = 0 := by unfold spBad; rw [if_pos h, if_pos g]
theorem QfS {s : Sp} (h : (0 ≤ s.f0 ∧ s.f0 ≤ 73048) ∧ (0 ≤ s.f1 ∧ s.f1 ≤ 73048) ∧ s.f0 ≠ s.f1) (g : ¬ (0 ≤ s.f2 ∧ s.f2 ≤ 68719476736)) : spBad s = 2 := by unfold spBad; rw [if_pos h, if_neg g]
def spL : List Sp → Int
 | [] => 0
 | s :: t => if spBad s = 0 then spL t else spBad s
def spS (l : List Sp) : Int := if (l.length : Int) > 1024 then 8 else spL l
theorem Qd9 (s : Sp) (t : List Sp) : spL (s :: t) = if spBad s = 0 then spL t else spBad s := rfl
theorem Qb0 (a b c : Int) : QaW.f a b c = some (decide (b ≤ a ∧ a ≤ c)) := by
 unfold QaW.f
 by_cases h : a ≥ b
 ·rw [if_pos h]; congr 1; rw [decide_eq_decide]; omega
 rw [if_neg h]; congr 1; rw [eq_comm, decide_eq_false_iff_not]; omega
theorem Qfn (l : List Sp) (hl : l.length ≤ 1024) : ∀ d i k : Nat, i + d = l.length → 2 * d + 1 ≤ k → QaF.l0 k l (l.length : Int) (i : Int) = some (spL (l.drop i)) := by
 intro d
 induction d with
 | zero =>
  intro i k hi hk
  obtain ⟨k, rfl⟩ : ∃ m, k = m + 1 := ⟨k - 1, by omega⟩
  rw [QaF.l0, if_neg (by omega), List.drop_eq_nil_of_le (by omega)]
  rfl
 | succ d ih =>
  intro i k hi hk
  obtain ⟨k, rfl⟩ : ∃ m, k = m + 2 := ⟨k - 2, by omega⟩
  rw [QaF.l0, if_pos (by omega), if_pos (by omega), if_pos (by omega), QeM l i (by omega), Qd9]
  have IH := ih (i + 1) k (by omega) (by omega)
  have w : wrap64 ((i : Int) + 1) = ((i + 1 : Nat) : Int) := by rw [nwrap (by omega) (by omega)]; omega
  generalize QaB l (i : Int) = s
  have J : ∀ b : Bool, (b = false → 0 ≤ s.f0 ∧ s.f0 ≤ 73048 ∧ 0 ≤ s.f1 ∧ s.f1 ≤ 73048 ∧ s.f0 ≠ s.f1) → (b = true → spBad s = 15) → QaF.j1 (k + 1) l (l.length : Int) (i : Int) b s.f0 s.f1 s.f2 = some (if spBad s = 0 then spL (l.drop (i + 1)) else spBad s) := by
   intro b h1 h2
   rw [QaF.j1]
   cases b with
   | true => rw [if_pos rfl, h2 rfl]; rfl
   | false =>
    obtain ⟨a1, a2, a3, a4, a5⟩ := h1 rfl
    rw [if_neg (by decide), Qb0, Option.bind_some, w]
    by_cases h : 0 ≤ s.f2 ∧ s.f2 ≤ 68719476736
    ·rw [decide_eq_true h, if_pos rfl, QfT ⟨⟨a1, a2⟩, ⟨a3, a4⟩, a5⟩ h, if_pos rfl, IH]
    rw [decide_eq_false h, if_neg (by decide), QfS ⟨⟨a1, a2⟩, ⟨a3, a4⟩, a5⟩ h, if_neg (by decide)]
  have bad : ¬ ((0 ≤ s.f0 ∧ s.f0 ≤ 73048) ∧ (0 ≤ s.f1 ∧ s.f1 ≤ 73048) ∧ s.f0 ≠ s.f1) → spBad s = 15 := fun h => by unfold spBad; rw [if_neg h]
  rw [Qb0, Option.bind_some]
  by_cases h1 : 0 ≤ s.f0 ∧ s.f0 ≤ 73048
  ·rw [decide_eq_true h1, if_pos rfl, Qb0, Option.bind_some]
   by_cases h2 : 0 ≤ s.f1 ∧ s.f1 ≤ 73048
   ·rw [decide_eq_true h2, if_pos rfl]
    refine J _ (fun e => ⟨h1.1, h1.2, h2.1, h2.2, by simpa using e⟩) (fun e => bad (fun x => x.2.2 (by simpa using e)))
   rw [decide_eq_false h2, if_neg (by decide)]
   exact J _ (fun e => by cases e) (fun _ => bad (fun x => h2 x.2.1))
  rw [decide_eq_false h1, if_neg (by decide)]
  exact J _ (fun e => by cases e) (fun _ => bad (fun x => h1 x.1))
theorem Qgz (l : List Sp) (k : Nat) (hk : 2049 ≤ k) : QaF.f k l = some (spS l) := by
 unfold QaF.f spS
 by_cases h : (l.length : Int) > 1024
 ·rw [if_pos h, if_pos h]
 rw [if_neg h, if_neg h, show (0 : Int) = ((0 : Nat) : Int) from rfl, Qfn l (by omega) l.length 0 k (by omega) (by omega), List.drop_zero]
theorem spL_ok : ∀ (l : List Sp), spL l = 0 → ∀ s ∈ l, ((0 ≤ s.f0 ∧ s.f0 ≤ 73048) ∧ (0 ≤ s.f1 ∧ s.f1 ≤ 73048) ∧ s.f0 ≠ s.f1) ∧ (0 ≤ s.f2 ∧ s.f2 ≤ 68719476736)
 | [], _, s, hs => by cases hs
 | x :: t, h, s, hs => by
  rw [Qd9] at h
  by_cases hx : spBad x = 0
  ·rw [if_pos hx] at h
   rcases List.mem_cons.1 hs with rfl | hs
   ·unfold spBad at hx
    by_cases g : (0 ≤ s.f0 ∧ s.f0 ≤ 73048) ∧ (0 ≤ s.f1 ∧ s.f1 ≤ 73048) ∧ s.f0 ≠ s.f1
    ·rw [if_pos g] at hx
     by_cases g2 : 0 ≤ s.f2 ∧ s.f2 ≤ 68719476736
     ·exact ⟨g, g2⟩
     rw [if_neg g2] at hx; cases hx
    rw [if_neg g] at hx; cases hx
   exact spL_ok t h s hs
  rw [if_neg hx] at h; exact absurd h hx
def plc : List Int → Int → Nat → Int
 | [], _, _ => -1
 | x :: t, d, i => if x = d then (i : Int) else plc t d (i + 1)
theorem Qd3 (x : Int) (t : List Int) (d : Int) (i : Nat) : plc (x :: t) d i = if x = d then (i : Int) else plc t d (i + 1) := rfl
theorem Qcf (d : Int) : ∀ (l : List Int) (i : Nat), 0 ≤ plc l d i → ∃ j : Nat, plc l d i = ((i + j : Nat) : Int) ∧ ∃ h : j < l.length, l[j] = d
 | [], i, h => by simp [plc] at h
 | x :: t, i, h => by
  rw [Qd3] at h ⊢
  by_cases g : x = d
  ·rw [if_pos g] at h ⊢
   exact ⟨0, by simp, by simp, g⟩
  rw [if_neg g] at h ⊢
  obtain ⟨j, h1, h2, h3⟩ := Qcf d t (i + 1) h
  exact ⟨j + 1, by rw [h1]; omega, by simp; omega, by simpa using h3⟩
def incr (l : List Int) : Prop := ∀ i j : Nat, i < j → j < l.length → rd l (i : Int) < rd l (j : Int)
theorem Qfo {n : Nat} (h : n ≤ 1073741824) : IntKind.u64.wrap (n : Int) = (n : Int) := by
 have e : IntKind.u64.wrap (n : Int) = (n : Int) % 18446744073709551616 := by simp [IntKind.wrap, IntKind.bits, IntKind.signed]
 rw [e]
 omega
theorem QgA (lo hi : Nat) (h : hi ≤ 1048576) (h2 : lo ≤ hi) : wrap64 ((IntKind.u64.wrap (wrap64 ((lo : Int) + (hi : Int)))) / 2) = (((lo + hi) / 2 : Nat) : Int) := by
 rw [nwrap (x := (lo : Int) + (hi : Int)) (by omega) (by omega), show (lo : Int) + (hi : Int) = ((lo + hi : Nat) : Int) by omega, Qfo (by omega), nwrap (by omega) (by omega)]
 omega
theorem Qfs (a b : Int) : Qbw.f a b = some (decide (a < b)) := by
 unfold Qbw.f Qa8.f
 rw [Option.bind_some, show (a != a) = false by simp, if_neg (by decide)]
theorem Qf6 (l : List Int) (d : Int) (hl : l.length ≤ 1024) (hm : incr l) : ∀ n lo hi k : Nat, hi - lo ≤ n → lo ≤ hi → hi ≤ l.length → n + 1 ≤ k → (∀ j : Nat, j < lo → rd l (j : Int) < d) → (∀ j : Nat, hi ≤ j → j < l.length → d ≤ rd l (j : Int)) →
  ∃ p : Nat, p ≤ l.length ∧ (∀ j : Nat, j < p → rd l (j : Int) < d) ∧ (∀ j : Nat, p ≤ j → j < l.length → d ≤ rd l (j : Int)) ∧ Qal.l0 k l d (l.length : Int) (lo : Int) (hi : Int) = some ((p : Int), decide (p < l.length ∧ rd l (p : Int) = d)) := by
 intro n
 induction n with
 | zero =>
  intro lo hi k h1 h2 h3 hk hlo hhi
  obtain ⟨k, rfl⟩ : ∃ m, k = m + 1 := ⟨k - 1, by omega⟩
  obtain rfl : lo = hi := by omega
  refine ⟨lo, h3, hlo, hhi, ?_⟩
  rw [Qal.l0, if_neg (by omega)]
  by_cases c : lo < l.length
  ·rw [if_pos (by omega), if_pos (by omega), if_pos (by omega)]
   by_cases e : rd l (lo : Int) = d
   ·rw [if_pos e, decide_eq_true ⟨c, e⟩]
   rw [if_neg e, decide_eq_false (fun x => e x.2)]
   unfold Qbe.f
   rw [Option.bind_some, show (rd l (lo : Int) != rd l (lo : Int)) = false by simp, if_neg (by decide)]
  rw [if_neg (by omega), decide_eq_false (fun x => c x.1)]
 | succ n ih =>
  intro lo hi k h1 h2 h3 hk hlo hhi
  by_cases c0 : lo = hi
  ·exact ih lo hi k (by omega) h2 h3 (by omega) hlo hhi
  obtain ⟨k, rfl⟩ : ∃ m, k = m + 1 := ⟨k - 1, by omega⟩
  obtain ⟨mid, hmid⟩ : ∃ mid : Nat, mid = (lo + hi) / 2 := ⟨_, rfl⟩
  rw [Qal.l0, if_pos (show (lo : Int) < (hi : Int) by omega), QgA lo hi (by omega) h2, ← hmid, if_pos (show 0 ≤ (mid : Int) by omega), if_pos (show (mid : Int) < (l.length : Int) by omega)]
  rw [Qfs, Option.bind_some]
  by_cases c : rd l (mid : Int) < d
  ·rw [decide_eq_true c, if_pos rfl, nwrap (x := (mid : Int) + 1) (by omega) (by omega), show ((mid : Int) + 1) = ((mid + 1 : Nat) : Int) by omega]
   refine ih (mid + 1) hi k (by omega) (by omega) h3 (by omega) (fun j hj => ?_) hhi
   by_cases g : j = mid
   ·subst g; exact c
   have := hm j mid (by omega) (by omega); omega
  rw [decide_eq_false c, if_neg (by decide)]
  refine ih lo mid k (by omega) (by omega) (by omega) (by omega) hlo (fun j hj hj2 => ?_)
  by_cases g : j = mid
  ·subst g; omega
  have := hm mid j (by omega) hj2; omega
theorem bs_eq (l : List Int) (d : Int) (hl : l.length ≤ 1024) (hm : incr l) (k : Nat) (hk : l.length + 1 ≤ k) : ∃ p : Int, Qal.f k l d = some (p, decide (0 ≤ plc l d 0)) ∧ (0 ≤ plc l d 0 → p = plc l d 0) := by
 obtain ⟨p, hp, h1, h2, e⟩ := Qf6 l d hl hm l.length 0 l.length k (by omega) (by omega) (Nat.le_refl _) hk (fun j hj => by omega) (fun j hj hj2 => by omega)
 refine ⟨(p : Int), ?_, ?_⟩
 ·unfold Qal.f
  rw [show (0 : Int) = ((0 : Nat) : Int) from rfl, e]
  congr 2
  rw [decide_eq_decide]
  constructor
  ·rintro ⟨a1, a2⟩
   have hin : d ∈ l := by rw [← a2, rd_at l p a1]; exact List.getElem_mem _
   by_cases g : 0 ≤ plc l d 0
   ·exact g
   exfalso
   revert g
   clear e h1 h2 hm hk
   intro g
   have : ∀ (l : List Int) (i : Nat), d ∈ l → 0 ≤ plc l d i := by
    intro l
    induction l with
    | nil => intro i h; cases h
    | cons x t ih =>
     intro i h
     rw [Qd3]
     by_cases g : x = d
     ·rw [if_pos g]; omega
     rw [if_neg g]
     rcases List.mem_cons.1 h with rfl | h
     ·exact absurd rfl g
     exact ih (i + 1) h
   exact g (this l 0 hin)
  intro g
  obtain ⟨j, e1, hj, e2⟩ := Qcf d l 0 g
  have r := rd_at l j hj
  rw [e2] at r
  by_cases c1 : j < p
  ·have := h1 j c1; omega
  by_cases c2 : j = p
  ·subst c2; exact ⟨hj, r⟩
  have a := h2 p (Nat.le_refl _) (by omega)
  have b := hm p j (by omega) hj
  omega
 intro g
 obtain ⟨j, e1, hj, e2⟩ := Qcf d l 0 g
 have r := rd_at l j hj
 rw [e2] at r
 rw [e1, Nat.zero_add]
 by_cases c1 : j < p
 ·have := h1 j c1; omega
 by_cases c2 : j = p
 ·rw [c2]
 have a := h2 p (Nat.le_refl _) (by omega)
 have b := hm p j (by omega) hj
 omega
end Go.Proofs.Ytgnmhfjfefgbfaa.Pr
