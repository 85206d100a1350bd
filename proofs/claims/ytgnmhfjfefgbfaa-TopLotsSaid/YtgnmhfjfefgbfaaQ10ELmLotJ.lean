/- TopLots: lts put together. -/
import Derived.Test.YtgnmhfjfefgbfaaQ10ELmPos
import Derived.Test.YtgnmhfjfefgbfaaQ10EP0
import Derived.Test.YtgnmhfjfefgbfaaQ10EP3
namespace Go.Proofs.Ytgnmhfjfefgbfaa.Pr
open Go.RowKit Go.Proofs.Ytgnmhfjfefgbfaa.Pr Go.Proofs.YtgnmhfjfefgbfaaW.PrintWords Go.Proofs.YtgnmhfjfefgbfaaW.PrintLast Go.Proofs.YtgnmhfjfefgbfaaW.PrintMore
set_option linter.unusedVariables false
set_option linter.unusedSimpArgs false
abbrev Lt := S67
theorem Qc2 (a b : Ser) : cmpQ a b = cmpS a b := Option.some.inj ((QdU a b).symm.trans (cmp_eq a b))
def stepJ (m : List (Ser × Posn)) (p : Posn) : List (Ser × Posn) := putP m p.f0 ⟨p.f0, wrap64 ((getP m p.f0).f1 + p.f1), wrap64 ((getP m p.f0).f2 + p.f2)⟩
def sL (s : Ser) (l : List Posn) : Int := ((l.filter (fun p => decide (p.f0 = s))).map (·.f1)).sum
def sS (s : Ser) (l : List Posn) : Int := ((l.filter (fun p => decide (p.f0 = s))).map (·.f2)).sum
theorem Qce (s : Ser) (l : List Posn) (p : Posn) : sL s (l ++ [p]) = if p.f0 = s then sL s l + p.f1 else sL s l := by
 unfold sL
 rw [List.filter_append]
 by_cases c : p.f0 = s
 ·simp [c]
 simp [c]
theorem Qcf (s : Ser) (l : List Posn) (p : Posn) : sS s (l ++ [p]) = if p.f0 = s then sS s l + p.f2 else sS s l := by
 unfold sS
 rw [List.filter_append]
 by_cases c : p.f0 = s
 ·simp [c]
 simp [c]
theorem sL_bd (s : Ser) (l : List Posn) (h : ∀ p ∈ l, lotsOk p) : 0 ≤ sL s l ∧ sL s l ≤ 1048576 * l.length ∧ 0 ≤ sS s l ∧ sS s l ≤ 1048576 * l.length := by
 induction l with
 | nil => simp [sL, sS]
 | cons p l ih =>
  have ih := ih (fun q hq => h q (List.mem_cons_of_mem _ hq))
  obtain ⟨a, b, _⟩ := h p (by simp)
  unfold sL sS at *
  simp only [List.filter_cons, List.length_cons]
  split
  ·simp only [List.map_cons, List.sum_cons]; push_cast; omega
  push_cast; omega
theorem QcS (s : Ser) (l : List Posn) (h : ¬ ∃ p ∈ l, p.f0 = s) : sL s l = 0 ∧ sS s l = 0 := by
 have e : l.filter (fun p => decide (p.f0 = s)) = [] := by
  rw [List.filter_eq_nil_iff]
  intro p hp hq
  exact h ⟨p, hp, of_decide_eq_true hq⟩
 unfold sL sS
 rw [e]
 exact ⟨rfl, rfl⟩
def InvJ (pre : List Posn) (m : List (Ser × Posn)) : Prop := (m.map (·.1)).Nodup ∧ (∀ s, s ∈ m.map (·.1) ↔ ∃ p ∈ pre, p.f0 = s) ∧ ∀ x ∈ m, x.2 = ⟨x.1, sL x.1 pre, sS x.1 pre⟩
theorem QeV {pre : List Posn} {m : List (Ser × Posn)} (h : InvJ pre m) (s : Ser) : (getP m s).f1 = sL s pre ∧ (getP m s).f2 = sS s pre := by
 obtain ⟨h1, h2, h3⟩ := h
 unfold getP
 cases hf : m.find? (fun x => decide (x.1 = s)) with
 | some x =>
  have hx := List.mem_of_find?_eq_some hf
  have he := List.find?_some hf
  simp at he
  dsimp only
  rw [h3 x hx, he]
  exact ⟨rfl, rfl⟩
 | none =>
  rw [List.find?_eq_none] at hf
  have : ¬ ∃ p ∈ pre, p.f0 = s := by
   rw [← h2 s]
   intro hm
   obtain ⟨x, hx, e⟩ := List.mem_map.1 hm
   exact hf x hx (by simp [e])
  have q := QcS s pre this
  exact ⟨q.1.symm, q.2.symm⟩
theorem Qev {pre : List Posn} {m : List (Ser × Posn)} (h : InvJ pre m) (hl : pre.length ≤ 1000000) (hp : ∀ q ∈ pre, lotsOk q) (p : Posn) (ok : lotsOk p) : InvJ (pre ++ [p]) (stepJ m p) := by
 obtain ⟨g1, g2⟩ := QeV h p.f0
 obtain ⟨h1, h2, h3⟩ := h
 obtain ⟨a, b, _⟩ := ok
 have bd := sL_bd p.f0 pre hp
 have v : (⟨p.f0, wrap64 ((getP m p.f0).f1 + p.f1), wrap64 ((getP m p.f0).f2 + p.f2)⟩ : Posn) = ⟨p.f0, sL p.f0 (pre ++ [p]), sS p.f0 (pre ++ [p])⟩ := by
  rw [g1, g2, Qce, Qcf, if_pos rfl, if_pos rfl, IntWalk.wrap64_in (sL p.f0 pre + p.f1) (by omega), IntWalk.wrap64_in (sS p.f0 pre + p.f2) (by omega)]
 unfold stepJ putP
 rw [v]
 have other : ∀ x ∈ m, x.1 ≠ p.f0 → x.2 = ⟨x.1, sL x.1 (pre ++ [p]), sS x.1 (pre ++ [p])⟩ := by
  intro x hx hne
  rw [Qce, Qcf, if_neg (fun e => hne e.symm), if_neg (fun e => hne e.symm)]
  exact h3 x hx
 by_cases c : p.f0 ∈ m.map (·.1)
 ·rw [if_pos c]
  have hk : (m.map (fun x => if x.1 = p.f0 then (p.f0, (⟨p.f0, sL p.f0 (pre ++ [p]), sS p.f0 (pre ++ [p])⟩ : Posn)) else x)).map (·.1) = m.map (·.1) := by
   rw [List.map_map]
   apply List.map_congr_left
   intro x _
   simp only [Function.comp]
   split
   ·rename_i e; exact e.symm
   rfl
  refine ⟨by rw [hk]; exact h1, fun s => ?_, fun x hx => ?_⟩
  ·rw [hk, h2 s]
   constructor
   ·rintro ⟨q, hq, e⟩; exact ⟨q, List.mem_append_left _ hq, e⟩
   rintro ⟨q, hq, e⟩
   rcases List.mem_append.1 hq with hq | hq
   ·exact ⟨q, hq, e⟩
   rw [List.mem_singleton.1 hq] at e
   rw [← h2 s, ← e]; exact c
  obtain ⟨y, hy, rfl⟩ := List.mem_map.1 hx
  split
  ·rfl
  rename_i e; exact other y hy e
 rw [if_neg c]
 refine ⟨?_, fun s => ?_, fun x hx => ?_⟩
 ·rw [List.map_append, List.nodup_append]
  exact ⟨h1, by simp, fun u hu w hw => by simp at hw; subst hw; exact fun e => c (e ▸ hu)⟩
 ·rw [List.map_append, List.mem_append, h2 s]
  constructor
  ·rintro (⟨q, hq, e⟩ | hs)
   ·exact ⟨q, List.mem_append_left _ hq, e⟩
   simp at hs; exact ⟨p, by simp, hs.symm⟩
  rintro ⟨q, hq, e⟩
  rcases List.mem_append.1 hq with hq | hq
  ·exact Or.inl ⟨q, hq, e⟩
  rw [List.mem_singleton.1 hq] at e; right; simp [e]
 rcases List.mem_append.1 hx with hx | hx
 ·exact other x hx (fun e => c (e ▸ List.mem_map_of_mem hx))
 rw [List.mem_singleton.1 hx]
theorem Qc3 : ∀ (l pre : List Posn) (m : List (Ser × Posn)), InvJ pre m → (pre ++ l).length ≤ 1000000 → (∀ q ∈ pre ++ l, lotsOk q) → InvJ (pre ++ l) (l.foldl stepJ m)
 | [], pre, m, h, _, _ => by simpa using h
 | p :: l, pre, m, h, hl, hp => by
  have e : pre ++ p :: l = (pre ++ [p]) ++ l := by simp
  rw [e] at hl hp ⊢
  rw [List.foldl_cons]
  exact Qc3 l (pre ++ [p]) _ (Qev h (by simp at hl; omega) (fun q hq => hp q (by simp [hq])) p (hp p (by simp))) hl hp
def Whole (L : List Posn) (all : List Posn) : Prop := (∀ p ∈ L, sL p.f0 all = p.f1 ∧ sS p.f0 all = p.f2 ∧ ∃ q ∈ all, q.f0 = p.f0) ∧ ∀ q ∈ all, ∃ p ∈ L, p.f0 = q.f0
theorem QbZ {L : List Posn} (h : QaY L) : (L.map (·.f0)).Nodup := by
 rw [List.Nodup, List.pairwise_map]
 refine h.2.1.imp (fun {a b} hab e => ?_)
 rw [e, ← Qc2] at hab
 exact Qby _ hab
theorem joinT {L all : List Posn} (hL : QaY L) (hW : Whole L all) (hl : all.length ≤ 1000000) (hp : ∀ q ∈ all, lotsOk q) : QaD.t (all.foldl stepJ []) = (L, 0) := by
 have I := Qc3 all [] [] ⟨List.nodup_nil, by simp, by simp⟩ (by simpa using hl) (by simpa using hp)
 rw [List.nil_append] at I
 generalize all.foldl stepJ [] = m at I
 obtain ⟨h1, h2, h3⟩ := I
 have key : ∀ x ∈ m, ∃ p ∈ L, p.f0 = x.1 ∧ x.2 = p := by
  intro x hx
  obtain ⟨q, hq, e⟩ := (h2 x.1).1 (List.mem_map_of_mem hx)
  obtain ⟨p, hp, e2⟩ := hW.2 q hq
  refine ⟨p, hp, e2.trans e, ?_⟩
  obtain ⟨w1, w2, _⟩ := hW.1 p hp
  rw [h3 x hx, ← e, ← e2, w1, w2]
 have hperm : (m.map (·.2)).Perm L := by
  have n1 : (m.map (·.2)).Nodup := by
   rw [List.Nodup, List.pairwise_map]
   rw [List.Nodup, List.pairwise_map] at h1
   refine List.Pairwise.imp_of_mem (fun {a b} ha hb hab e => hab ?_) h1
   have ea := h3 a ha
   have eb := h3 b hb
   rw [e, eb] at ea
   exact (congrArg (fun p : Posn => p.f0) ea).symm
  have n2 : L.Nodup := by
   have := QbZ hL
   rw [List.Nodup, List.pairwise_map] at this
   exact this.imp (fun {a b} h e => h (by rw [e]))
  rw [List.perm_ext_iff_of_nodup n1 n2]
  intro p
  constructor
  ·intro hp
   obtain ⟨x, hx, rfl⟩ := List.mem_map.1 hp
   obtain ⟨q, hq, _, e⟩ := key x hx
   rw [e]; exact hq
  intro hp
  obtain ⟨q, hq, e⟩ := (hW.1 p hp).2.2
  obtain ⟨x, hx, e2⟩ := List.mem_map.1 ((h2 p.f0).2 ⟨q, hq, e⟩)
  refine List.mem_map.2 ⟨x, hx, ?_⟩
  obtain ⟨w1, w2, _⟩ := hW.1 p hp
  rw [h3 x hx, e2, w1, w2]
 unfold QaD.t
 have a1 : m.any (fun x => decide (x.2.f1 > 1048576) || decide (x.2.f2 > 1048576)) = false := by
  rw [List.any_eq_false]
  intro x hx
  obtain ⟨p, hp, _, e⟩ := key x hx
  obtain ⟨b1, b2, _⟩ := hL.2.2 p hp
  rw [e]
  simp; omega
 have ml : m.length = L.length := by have := hperm.length_eq; simpa using this
 rw [a1, if_neg (by decide), if_neg (by have := hL.1; omega)]
 congr 1
 refine (QbT (l := m.map (·.2)) ?_ hperm.symm ?_).symm
 ·exact ((hperm.map (·.f0)).nodup_iff).2 (QbZ hL)
 refine hL.2.1.imp (fun {a b} hab h => ?_)
 rw [← Qc2] at hab
 exact Qby _ (Qbt _ _ _ hab h)
theorem lot_rd (l : List Lt) (i : Nat) (h : i < l.length) : rd_T67 l (i : Int) = l[i] := by
 unfold rd_T67
 rw [Int.toNat_natCast, List.getD_eq_getElem?_getD, List.getElem?_eq_getElem h]
 rfl
theorem pos_rd (l : List Posn) (i : Nat) (h : i < l.length) : rd_T71 l (i : Int) = l[i] := by
 unfold rd_T71
 rw [Int.toNat_natCast, List.getD_eq_getElem?_getD, List.getElem?_eq_getElem h]
 rfl
def allOf (l : List Lt) : List Posn := (l.map (·.f1)).flatten
theorem Qfv (lts : List Lt) (q : List Posn) (hq : q.length ≤ 128) (ok : ∀ p ∈ q, okS p.f0) (i : Nat) : ∀ c j k : Nat, j + c = q.length → c + 1 ≤ k → ∀ (m : List (Ser × Posn)) (n : Nat), n + c ≤ 1000000 →
  QaD.l1 k lts q m n (i : Int) (j : Int) = QaD.l0 (k - c - 1) lts ((q.drop j).foldl stepJ m) (n + c) (wrap64 ((i : Int) + 1)) := by
 intro c
 induction c with
 | zero =>
  intro j k hj hk m n _
  obtain ⟨k, rfl⟩ : ∃ z, k = z + 1 := ⟨k - 1, by omega⟩
  rw [QaD.l1, if_neg (by omega), List.drop_eq_nil_of_le (by omega)]
  rfl
 | succ c ih =>
  intro j k hj hk m n hn
  obtain ⟨k, rfl⟩ : ∃ z, k = z + 1 := ⟨k - 1, by omega⟩
  have hlt : j < q.length := by omega
  rw [QaD.l1, if_pos (by omega), if_pos (by omega), pos_rd q j hlt, if_pos ⟨ok _ (List.getElem_mem _), by omega⟩, IntWalk.wrap64_in ((j : Int) + 1) (by omega), List.drop_eq_getElem_cons hlt, List.foldl_cons]
  have := ih (j + 1) k (by omega) (by omega) (stepJ m q[j]) (n + 1) (by omega)
  rw [show ((j + 1 : Nat) : Int) = (j : Int) + 1 by omega] at this
  rw [show k + 1 - (c + 1) - 1 = k - c - 1 by omega, show n + (c + 1) = n + 1 + c by omega]
  exact this
theorem Qfu (lts : List Lt) (hl : lts.length ≤ 1024) (hg : ∀ x ∈ lts, QaY x.f1) (ok : ∀ x ∈ lts, ∀ p ∈ x.f1, okS p.f0) : ∀ c i k : Nat, i + c = lts.length → 140 * c + 300 ≤ k → ∀ (m : List (Ser × Posn)) (n : Nat), n + 128 * c ≤ 1000000 →
  QaD.l0 k lts m n (i : Int) = some (QaD.t ((allOf (lts.drop i)).foldl stepJ m)) := by
 intro c
 induction c with
 | zero =>
  intro i k hi hk m n _
  obtain ⟨k, rfl⟩ : ∃ z, k = z + 1 := ⟨k - 1, by omega⟩
  rw [QaD.l0, if_neg (by omega), List.drop_eq_nil_of_le (by omega)]
  rfl
 | succ c ih =>
  intro i k hi hk m n hn
  obtain ⟨k, rfl⟩ : ∃ z, k = z + 1 := ⟨k - 1, by omega⟩
  have hlt : i < lts.length := by omega
  have hm : lts[i] ∈ lts := List.getElem_mem _
  have G := hg _ hm
  rw [QaD.l0, if_pos (by omega), if_pos (by omega), lot_rd lts i hlt, Qbw _ k (by omega), Option.bind_some, if_pos ((Qbp _).2 G)]
  have := Qfv lts lts[i].f1 G.1 (ok _ hm) i lts[i].f1.length 0 k (by omega) (by have := G.1; omega) m n (by have := G.1; omega)
  rw [show ((0 : Nat) : Int) = 0 from rfl] at this
  rw [this, List.drop_zero, IntWalk.wrap64_in ((i : Int) + 1) (by omega)]
  have := ih (i + 1) (k - lts[i].f1.length - 1) (by omega) (by have := G.1; omega) (lts[i].f1.foldl stepJ m) (n + lts[i].f1.length) (by have := G.1; omega)
  rw [show ((i + 1 : Nat) : Int) = (i : Int) + 1 by omega] at this
  rw [this]
  congr 2
  rw [List.drop_eq_getElem_cons hlt]
  unfold allOf
  rw [List.map_cons, List.flatten_cons, List.foldl_append]
theorem Qft {L : List Posn} (hL : QaY L) (lts : List Lt) (hl : lts.length ≤ 1024) (hg : ∀ x ∈ lts, QaY x.f1) (ok : ∀ x ∈ lts, ∀ p ∈ x.f1, okS p.f0) (hW : Whole L (allOf lts)) (k : Nat) (hk : 150000 ≤ k) : QaD.f k lts = some (L, 0) := by
 unfold QaD.f
 rw [if_neg (by omega)]
 have := Qfu lts hl hg ok lts.length 0 k (by omega) (by omega) [] 0 (by omega)
 rw [show ((0 : Nat) : Int) = 0 from rfl, List.drop_zero] at this
 rw [this]
 have hall : ∀ (l : List Lt), (∀ x ∈ l, QaY x.f1) → (allOf l).length ≤ 128 * l.length ∧ ∀ q ∈ allOf l, lotsOk q := by
  intro l hl
  induction l with
  | nil => simp [allOf]
  | cons x l ih =>
   obtain ⟨i1, i2⟩ := ih (fun y hy => hl y (List.mem_cons_of_mem _ hy))
   have G := hl x (by simp)
   have e : allOf (x :: l) = x.f1 ++ allOf l := by simp [allOf]
   rw [e]
   refine ⟨by rw [List.length_append, List.length_cons]; have := G.1; omega, fun q hq => ?_⟩
   rcases List.mem_append.1 hq with hq | hq
   ·exact G.2.2 q hq
   exact i2 q hq
 obtain ⟨a1, a2⟩ := hall lts hg
 rw [joinT hL hW (by omega) a2]
end Go.Proofs.Ytgnmhfjfefgbfaa.Pr
