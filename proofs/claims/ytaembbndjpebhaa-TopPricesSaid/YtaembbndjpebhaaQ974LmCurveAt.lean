/- The price of a day: the code's answer is the plain one. -/
import Derived.Test.YtaembbndjpebhaaQ974LmCurveChk
import Derived.Test.YtaembbndjpebhaaQ974LmCurveNear
import Derived.Test.YtaembbndjpebhaaQ974P0
import Derived.Test.YtaembbndjpebhaaQ974P1
namespace Go.Proofs.Ytaembbndjpebhaa.Pr
open Go.RowKit Go.Proofs.Ytaembbndjpebhaa.Pr Go.Proofs.YtaembbndjpebhaaW.PrintWords Go.Proofs.YtaembbndjpebhaaW.PrintLast Go.Proofs.YtaembbndjpebhaaW.PrintMore
set_option linter.unusedVariables false
set_option linter.unusedSimpArgs false
def kn (l : List Pt) : List Pt := l.filter (fun p => p.f2)
def leK (l : List Pt) (day : Int) : Option Pt := ((kn l).filter (fun p => decide (p.f0 ≤ day))).getLast?
def geK (l : List Pt) (day : Int) : Option Pt := ((kn l).filter (fun p => decide (day ≤ p.f0))).head?
def lineS (a b : Pt) (day tick : Int) : Int := nearS (a.f1 * (b.f0 - a.f0) + (b.f1 - a.f1) * (day - a.f0)) ((b.f0 - a.f0) * tick) * tick
def atS (l : List Pt) (day tick : Int) : Int :=
 match leK l day, geK l day with
 | none, none => 0
 | none, some b => b.f1
 | some a, none => a.f1
 | some a, some b => if a.f0 = b.f0 then a.f1 else lineS a b day tick
structure GoodC (l : List Pt) : Prop where
 len : l.length ≤ 128
 rng : ∀ p ∈ l, 0 ≤ p.f0 ∧ p.f0 ≤ 73048 ∧ (p.f2 = true → QaV p.f1)
 srt : l.Pairwise (fun a b => a.f0 < b.f0)
 ne : kn l ≠ []
theorem chk_ok : ∀ (l : List Pt) (pv : Option Int) (b : Bool), chk pv b l = 0 → (∀ p ∈ l, 0 ≤ p.f0 ∧ p.f0 ≤ 73048 ∧ (p.f2 = true → QaV p.f1)) ∧ l.Pairwise (fun a b => a.f0 < b.f0) ∧ (∀ e, pv = some e → ∀ p ∈ l, e < p.f0) ∧ (b = true ∨ kn l ≠ [])
 | [], pv, b, h => by
  refine ⟨fun p hp => (by cases hp), List.Pairwise.nil, fun _ _ p hp => (by cases hp), ?_⟩
  unfold chk at h
  by_cases hb : b = true
  ·exact .inl hb
  rw [if_neg hb] at h; cases h
 | p :: t, pv, b, h => by
  unfold chk at h
  by_cases h1 : badP pv p.f0 = true
  ·rw [if_pos h1] at h; cases h
  rw [if_neg h1] at h
  by_cases h2 : p.f2 = true ∧ ¬ QaV p.f1
  ·rw [if_pos h2] at h; cases h
  rw [if_neg h2] at h
  obtain ⟨i1, i2, i3, i4⟩ := chk_ok t _ _ h
  have h3 : 0 ≤ p.f0 ∧ p.f0 ≤ 73048 ∧ (∀ e, pv = some e → e < p.f0) := by
   unfold badP at h1
   simp only [Bool.or_eq_true, decide_eq_true_eq, not_or] at h1
   refine ⟨by omega, by omega, fun e he => ?_⟩
   subst he
   have := h1.2.2
   simp only [decide_eq_true_eq] at this
   omega
  refine ⟨fun q hq => ?_, List.pairwise_cons.2 ⟨fun q hq => i3 _ rfl q hq, i2⟩, fun e he q hq => ?_, ?_⟩
  ·rcases List.mem_cons.1 hq with rfl | hq
   ·exact ⟨h3.1, h3.2.1, fun hk => Classical.byContradiction (fun hp => h2 ⟨hk, hp⟩)⟩
   exact i1 q hq
  ·rcases List.mem_cons.1 hq with rfl | hq
   ·exact h3.2.2 e he
   have := i3 _ rfl q hq; have := h3.2.2 e he; omega
  cases hk : p.f2 with
  | true => right; unfold kn; rw [List.filter_cons_of_pos hk]; simp
  | false =>
   rw [hk, Bool.or_false] at i4
   unfold kn
   rw [List.filter_cons_of_neg (by rw [hk]; simp)]
   exact i4
theorem Qdh {l : List Pt} (h : chkS l = 0) : GoodC l := by
 unfold chkS at h
 by_cases c : (l.length : Int) = 0 ∨ (l.length : Int) > 128
 ·rw [if_pos c] at h; cases h
 rw [if_neg c] at h
 obtain ⟨i1, i2, _, i4⟩ := chk_ok l none false h
 exact ⟨by omega, i1, i2, i4.resolve_left (by simp)⟩
theorem QcT {l : List Pt} (h : l.Pairwise (fun a b => a.f0 < b.f0)) (day : Int) : l = l.filter (fun p => decide (p.f0 < day)) ++ l.filter (fun p => decide (day ≤ p.f0)) := by
 induction l with
 | nil => rfl
 | cons p t ih =>
  obtain ⟨h1, h2⟩ := List.pairwise_cons.1 h
  by_cases c : p.f0 < day
  ·rw [List.filter_cons_of_pos (by simpa using c), List.filter_cons_of_neg (by simp; omega), List.cons_append, ← ih h2]
  rw [List.filter_cons_of_neg (by simpa using c), List.filter_cons_of_pos (by simp; omega), List.filter_eq_nil_iff.2 (fun q hq => by have := h1 q hq; simp; omega), List.nil_append, List.filter_eq_self.2 (fun q hq => by have := h1 q hq; simp; omega)]
theorem kn_srt {l : List Pt} (h : l.Pairwise (fun a b => a.f0 < b.f0)) : (kn l).Pairwise (fun a b => a.f0 < b.f0) := h.filter _
def loK (l : List Pt) (day : Int) : List Pt := (kn l).filter (fun p => decide (p.f0 < day))
def hiK (l : List Pt) (day : Int) : List Pt := (kn l).filter (fun p => decide (day ≤ p.f0))
theorem QdO {l : List Pt} (h : l.Pairwise (fun a b => a.f0 < b.f0)) (day tick : Int) : atS l day tick =
  match (hiK l day) with
  | b :: _ => if b.f0 = day then b.f1 else (match (loK l day).getLast? with | some a => lineS a b day tick | none => b.f1)
  | [] => match (loK l day).getLast? with | some a => a.f1 | none => 0 := by
 have hs := kn_srt h
 have hp := QcT hs day
 have hle : (kn l).filter (fun p => decide (p.f0 ≤ day)) = (loK l day) ++ (hiK l day).filter (fun p => decide (p.f0 ≤ day)) := by
  conv => lhs; rw [hp]
  rw [List.filter_append]
  congr 1
  exact List.filter_eq_self.2 (fun q hq => by have := (List.mem_filter.1 hq).2; simp at this ⊢; omega)
 have hH : (hiK l day).Pairwise (fun a b => a.f0 < b.f0) := hs.filter _
 have hge : geK l day = (hiK l day).head? := rfl
 have hlo : ∀ a, (loK l day).getLast? = some a → a.f0 < day := fun a ha => by
  have := (List.mem_filter.1 (List.mem_of_getLast? ha)).2
  simpa using this
 unfold atS leK
 rw [hge, hle]
 cases hR : hiK l day with
 | nil =>
  rw [List.filter_nil, List.append_nil]
  cases (loK l day).getLast? <;> rfl
 | cons b t =>
  rw [hR] at hH
  obtain ⟨h1, _⟩ := List.pairwise_cons.1 hH
  have hb : day ≤ b.f0 := by
   have : b ∈ hiK l day := by rw [hR]; exact List.mem_cons_self
   have := (List.mem_filter.1 this).2
   simpa using this
  have ht : t.filter (fun p => decide (p.f0 ≤ day)) = [] := List.filter_eq_nil_iff.2 (fun q hq => by have := h1 q hq; simp; omega)
  by_cases c : b.f0 = day
  ·rw [List.filter_cons_of_pos (by simp; omega), ht, List.getLast?_append]
   simp [c]
  rw [List.filter_cons_of_neg (by simp; omega), ht, List.append_nil]
  cases hL : (loK l day).getLast? with
  | none => simp [c]
  | some a =>
   have := hlo a hL
   simp only [List.head?_cons]
   rw [if_neg (by omega), if_neg c]
def mpF : (Int → Int) → List Pt → Int → Int
 | f, [] => f
 | f, p :: t => if p.f2 = true then mpF (fun z => if z = p.f0 then p.f1 else f z) t else mpF f t
theorem QcI : ∀ (l : List Pt) (f : Int → Int) (z : Int), (∀ p ∈ l, p.f0 ≠ z) → mpF f l z = f z
 | [], _, _, _ => rfl
 | p :: t, f, z, h => by
  unfold mpF
  have hp := h p List.mem_cons_self
  have ht : ∀ q ∈ t, q.f0 ≠ z := fun q hq => h q (List.mem_cons_of_mem _ hq)
  split
  ·rw [QcI t _ z ht, if_neg (fun e => hp e.symm)]
  exact QcI t f z ht
theorem mpF_in : ∀ (l : List Pt) (f : Int → Int), l.Pairwise (fun a b => a.f0 < b.f0) → ∀ p ∈ kn l, mpF f l p.f0 = p.f1
 | [], _, _, p, hp => by cases hp
 | q :: t, f, h, p, hp => by
  obtain ⟨h1, h2⟩ := List.pairwise_cons.1 h
  unfold kn at hp
  unfold mpF
  cases hk : q.f2 with
  | true =>
   rw [List.filter_cons_of_pos hk] at hp
   rw [if_pos rfl]
   rcases List.mem_cons.1 hp with rfl | hp
   ·rw [QcI t _ _ (fun r hr e => by have := h1 r hr; omega), if_pos rfl]
   exact mpF_in t _ h2 p hp
  | false =>
   rw [List.filter_cons_of_neg (by rw [hk]; simp)] at hp
   rw [if_neg (by simp)]
   exact mpF_in t _ h2 p hp
theorem Qdt (l : List Pt) (hl : l.length ≤ 1000) (hw : ∀ p ∈ l, p.f2 = true → wfI p.f0 ∧ wfI p.f1) (a1 a2 : Int) (m : Nat) : ∀ (d i : Nat) (f : Int → Int) (n : Nat) (x8 : List Int), i + d = l.length → n ≤ i → x8.length ≤ i →
  QaF.l0 (d + 1 + m) l a1 a2 f n x8 (i : Int) = QaF.t m a1 a2 (mpF f (l.drop i)) (x8 ++ (kn (l.drop i)).map (fun p => p.f0)) := by
 intro d
 induction d with
 | zero =>
  intro i f n x8 hi hn hx
  rw [show 0 + 1 + m = m + 1 by omega, QaF.l0, if_neg (by omega), List.drop_eq_nil_of_le (by omega)]
  simp [mpF, kn]
 | succ d ih =>
  intro i f n x8 hi hn hx
  have hd := Qdj l i (by omega)
  have hm : rd_T56 l (i : Int) ∈ l := List.mem_of_mem_drop (hd ▸ List.mem_cons_self)
  rw [show d + 1 + 1 + m = (d + 1 + m) + 1 by omega, QaF.l0, if_pos (by omega), if_pos (by omega), hd, IntWalk.wrap64_in ((i : Int) + 1) (by omega), show ((i : Int) + 1) = ((i + 1 : Nat) : Int) by omega]
  have hwp := hw _ hm
  generalize rd_T56 l (i : Int) = p at *
  unfold mpF kn
  cases hk : p.f2 with
  | true =>
   rw [if_pos rfl, if_pos ⟨by omega, by omega, (hwp hk).1, (hwp hk).2⟩, if_pos rfl, List.filter_cons_of_pos hk, ih (i + 1) _ _ _ (by omega) (by omega) (by simp; omega), List.map_cons, List.append_assoc]
   rfl
  | false =>
   rw [if_neg (by simp), if_neg (by simp), List.filter_cons_of_neg (by rw [hk]; simp), ih (i + 1) _ _ _ (by omega) (by omega) (by omega)]
   rfl
end Go.Proofs.Ytaembbndjpebhaa.Pr
