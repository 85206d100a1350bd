/- Curves that are drawn for the laws: far from their ends. -/
import Derived.Test.YtaembbndjpebhaaQBF7LmCurveAt
import Derived.Test.YtaembbndjpebhaaQBF7LmCurveChk
import Derived.Test.YtaembbndjpebhaaQBF7LmCurvePr
import Derived.Test.YtaembbndjpebhaaQBF7P0
import Derived.Test.YtaembbndjpebhaaQBF7P3
namespace Go.Proofs.Ytaembbndjpebhaa.Pr
open Go.RowKit Go.Proofs.Ytaembbndjpebhaa.Pr Go.Proofs.YtaembbndjpebhaaW.PrintWords Go.Proofs.YtaembbndjpebhaaW.PrintLast Go.Proofs.YtaembbndjpebhaaW.PrintMore
set_option linter.unusedVariables false
set_option linter.unusedSimpArgs false
def fe (x : Int) : Int := (IntKind.u64.wrap x) % 500
def fp (x : Int) : Int := (IntKind.u64.wrap x) % 1000000 - 500000
theorem Qen (x : Int) : 0 ≤ IntKind.u64.wrap x ∧ IntKind.u64.wrap x ≤ 18446744073709551615 := by rw [IntKind.wrap_u64]; omega
theorem tm_mod (x c : Int) (hc : 0 < c) (hc' : c ≤ 1000000000) : wrap64 (Int.tmod (IntKind.u64.wrap x) c) = (IntKind.u64.wrap x) % c ∧ 0 ≤ (IntKind.u64.wrap x) % c ∧ (IntKind.u64.wrap x) % c < c := by
 have h0 := Int.emod_nonneg (IntKind.u64.wrap x) (Int.ne_of_gt hc)
 have h1 := Int.emod_lt_of_pos (IntKind.u64.wrap x) hc
 rw [Int.tmod_eq_emod_of_nonneg (Qen x).1, IntWalk.wrap64_in _ (by omega)]
 exact ⟨rfl, h0, h1⟩
theorem fe_rng (x : Int) : 0 ≤ fe x ∧ fe x < 500 := by unfold fe; omega
theorem fp_rng (x : Int) : -500000 ≤ fp x ∧ fp x ≤ 499999 := by unfold fp; omega
def fitE : Bool → Nat → Int → List Pt → List Pt
 | _, 0, _, _ => []
 | _, _ + 1, _, [] => []
 | fst, n + 1, day, p :: t => ⟨day + 1 + fe p.f0, fp p.f1, p.f2 || fst⟩ :: fitE false n (day + 1 + fe p.f0) t
theorem QcY : ∀ (n : Nat) (l : List Pt) (b : Bool) (day : Int), (fitE b n day l).length ≤ n
 | 0, l, b, day => by cases l <;> simp [fitE]
 | n + 1, [], b, day => by simp [fitE]
 | n + 1, p :: t, b, day => by
  unfold fitE
  have := QcY n t false (day + 1 + fe p.f0)
  simp only [List.length_cons]
  omega
theorem Qdl : ∀ (n : Nat) (l : List Pt) (b : Bool) (day : Int), 0 ≤ day → (∀ q ∈ fitE b n day l, day < q.f0 ∧ q.f0 ≤ day + 500 * n ∧ -500000 ≤ q.f1 ∧ q.f1 ≤ 499999) ∧ (fitE b n day l).Pairwise (fun a b => a.f0 < b.f0)
 | 0, l, b, day, _ => ⟨fun q hq => by cases l <;> simp [fitE] at hq, by cases l <;> simp [fitE]⟩
 | n + 1, [], b, day, _ => ⟨fun q hq => by simp [fitE] at hq, by simp [fitE]⟩
 | n + 1, p :: t, b, day, hd => by
  unfold fitE
  have he := fe_rng p.f0
  have hp := fp_rng p.f1
  obtain ⟨i1, i2⟩ := Qdl n t false (day + 1 + fe p.f0) (by omega)
  refine ⟨fun q hq => ?_, List.pairwise_cons.2 ⟨fun q hq => (i1 q hq).1, i2⟩⟩
  rcases List.mem_cons.1 hq with rfl | hq
  ·refine ⟨?_, ?_, hp.1, hp.2⟩
   ·show day < day + 1 + fe p.f0; omega
   show day + 1 + fe p.f0 ≤ day + 500 * ((n + 1 : Nat) : Int); omega
  have := i1 q hq
  refine ⟨by omega, ?_, this.2.2⟩
  have := this.2.1
  omega
def fitS (l : List Pt) : List Pt := if l = [] then [⟨3, 7, true⟩] else fitE true 60 0 l
structure Mild (l : List Pt) : Prop where
 good : GoodC l
 low : ∀ p ∈ l, -500000 ≤ p.f1 ∧ p.f1 ≤ 500000
theorem QcZ (l : List Pt) : Mild (fitS l) := by
 unfold fitS
 cases l with
 | nil =>
  rw [if_pos rfl]
  refine ⟨⟨by simp, fun p hp => ?_, by simp, by simp [kn]⟩, fun p hp => ?_⟩
  ·rw [List.mem_singleton] at hp; subst hp; exact ⟨by decide, by decide, fun _ => ⟨by decide, by decide⟩⟩
  rw [List.mem_singleton] at hp; subst hp; exact ⟨by decide, by decide⟩
 | cons q t =>
  rw [if_neg (by simp)]
  obtain ⟨i1, i2⟩ := Qdl 60 (q :: t) true 0 (by omega)
  have hl := QcY 60 (q :: t) true 0
  refine ⟨⟨by omega, fun p hp => ?_, i2, ?_⟩, fun p hp => ?_⟩
  ·have := i1 p hp; exact ⟨by omega, by omega, fun _ => ⟨by omega, by omega⟩⟩
  ·unfold kn fitE
   rw [List.filter_cons_of_pos (by simp)]
   simp
  have := i1 p hp; omega
theorem QdW (l : List Pt) (hl : l.length ≤ 9223372036854775807) (t c : Int) (m : Nat) : ∀ (n i : Nat) (out : List Pt) (day : Int), i + n = 60 → out.length = i → i ≤ l.length → 0 ≤ day → day ≤ 500 * i →
  Qak.l0 (n + 1 + m) l t c out day (i : Int) = some (if out ++ fitE (i == 0) n day (l.drop i) = [] then [⟨3, 7, true⟩] else out ++ fitE (i == 0) n day (l.drop i), t, c) := by
 have fin : ∀ (out : List Pt), out.length ≤ 60 → (if (out.length : Int) = 0 then (if out.length < 5864062014805 then some (out ++ [(⟨3, 7, true⟩ : Pt)], t, c) else none) else some (out, t, c)) = some (if out = [] then [⟨3, 7, true⟩] else out, t, c) := by
  intro out ho
  cases out with
  | nil => simp
  | cons p q => rw [if_neg (by simp; omega), if_neg (by simp)]
 intro n
 induction n with
 | zero =>
  intro i out day hi ho hil hd hd'
  have e : fitE (i == 0) 0 day (l.drop i) = [] := by cases l.drop i <;> rfl
  rw [show 0 + 1 + m = m + 1 by omega, Qak.l0, e, List.append_nil]
  have h60 : ¬ (i : Int) < 60 := by omega
  by_cases c1 : (i : Int) < (l.length : Int)
  ·rw [if_pos c1, if_neg h60]; exact fin out (by omega)
  rw [if_neg c1]; exact fin out (by omega)
 | succ n ih =>
  intro i out day hi ho hil hd hd'
  rw [show n + 1 + 1 + m = (n + 1 + m) + 1 by omega, Qak.l0]
  by_cases c1 : (i : Int) < (l.length : Int)
  ·have hdr := Qbq l i (by omega)
   rw [if_pos c1, if_pos (by omega), if_pos (by omega), hdr]
   generalize rd_T56 l (i : Int) = p at *
   obtain ⟨e1, e2, e3⟩ := tm_mod p.f0 500 (by omega) (by omega)
   obtain ⟨e4, e5, e6⟩ := tm_mod p.f1 1000000 (by omega) (by omega)
   have w1 : wrap64 (wrap64 (day + 1) + wrap64 (Int.tmod (IntKind.u64.wrap p.f0) 500)) = day + 1 + fe p.f0 := by
    rw [e1, IntWalk.wrap64_in (day + 1) (by omega), IntWalk.wrap64_in _ (by omega)]
    rfl
   have w2 : wrap64 (wrap64 (Int.tmod (IntKind.u64.wrap p.f1) 1000000) - 500000) = fp p.f1 := by
    rw [e4, IntWalk.wrap64_in _ (by omega)]
    rfl
   have he := fe_rng p.f0
   rw [w1, w2, IntWalk.wrap64_in ((i : Int) + 1) (by omega), show ((i : Int) + 1) = ((i + 1 : Nat) : Int) by omega]
   unfold fitE
   have nx : ∀ b : Bool, b = (p.f2 || (i == 0)) → (if out.length < 5864062014805 then Qak.l0 (n + 1 + m) l t c (out ++ [⟨day + 1 + fe p.f0, fp p.f1, b⟩]) (day + 1 + fe p.f0) ((i + 1 : Nat) : Int) else none) = some (if out ++ (⟨day + 1 + fe p.f0, fp p.f1, p.f2 || (i == 0)⟩ : Pt) :: fitE false n (day + 1 + fe p.f0) (l.drop (i + 1)) = [] then [⟨3, 7, true⟩] else out ++ (⟨day + 1 + fe p.f0, fp p.f1, p.f2 || (i == 0)⟩ : Pt) :: fitE false n (day + 1 + fe p.f0) (l.drop (i + 1)), t, c) := by
    intro b hb
    have := ih (i + 1) (out ++ [⟨day + 1 + fe p.f0, fp p.f1, b⟩]) (day + 1 + fe p.f0) (by omega) (by simp [ho]) (by omega) (by omega) (by omega)
    rw [if_pos (by omega), this, List.append_assoc, hb, show (i + 1 == 0) = false from rfl]
    rfl
   by_cases hk : p.f2 = true
   ·rw [if_pos hk]; exact nx true (by rw [hk]; rfl)
   rw [if_neg hk]
   refine nx _ ?_
   rw [Bool.not_eq_true] at hk
   rw [hk, Bool.false_or]
   cases i with
   | zero => rfl
   | succ i => show decide (((i + 1 : Nat) : Int) = 0) = _; rw [decide_eq_false (by omega)]; rfl
  have e : l.drop i = [] := List.drop_eq_nil_of_le (by omega)
  have e2 : fitE (i == 0) (n + 1) day [] = [] := rfl
  rw [if_neg c1, e, e2, List.append_nil]
  exact fin out (by omega)
def tickF (x : Int) : Int := 1 + (IntKind.u64.wrap x) % 1000
def byF (x : Int) : Int := (IntKind.u64.wrap x) % 1000 - 500
theorem QbL (x : Int) : 1 ≤ tickF x ∧ tickF x ≤ 1000 := by unfold tickF; omega
theorem Qed (x : Int) : -500 ≤ byF x ∧ byF x ≤ 499 := by unfold byF; omega
theorem by_rng (a b : Int) : -1000000 ≤ 2 * tickF a * byF b ∧ 2 * tickF a * byF b ≤ 1000000 := by
 have h1 := QbL a
 have h2 := Qed b
 have := mul_bd (x := 2 * tickF a) (y := byF b) (A := 2000) (B := 500) (by omega) (by omega) (by omega) (by omega) (by omega) (by omega)
 omega
theorem fit_eq (l : List Pt) (hl : l.length ≤ 9223372036854775807) (a b : Int) (k : Nat) (hk : 100 ≤ k) : Qak.f k l a b = some (fitS l, tickF a, 2 * tickF a * byF b) := by
 obtain ⟨m, rfl⟩ : ∃ m, k = 60 + 1 + m := ⟨k - 61, by omega⟩
 unfold Qak.f
 obtain ⟨e1, e2, e3⟩ := tm_mod a 1000 (by omega) (by omega)
 obtain ⟨e4, e5, e6⟩ := tm_mod b 1000 (by omega) (by omega)
 have w1 : wrap64 (1 + wrap64 (Int.tmod (IntKind.u64.wrap a) 1000)) = tickF a := by rw [e1, IntWalk.wrap64_in _ (by omega)]; rfl
 have w2 : wrap64 (wrap64 (Int.tmod (IntKind.u64.wrap b) 1000) - 500) = byF b := by rw [e4, IntWalk.wrap64_in _ (by omega)]; rfl
 have h1 := QbL a
 have h2 := by_rng a b
 rw [w1, w2, IntWalk.wrap64_in (2 * tickF a) (by omega), IntWalk.wrap64_in (2 * tickF a * byF b) (by omega)]
 have := QdW l hl (tickF a) (2 * tickF a * byF b) m 60 0 [] 0 (by omega) rfl (Nat.zero_le _) (Int.le_refl 0) (by omega)
 rw [show ((0 : Nat) : Int) = 0 from rfl] at this
 rw [this, List.nil_append, List.drop_zero]
 unfold fitS
 cases l with
 | nil => rfl
 | cons p t => rfl
end Go.Proofs.Ytaembbndjpebhaa.Pr
