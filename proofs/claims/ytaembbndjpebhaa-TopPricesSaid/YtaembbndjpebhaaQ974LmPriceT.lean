/- A day's tape: which may be, how many lots it has, its average price. -/
import Derived.Test.YtaembbndjpebhaaQ974LmCentsMd
import Derived.Test.YtaembbndjpebhaaQ974LmCurveChk
import Derived.Test.YtaembbndjpebhaaQ974LmCurveNear
import Derived.Test.YtaembbndjpebhaaQ974LmCurvePr
import Derived.Test.YtaembbndjpebhaaQ974LmPriceP
import Derived.Test.YtaembbndjpebhaaQ974P0
import Derived.Test.YtaembbndjpebhaaQ974P1
import Derived.Test.YtaembbndjpebhaaQ974P3
namespace Go.Proofs.Ytaembbndjpebhaa.Pr
open Go.RowKit Go.Proofs.Ytaembbndjpebhaa.Pr Go.Proofs.YtaembbndjpebhaaW.PrintWords Go.Proofs.YtaembbndjpebhaaW.PrintLast Go.Proofs.YtaembbndjpebhaaW.PrintMore
set_option linter.unusedVariables false
set_option linter.unusedSimpArgs false
abbrev Tk := S130
theorem tk_rd (l : List Tk) (i : Nat) (h : i < l.length) : Qaj l (i : Int) = l[i] := by
 unfold Qaj
 rw [Int.toNat_natCast, List.getD_eq_getElem?_getD, List.getElem?_eq_getElem h]
 rfl
theorem Qch (l : List Tk) (i : Nat) (h : i < l.length) : l.drop i = Qaj l (i : Int) :: l.drop (i + 1) := by
 rw [List.drop_eq_getElem_cons h, tk_rd l i h]
def tchk : Int → List Tk → Int
 | _, [] => 0
 | a, t :: r => if t.f0 < a ∨ t.f0 > 86399 then 2 else if t.f1 < 1 ∨ t.f1 > 1048576 then 18 else if t.f2 < -16777216 ∨ t.f2 > 16777216 then 17 else tchk t.f0 r
def tchkS (l : List Tk) : Int := if (l.length : Int) > 1024 then 8 else tchk 0 l
def tickOk (t : Tk) : Prop := 1 ≤ t.f1 ∧ t.f1 ≤ 1048576 ∧ QaV t.f2
theorem Qdl : ∀ (l : List Tk) (a : Int), tchk a l = 0 → ∀ t ∈ l, tickOk t
 | [], _, _, t, ht => by cases ht
 | x :: r, a, h, t, ht => by
  unfold tchk at h
  by_cases c1 : x.f0 < a ∨ x.f0 > 86399
  ·rw [if_pos c1] at h; cases h
  rw [if_neg c1] at h
  by_cases c2 : x.f1 < 1 ∨ x.f1 > 1048576
  ·rw [if_pos c2] at h; cases h
  rw [if_neg c2] at h
  by_cases c3 : x.f2 < -16777216 ∨ x.f2 > 16777216
  ·rw [if_pos c3] at h; cases h
  rw [if_neg c3] at h
  rcases List.mem_cons.1 ht with rfl | ht
  ·exact ⟨by omega, by omega, ⟨by omega, by omega⟩⟩
  exact Qdl r _ h t ht
theorem Qb8 {l : List Tk} (h : tchkS l = 0) : l.length ≤ 1024 ∧ ∀ t ∈ l, tickOk t := by
 unfold tchkS at h
 by_cases c : (l.length : Int) > 1024
 ·rw [if_pos c] at h; cases h
 rw [if_neg c] at h
 exact ⟨by omega, Qdl l 0 h⟩
theorem Qdb (l : List Tk) (hl : l.length ≤ 1024) (m : Nat) : ∀ (d i : Nat) (a : Int), i + d = l.length → Qaw.l0 (3 * d + 1 + m) l (l.length : Int) (i : Int) 0 a = some (tchk a (l.drop i)) := by
 intro d
 induction d with
 | zero =>
  intro i a hi
  rw [show 3 * 0 + 1 + m = m + 1 by omega, Qaw.l0, if_neg (by omega), List.drop_eq_nil_of_le (by omega), tchk]
 | succ d ih =>
  intro i a hi
  have nx := ih (i + 1) (Qaj l (i : Int)).f0 (by omega)
  rw [show 3 * (d + 1) + 1 + m = (3 * d + 1 + m) + 1 + 1 + 1 by omega, Qaw.l0, if_pos (by omega), if_pos (by omega), if_pos (by omega), Qch l i (by omega), tchk]
  rw [QbD (fun b' => Qaw.j1 ((3 * d + 1 + m) + 1 + 1) l (l.length : Int) (i : Int) b' 0 (Qaj l (i : Int)).f0 (Qaj l (i : Int)).f1 (Qaj l (i : Int)).f2), Qaw.j1]
  generalize Qaj l (i : Int) = t at *
  by_cases c1 : t.f0 < a ∨ t.f0 > 86399
  ·rw [decide_eq_true c1, if_pos rfl, if_pos c1]
  rw [decide_eq_false c1, if_neg (show ¬ (false = true) by simp), if_neg c1, QbD (fun b' => Qaw.j2 ((3 * d + 1 + m) + 1) l (l.length : Int) (i : Int) b' 0 t.f0 t.f1 t.f2), Qaw.j2]
  by_cases c2 : t.f1 < 1 ∨ t.f1 > 1048576
  ·rw [decide_eq_true c2, if_pos rfl, if_pos c2]
  rw [decide_eq_false c2, if_neg (show ¬ (false = true) by simp), if_neg c2]
  by_cases c3 : t.f2 < -16777216
  ·rw [if_pos c3, if_pos (Or.inl c3)]
  rw [if_neg c3]
  by_cases c4 : t.f2 > 16777216
  ·rw [if_pos c4, if_pos (Or.inr c4)]
  rw [if_neg c4, if_pos rfl, if_neg (by omega), IntWalk.wrap64_in ((i : Int) + 1) (by omega), show ((i : Int) + 1) = ((i + 1 : Nat) : Int) by omega, nx]
theorem QcU (l : List Tk) (k : Nat) (hk : 3100 ≤ k) : Qaw.f k l = some (tchkS l) := by
 unfold Qaw.f tchkS
 by_cases c : (l.length : Int) > 1024
 ·rw [if_pos c, if_pos c]
 rw [if_neg c, if_neg c]
 obtain ⟨m, rfl⟩ : ∃ m, k = 3 * l.length + 1 + m := ⟨k - 3 * l.length - 1, by omega⟩
 exact Qdb l (by omega) m l.length 0 0 (by omega)
theorem sum_bd (g : Tk → Int) (B : Int) (hB : 0 ≤ B) : ∀ l : List Tk, (∀ t ∈ l, -B ≤ g t ∧ g t ≤ B) → -(B * l.length) ≤ (l.map g).sum ∧ (l.map g).sum ≤ B * l.length
 | [], _ => by simp
 | t :: r, h => by
  have h1 := h t List.mem_cons_self
  have ih := sum_bd g B hB r (fun x hx => h x (List.mem_cons_of_mem _ hx))
  rw [List.map_cons, List.sum_cons, List.length_cons, Int.natCast_add, Int.mul_add]
  omega
theorem Qd8 (l : List Tk) (hl : l.length ≤ 1024) (hk : ∀ t ∈ l, tickOk t) (m : Nat) : ∀ (d i : Nat) (a : Int), i + d = l.length → -1048576 * (i : Int) ≤ a → a ≤ 1048576 * (i : Int) → QaI.l0 (d + 1 + m) l (l.length : Int) (i : Int) a = some (a + ((l.drop i).map (fun t => t.f1)).sum, 0) := by
 intro d
 induction d with
 | zero =>
  intro i a hi _ _
  rw [show 0 + 1 + m = m + 1 by omega, QaI.l0, if_neg (by omega), List.drop_eq_nil_of_le (by omega), List.map_nil, List.sum_nil, Int.add_zero]
 | succ d ih =>
  intro i a hi b1 b2
  have hd := Qch l i (by omega)
  obtain ⟨t1, t2, _⟩ := hk _ (List.mem_of_mem_drop (hd ▸ List.mem_cons_self))
  rw [show d + 1 + 1 + m = (d + 1 + m) + 1 by omega, QaI.l0, if_pos (by omega), if_pos (by omega), if_pos (by omega), hd, IntWalk.wrap64_in ((i : Int) + 1) (by omega), show ((i : Int) + 1) = ((i + 1 : Nat) : Int) by omega]
  generalize Qaj l (i : Int) = t at *
  rw [IntWalk.wrap64_in (a + t.f1) (by omega), ih (i + 1) _ (by omega) (by omega) (by omega), List.map_cons, List.sum_cons, Int.add_assoc]
theorem vol_eq (l : List Tk) (k : Nat) (hk : 3100 ≤ k) : QaI.f k l = some (if tchkS l = 0 then ((l.map (fun t => t.f1)).sum, 0) else (0, tchkS l)) := by
 unfold QaI.f
 rw [QcU l k hk, Option.bind_some]
 by_cases h : tchkS l = 0
 ·obtain ⟨h1, h2⟩ := Qb8 h
  rw [if_pos h, if_pos h]
  obtain ⟨m, rfl⟩ : ∃ m, k = l.length + 1 + m := ⟨k - l.length - 1, by omega⟩
  have := Qd8 l h1 h2 m l.length 0 0 (by omega) (by omega) (by omega)
  rw [List.drop_zero, Int.zero_add] at this
  exact this
 rw [if_neg h, if_neg h]
theorem QdM (l : List Tk) (hl : l.length ≤ 1024) (hk : ∀ t ∈ l, tickOk t) (s q : Int) (m : Nat) (r : Option (Int × Int)) (hend : ((QaA.f ((l.map (fun t => t.f2 * t.f1)).sum) 1 (wrap64 (q * s)) 5).bind fun b => (if b.2 = 0 then (some (wrap64 (b.1 * s), 0)) else (some (0, b.2)))) = r) : ∀ (d i : Nat) (a : Int), i + d = l.length → -17592186044416 * (i : Int) ≤ a → a ≤ 17592186044416 * (i : Int) → a + ((l.drop i).map (fun t => t.f2 * t.f1)).sum = (l.map (fun t => t.f2 * t.f1)).sum → QaD.l0 (d + 1 + m) s 5 q l (l.length : Int) (i : Int) a = r := by
 intro d
 induction d with
 | zero =>
  intro i a hi _ _ hs
  rw [List.drop_eq_nil_of_le (by omega), List.map_nil, List.sum_nil, Int.add_zero] at hs
  rw [show 0 + 1 + m = m + 1 by omega, QaD.l0, if_neg (by omega), hs]
  exact hend
 | succ d ih =>
  intro i a hi b1 b2 hs
  have hd := Qch l i (by omega)
  obtain ⟨t1, t2, t3⟩ := hk _ (List.mem_of_mem_drop (hd ▸ List.mem_cons_self))
  rw [hd, List.map_cons, List.sum_cons] at hs
  rw [show d + 1 + 1 + m = (d + 1 + m) + 1 by omega, QaD.l0, if_pos (by omega), if_pos (by omega), if_pos (by omega), IntWalk.wrap64_in ((i : Int) + 1) (by omega), show ((i : Int) + 1) = ((i + 1 : Nat) : Int) by omega]
  generalize Qaj l (i : Int) = t at *
  have mb := mul_bd (x := t.f2) (y := t.f1) (A := 16777216) (B := 1048576) t3.1 t3.2 (by omega) t2 (by omega) (by omega)
  rw [IntWalk.wrap64_in (t.f2 * t.f1) (by omega), IntWalk.wrap64_in (a + t.f2 * t.f1) (by omega)]
  exact ih (i + 1) _ (by omega) (by omega) (by omega) (by omega)
theorem QcH {n D s : Int} (hn : -100000000000000000 ≤ n) (hn' : n ≤ 100000000000000000) (hs : 1 ≤ s) {q : Int} (hq : 1 ≤ q) (hD : D = q * s) (hD' : D ≤ 100000000000000000) :
  QaA.f n 1 D 5 = some (nearS n D, 0) ∧ wrap64 (nearS n D * s) = nearS n D * s := by
 have hDp : 0 < D := by rw [hD]; exact Int.mul_pos (by omega) (by omega)
 refine ⟨?_, ?_⟩
 ·rw [md_eq, if_pos ⟨⟨by omega, by omega⟩, ⟨by omega, by omega⟩, ⟨by omega, by omega⟩, by omega, by omega⟩, if_neg (by omega), Qdi _ _ (by omega) (by omega) hDp]
 have nt := Qco n D hDp
 have e : nearS n D * D = nearS n D * s * q := by rw [hD, Int.mul_comm q s, Int.mul_assoc]
 rw [e] at nt
 generalize nearS n D * s = v at *
 refine IntWalk.wrap64_in _ ?_
 constructor
 ·refine Int.not_lt.1 (fun hlt => ?_)
  have : v * q ≤ v * 1 := Int.mul_le_mul_of_nonpos_left (by omega) hq
  omega
 refine Int.not_lt.1 (fun hlt => ?_)
 have : v * 1 ≤ v * q := Int.mul_le_mul_of_nonneg_left hq (by omega)
 omega
theorem Qer (l : List Tk) (h : tchkS l = 0) (hq : 1 ≤ (l.map (fun t => t.f1)).sum) (s : Int) (hs : 1 ≤ s) (hs' : s ≤ 16777216) (k : Nat) (hk : 3200 ≤ k) : ∃ n, QaD.f k l s 5 = some (n, 0) ∧ s ∣ n := by
 obtain ⟨h1, h2⟩ := Qb8 h
 obtain ⟨k, rfl⟩ : ∃ m, k = m + 1 + 1 := ⟨k - 2, by omega⟩
 have b1 := sum_bd (fun t => t.f1) 1048576 (by omega) l (fun t ht => by have := h2 t ht; exact ⟨by have := this.1; omega, this.2.1⟩)
 have b2 := sum_bd (fun t => t.f2 * t.f1) 17592186044416 (by omega) l (fun t ht => by
  obtain ⟨t1, t2, t3⟩ := h2 t ht
  have := mul_bd (x := t.f2) (y := t.f1) (A := 16777216) (B := 1048576) t3.1 t3.2 (by omega) t2 (by omega) (by omega)
  omega)
 unfold QaD.f
 rw [vol_eq l _ (by omega), if_pos h, Option.bind_some, if_pos rfl, QbD (fun b' => QaD.j0 (k + 1 + 1) l s 5 (l.map (fun t => t.f1)).sum b'), decide_eq_false (by omega), QaD.j0, if_neg (show ¬ (false = true) by simp), if_neg (by omega), decide_eq_false (by omega), QaD.j1, if_neg (show ¬ (false = true) by simp), if_neg (by omega)]
 generalize hQ : (l.map (fun t => t.f1)).sum = Q at *
 have mb := mul_bd (x := Q) (y := s) (A := 1073741824) (B := 16777216) (by omega) (by omega) (by omega) hs' (by omega) (by omega)
 have wD : wrap64 (Q * s) = Q * s := IntWalk.wrap64_in _ (by omega)
 obtain ⟨e1, e2⟩ := QcH (n := (l.map (fun t => t.f2 * t.f1)).sum) (D := Q * s) (s := s) (q := Q) (by omega) (by omega) hs hq rfl (by omega)
 obtain ⟨m, rfl⟩ : ∃ m, k = l.length + 1 + m := ⟨k - l.length - 1, by omega⟩
 refine ⟨nearS (l.map (fun t => t.f2 * t.f1)).sum (Q * s) * s, ?_, ⟨_, Int.mul_comm _ _⟩⟩
 refine QdM l h1 h2 s Q m _ ?_ l.length 0 0 (by omega) (by omega) (by omega) (by rw [List.drop_zero, Int.zero_add])
 rw [wD, e1, Option.bind_some]
 dsimp only
 rw [if_pos rfl, e2]
theorem Qd9 (l : List Tk) (hl : l.length ≤ 1024) (a b : Int) (m : Nat) : ∀ (d i : Nat) (out : List Tk), i + d = l.length → out.length ≤ i → ∃ r, QaS.l0 (d + 1 + m) l (l.length : Int) (i : Int) a b out = some r := by
 intro d
 induction d with
 | zero => intro i out hi ho; exact ⟨out, by rw [show 0 + 1 + m = m + 1 by omega, QaS.l0, if_neg (by omega)]⟩
 | succ d ih =>
  intro i out hi ho
  obtain ⟨r1, e1⟩ := ih (i + 1) (out ++ [⟨(Qaj l (i : Int)).f0, (Qaj l (i : Int)).f1, (Qaj l (i : Int)).f2⟩]) (by omega) (by simp; omega)
  obtain ⟨r2, e2⟩ := ih (i + 1) out (by omega) (by omega)
  rw [show d + 1 + 1 + m = (d + 1 + m) + 1 by omega, QaS.l0, if_pos (by omega), if_pos (by omega), if_pos (by omega), IntWalk.wrap64_in ((i : Int) + 1) (by omega), show ((i : Int) + 1) = ((i + 1 : Nat) : Int) by omega]
  by_cases c1 : (Qaj l (i : Int)).f0 ≥ a
  ·rw [if_pos c1]
   by_cases c2 : (Qaj l (i : Int)).f0 ≤ b
   ·rw [if_pos c2, if_pos (by omega), e1]; exact ⟨r1, rfl⟩
   rw [if_neg c2, e2]; exact ⟨r2, rfl⟩
  rw [if_neg c1, e2]; exact ⟨r2, rfl⟩
theorem win_ex (l : List Tk) (hl : l.length ≤ 1024) (a b : Int) (k : Nat) (hk : 1100 ≤ k) : ∃ r, QaS.f k l a b = some r := by
 obtain ⟨m, rfl⟩ : ∃ m, k = l.length + 1 + m := ⟨k - l.length - 1, by omega⟩
 exact Qd9 l hl a b m l.length 0 [] (by omega) (Nat.le_refl _)
end Go.Proofs.Ytaembbndjpebhaa.Pr
