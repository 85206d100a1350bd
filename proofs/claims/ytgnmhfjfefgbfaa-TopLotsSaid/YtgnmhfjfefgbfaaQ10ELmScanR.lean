/- scan: Losses, Risk, Delta over what found tells. -/
import Derived.Test.YtgnmhfjfefgbfaaQ10ELmPos
import Derived.Test.YtgnmhfjfefgbfaaQ10ELmScan
import Derived.Test.YtgnmhfjfefgbfaaQ10ELmSums
import Derived.Test.YtgnmhfjfefgbfaaQ10EP0
import Derived.Test.YtgnmhfjfefgbfaaQ10EP2
namespace Go.Proofs.Ytgnmhfjfefgbfaa.Pr
open Go.RowKit Go.Proofs.Ytgnmhfjfefgbfaa.Pr Go.Proofs.YtgnmhfjfefgbfaaW.PrintWords Go.Proofs.YtgnmhfjfefgbfaaW.PrintLast Go.Proofs.YtgnmhfjfefgbfaaW.PrintMore
set_option linter.unusedVariables false
set_option linter.unusedSimpArgs false
theorem fnd_ok {ce : Int} {L : List Posn} {arr : List Arr} (h : (fndS ce L arr).2 = 0) : ce = 0 ∧ chk L = 0 ∧ ∃ o, ownM arr L = some o ∧ fndS ce L arr = (o, 0) := by
 unfold fndS at h ⊢
 by_cases h1 : ce = 0
 ·rw [if_pos h1] at h ⊢
  by_cases h2 : chk L = 0
  ·rw [if_pos h2] at h ⊢
   cases ho : ownM arr L with
   | none => rw [ho] at h; cases h
   | some o => exact ⟨h1, h2, o, rfl, rfl⟩
  rw [if_neg h2] at h; exact absurd h h2
 rw [if_neg h1] at h; exact absurd h h1
theorem QdY {ce : Int} {L : List Posn} {arr : List Arr} (h : (fndS ce L arr).2 ≠ 0) : (fndS ce L arr).1 = [] := by
 unfold fndS at h ⊢
 by_cases h1 : ce = 0
 ·rw [if_pos h1] at h ⊢
  by_cases h2 : chk L = 0
  ·rw [if_pos h2] at h ⊢
   cases ho : ownM arr L with
   | none => rfl
   | some o => rw [ho] at h; exact absurd rfl h
  rw [if_neg h2]
 rw [if_neg h1]
theorem Qd7 {arr : List Arr} : ∀ {L : List Posn} {o : List Arr}, ownM arr L = some o → o.length = L.length ∧ ∀ a ∈ o, a ∈ arr
 | [], o, h => by
  have := Option.some.inj h
  subst this; exact ⟨rfl, fun a ha => (List.not_mem_nil ha).elim⟩
 | p :: t, o, h => by
  rw [ownM] at h
  obtain ⟨a, h1, h2⟩ := Option.bind_eq_some_iff.1 h
  obtain ⟨r, h3, h4⟩ := Option.map_eq_some_iff.1 h2
  subst h4
  obtain ⟨h5, h6⟩ := Qd7 h3
  refine ⟨by simp [h5], fun b hb => ?_⟩
  rcases List.mem_cons.1 hb with rfl | hb
  ·exact List.mem_of_find?_eq_some h1
  exact h6 b hb
theorem QcL {L : List Posn} (h : chk L = 0) : L.length ≤ 128 := by
 unfold chk at h
 by_cases q : (L.length : Int) > 128
 ·rw [if_pos q] at h; cases h
 omega
theorem Qcg {arr : List Arr} (h : uniS arr 0) {a : Arr} (ha : a ∈ arr) : a.f1.length = (Qaa arr 0).f1.length ∧ a.f1.length ≤ 32 := by
 obtain ⟨j, hj, e⟩ := List.mem_iff_getElem.1 ha
 have h1 := h j (by omega) hj
 have h2 : Qaa arr (j : Int) = a := by
  unfold Qaa
  rw [Int.toNat_natCast, List.getD_eq_getElem?_getD, List.getElem?_eq_getElem hj, e]; rfl
 rw [h2] at h1; exact h1
theorem QcK {l : List Arr} {i : Nat} (h : i < l.length) : Qaa l (i : Int) ∈ l := by
 unfold Qaa
 rw [Int.toNat_natCast, List.getD_eq_getElem?_getD, List.getElem?_eq_getElem h]
 exact List.getElem_mem h
def colvS (c : Nat) (p : Posn) (a : Arr) : Int := wrap64 ((wrap64 (p.f1 - p.f2)) * (rd a.f1 (c : Int)))
def colS (c : Nat) (L : List Posn) (o : List Arr) : List Int := List.zipWith (colvS c) L o
theorem QdJ {γ : Type} (f : Posn → Arr → γ) (L : List Posn) (o : List Arr) (h : o.length = L.length) (j : Nat) (hj : j < L.length) : (List.zipWith f L o).drop j = f (rd_T71 L (j : Int)) (Qaa o (j : Int)) :: (List.zipWith f L o).drop (j + 1) := by
 rw [List.drop_zipWith, List.drop_zipWith, Qcx L j hj, Qdi o j (by omega), List.zipWith_cons_cons]
theorem ls_in (L : List Posn) (o : List Arr) (acc : List Int) (c : Nat) (m : Nat) (hm : m ≤ 32) (hc : c < m) (hL : L.length ≤ 128) (ho : o.length = L.length) (hu : ∀ a ∈ o, a.f1.length = m) : ∀ n j k : Nat, j + n = L.length → n + 1 ≤ k → ∀ x : List Int, x.length = j →
  ∃ k', k ≤ k' + n + 1 ∧ Qaq.l1 k L acc o (c : Int) x (m : Int) (c : Int) L (L.length : Int) (j : Int) = ((QaG.f k' (x ++ (colS c L o).drop j)).bind fun bt146 => (if bt146.2 = 0 then (if acc.length < 17592186044416 then (Qaq.l0 k' L (acc ++ [bt146.1]) o (m : Int) (wrap64 ((c : Int) + 1))) else (none)) else (some (([] : List Int), bt146.2)))) := by
 intro n
 induction n with
 | zero =>
  intro j k hj hk x hx
  obtain ⟨k, rfl⟩ : ∃ q, k = q + 1 := ⟨k - 1, by omega⟩
  rw [Qaq.l1, if_neg (show ¬ (j : Int) < (L.length : Int) by omega), List.drop_of_length_le (by unfold colS; rw [List.length_zipWith]; omega), List.append_nil]
  exact ⟨k, by omega, rfl⟩
 | succ n ih =>
  intro j k hj hk x hx
  obtain ⟨k, rfl⟩ : ∃ q, k = q + 1 := ⟨k - 1, by omega⟩
  have e1 := hu _ (QcK (l := o) (i := j) (by omega))
  rw [Qaq.l1, if_pos (show (j : Int) < (L.length : Int) by omega), if_pos (show (0 : Int) ≤ (j : Int) by omega), if_pos (show (j : Int) < (L.length : Int) by omega), if_pos (show (j : Int) < (o.length : Int) by omega), if_pos (show (0 : Int) ≤ (c : Int) by omega), if_pos (by omega), if_pos (by omega), smW1 (by omega)]
  obtain ⟨k', h1, h2⟩ := ih (j + 1) k (by omega) (by omega) (x ++ [colvS c (rd_T71 L (j : Int)) (Qaa o (j : Int))]) (by simp [hx])
  refine ⟨k', by omega, h2.trans ?_⟩
  rw [show (colS c L o).drop j = colvS c (rd_T71 L (j : Int)) (Qaa o (j : Int)) :: (colS c L o).drop (j + 1) from QdJ (colvS c) L o ho j (by omega), List.append_assoc]
  rfl
def widS (arr : List Arr) : Nat := if arr.length = 0 then 0 else (Qaa arr 0).f1.length
theorem mW_le {arr : List Arr} (h : uniS arr 0) : widS arr ≤ 32 := by
 unfold widS
 by_cases h0 : arr.length = 0
 ·rw [if_pos h0]; omega
 rw [if_neg h0]; exact (Qcg h (QcK (l := arr) (i := 0) (by omega))).2
theorem zeroW : wrap64 0 = 0 := by unfold wrap64; omega
theorem addW (a b : Int) : wrap64 (wrap64 a + b) = wrap64 (a + b) := by unfold wrap64; omega
theorem addW2 (a b : Int) : wrap64 (a + wrap64 b) = wrap64 (a + b) := by unfold wrap64; omega
def dltS (p : Posn) (a : Arr) : Int := wrap64 ((wrap64 (p.f1 - p.f2)) * a.f2)
theorem Qfo (L : List Posn) (o : List Arr) (e : Int) (hL : L.length ≤ 128) (ho : o.length = L.length) : ∀ n i k : Nat, i + n = L.length → n + 1 ≤ k → ∀ D : Int, Qaw.l0 k L (wrap64 D) e o (o.length : Int) (i : Int) = some (wrap64 (D + ((List.zipWith dltS L o).drop i).sum), e) := by
 intro n
 induction n with
 | zero =>
  intro i k hi hk D
  obtain ⟨k, rfl⟩ : ∃ q, k = q + 1 := ⟨k - 1, by omega⟩
  rw [Qaw.l0, if_neg (show ¬ (i : Int) < (o.length : Int) by omega), List.drop_of_length_le (by rw [List.length_zipWith]; omega)]
  simp
 | succ n ih =>
  intro i k hi hk D
  obtain ⟨k, rfl⟩ : ∃ q, k = q + 1 := ⟨k - 1, by omega⟩
  rw [Qaw.l0, if_pos (show (i : Int) < (o.length : Int) by omega), if_pos (show (0 : Int) ≤ (i : Int) by omega), if_pos (show (i : Int) < (o.length : Int) by omega), if_pos (show (i : Int) < (L.length : Int) by omega), smW1 (by omega), addW, QdJ dltS L o ho i (by omega), List.sum_cons, ← Int.add_assoc]
  exact ih (i + 1) k (by omega) (by omega) _
theorem QeP (ce : Int) (arr : List Arr) (L : List Posn) (hl : arr.length ≤ 130) (hc : ∀ k, 6000 ≤ k → Qan.f k arr = some ce) (k : Nat) (hk : 30000 ≤ k) :
  Qaw.f k L arr = some (wrap64 (List.zipWith dltS L (fndS ce L arr).1).sum, (fndS ce L arr).2) := by
 unfold Qaw.f
 rw [fnd_eq ce arr L hl hc k (by omega), Option.bind_some]
 by_cases h : (fndS ce L arr).2 = 0
 ·obtain ⟨c1, c2, o, c3, c4⟩ := fnd_ok h
  rw [c4]
  have := Qfo L o 0 (QcL c2) (Qd7 c3).1 L.length 0 k (by omega) (by have := QcL c2; omega) 0
  rw [List.drop_zero, Int.zero_add, zeroW] at this
  exact this
 rw [QdY h]
 obtain ⟨k, rfl⟩ : ∃ q, k = q + 1 := ⟨k - 1, by omega⟩
 rw [Qaw.l0, if_neg (by simp), List.zipWith_nil_right, List.sum_nil, zeroW]
end Go.Proofs.Ytgnmhfjfefgbfaa.Pr
