/- What At, Fill, Shift, Same and their references answer. -/
import Derived.Test.YtaembbndjpebhaaQBF7LmCents
import Derived.Test.YtaembbndjpebhaaQBF7LmCurveAt
import Derived.Test.YtaembbndjpebhaaQBF7LmCurveChk
import Derived.Test.YtaembbndjpebhaaQBF7LmCurveEq
import Derived.Test.YtaembbndjpebhaaQBF7LmCurveRef
import Derived.Test.YtaembbndjpebhaaQBF7P0
import Derived.Test.YtaembbndjpebhaaQBF7P1
import Derived.Test.YtaembbndjpebhaaQBF7P2
import Derived.Test.YtaembbndjpebhaaQBF7P3
namespace Go.Proofs.Ytaembbndjpebhaa.Pr
open Go.RowKit Go.Proofs.Ytaembbndjpebhaa.Pr Go.Proofs.YtaembbndjpebhaaW.PrintWords Go.Proofs.YtaembbndjpebhaaW.PrintLast Go.Proofs.YtaembbndjpebhaaW.PrintMore
set_option linter.unusedVariables false
set_option linter.unusedSimpArgs false
theorem QcO (l : List Pt) (tick : Int) (k : Nat) (hk : 600 ≤ k) : QaT.f k l tick = some (if chkS l = 0 then (if tick < 1 ∨ tick > 16777216 then 16 else 0) else chkS l) := by
 unfold QaT.f
 rw [QbT l k hk, Option.bind_some]
 by_cases h : chkS l = 0
 ·rw [if_pos h, if_pos h]
  by_cases h1 : tick < 1
  ·rw [if_pos h1, if_pos (Or.inl h1)]
  rw [if_neg h1]
  by_cases h2 : tick > 16777216
  ·rw [if_pos h2, if_pos (Or.inr h2)]
  rw [if_neg h2, if_neg (by omega)]
 rw [if_neg h, if_neg h]
def AtS (l : List Pt) (day tick : Int) : Int × Int := if chkS l = 0 then (if tick < 1 ∨ tick > 16777216 then (0, 16) else if day < 0 ∨ day > 73048 then (0, 15) else (atS l day tick, 0)) else (0, chkS l)
theorem At_eq (l : List Pt) (day tick : Int) (k : Nat) (hk : 2000 ≤ k) : QaC.f k l day tick = some (AtS l day tick) := by
 unfold QaC.f AtS
 rw [QcO l tick k (by omega), Option.bind_some]
 by_cases h : chkS l = 0
 ·rw [if_pos h, if_pos h]
  by_cases h1 : tick < 1 ∨ tick > 16777216
  ·rw [if_pos h1, if_pos h1, if_neg (by decide)]
  rw [if_neg h1, if_neg h1, if_pos rfl]
  by_cases h2 : day < 0
  ·rw [if_pos h2, if_pos (Or.inl h2)]
  rw [if_neg h2]
  by_cases h3 : day > 73048
  ·rw [if_pos h3, if_pos (Or.inr h3)]
  rw [if_neg h3, if_neg (by omega), Qc5 l (Qbf h) day tick (by omega) (by omega) (by omega) (by omega) k hk, Option.bind_some]
 rw [if_neg h, if_neg h, if_neg h]
theorem rAt_eq (l : List Pt) (day tick : Int) (k : Nat) (hk : 2001 ≤ k) : QaB.f k l day tick = some (AtS l day tick) := by
 obtain ⟨k, rfl⟩ : ∃ m, k = m + 1 := ⟨k - 1, by omega⟩
 unfold QaB.f AtS
 rw [QbI l (k + 1) (by omega), Option.bind_some]
 simp only [QaB.j0]
 by_cases h : chkS l = 0
 ·rw [if_pos h, if_pos h]
  by_cases h1 : tick < 1
  ·rw [if_pos h1, if_pos trivial, if_pos (Or.inl h1)]
  rw [if_neg h1]
  by_cases h2 : tick > 16777216
  ·rw [decide_eq_true h2, if_pos rfl, if_pos (Or.inr h2)]
  rw [decide_eq_false h2, if_neg (by simp), if_neg (by omega : ¬ (tick < 1 ∨ tick > 16777216))]
  by_cases h3 : day < 0
  ·rw [if_pos h3, if_pos (Or.inl h3)]
  rw [if_neg h3]
  by_cases h4 : day > 73048
  ·rw [if_pos h4, if_pos (Or.inr h4)]
  rw [if_neg h4, if_neg (by omega), rat_eq l (Qbf h) day tick (by omega) (by omega) (by omega) (by omega) k (by omega), Option.bind_some]
 rw [if_neg h, if_neg h]
def fillP (l : List Pt) (tick : Int) (p : Pt) : Pt := if p.f2 = true then p else ⟨p.f0, atS l p.f0 tick, true⟩
def FillS (l : List Pt) (tick : Int) : List Pt × Int := if chkS l = 0 then (if tick < 1 ∨ tick > 16777216 then ([], 16) else (l.map (fillP l tick), 0)) else ([], chkS l)
theorem QdJ (l : List Pt) (hG : GoodC l) (tick : Int) (ht : 1 ≤ tick) (ht' : tick ≤ 16777216) (m : Nat) (hm : 2000 ≤ m) : ∀ (d i : Nat) (out : List Pt), i + d = l.length → out.length ≤ i → Qau.l0 (d + 1 + m) l tick out l (l.length : Int) (i : Int) = some (out ++ (l.drop i).map (fillP l tick), 0) := by
 have hl := hG.len
 intro d
 induction d with
 | zero =>
  intro i out hi ho
  rw [show 0 + 1 + m = m + 1 by omega, Qau.l0, if_neg (by omega), List.drop_eq_nil_of_le (by omega), List.map_nil, List.append_nil]
 | succ d ih =>
  intro i out hi ho
  have hd := Qbq l i (by omega)
  have hmem : rd_T56 l (i : Int) ∈ l := List.mem_of_mem_drop (hd ▸ List.mem_cons_self)
  obtain ⟨r1, r2, _⟩ := hG.rng _ hmem
  rw [show d + 1 + 1 + m = (d + 1 + m) + 1 by omega, Qau.l0, if_pos (by omega), if_pos (by omega), if_pos (by omega), hd, IntWalk.wrap64_in ((i : Int) + 1) (by omega), show ((i : Int) + 1) = ((i + 1 : Nat) : Int) by omega, Qc5 l hG _ tick r1 r2 ht ht' _ (by omega), Option.bind_some, List.map_cons]
  generalize rd_T56 l (i : Int) = p at *
  unfold fillP
  by_cases hk : p.f2 = true
  ·rw [if_pos hk, if_pos (by omega), if_pos hk, ih (i + 1) _ (by omega) (by simp; omega), List.append_assoc]
   rfl
  rw [if_neg hk, if_pos (by omega), if_neg hk, ih (i + 1) _ (by omega) (by simp; omega), List.append_assoc]
  rfl
theorem Qb3 (l : List Pt) (tick : Int) (k : Nat) (hk : 3000 ≤ k) : Qau.f k l tick = some (FillS l tick) := by
 unfold Qau.f FillS
 rw [QcO l tick k (by omega), Option.bind_some]
 by_cases h : chkS l = 0
 ·rw [if_pos h, if_pos h]
  by_cases h1 : tick < 1 ∨ tick > 16777216
  ·rw [if_pos h1, if_pos h1, if_neg (by decide)]
  rw [if_neg h1, if_neg h1, if_pos rfl]
  have hl := (Qbf h).len
  obtain ⟨m, rfl⟩ : ∃ m, k = l.length + 1 + m := ⟨k - l.length - 1, by omega⟩
  have := QdJ l (Qbf h) tick (by omega) (by omega) m (by omega) l.length 0 [] (by omega) (Nat.le_refl _)
  exact this
 rw [if_neg h, if_neg h, if_neg h]
theorem Qdx (l : List Pt) (hG : GoodC l) (tick : Int) (ht : 1 ≤ tick) (ht' : tick ≤ 16777216) (m : Nat) (hm : 2000 ≤ m) : ∀ (d i : Nat) (out : List Pt), i + d = l.length → out.length ≤ i → Qah.l0 (d + 1 + m) l tick out (i : Int) = some (out ++ (l.drop i).map (fillP l tick), 0) := by
 have hl := hG.len
 intro d
 induction d with
 | zero =>
  intro i out hi ho
  rw [show 0 + 1 + m = m + 1 by omega, Qah.l0, if_neg (by omega), List.drop_eq_nil_of_le (by omega), List.map_nil, List.append_nil]
 | succ d ih =>
  intro i out hi ho
  have hd := Qbq l i (by omega)
  have hmem : rd_T56 l (i : Int) ∈ l := List.mem_of_mem_drop (hd ▸ List.mem_cons_self)
  obtain ⟨r1, r2, _⟩ := hG.rng _ hmem
  rw [show d + 1 + 1 + m = (d + 1 + m) + 1 by omega, Qah.l0, if_pos (by omega), if_pos (by omega), hd, IntWalk.wrap64_in ((i : Int) + 1) (by omega), show ((i : Int) + 1) = ((i + 1 : Nat) : Int) by omega, rat_eq l hG _ tick r1 r2 ht ht' _ (by omega), Option.bind_some, List.map_cons]
  generalize rd_T56 l (i : Int) = p at *
  unfold fillP
  by_cases hk : p.f2 = true
  ·rw [if_pos hk, if_pos (by omega), if_pos hk, ih (i + 1) _ (by omega) (by simp; omega), List.append_assoc]
   rfl
  rw [if_neg hk, if_pos (by omega), if_neg hk, ih (i + 1) _ (by omega) (by simp; omega), List.append_assoc]
  rfl
theorem Qd5 (l : List Pt) (tick : Int) (k : Nat) (hk : 3000 ≤ k) : Qah.f k l tick = some (FillS l tick) := by
 obtain ⟨k, rfl⟩ : ∃ m, k = m + 1 := ⟨k - 1, by omega⟩
 unfold Qah.f FillS
 rw [QbI l (k + 1) (by omega), Option.bind_some]
 simp only [Qah.j0]
 by_cases h : chkS l = 0
 ·rw [if_pos h, if_pos h]
  by_cases h1 : tick < 1
  ·rw [if_pos h1, if_pos trivial, if_pos (Or.inl h1)]
  rw [if_neg h1]
  by_cases h2 : tick > 16777216
  ·rw [decide_eq_true h2, if_pos rfl, if_pos (Or.inr h2)]
  rw [decide_eq_false h2, if_neg (by simp), if_neg (by omega : ¬ (tick < 1 ∨ tick > 16777216))]
  have hl := (Qbf h).len
  obtain ⟨m, rfl⟩ : ∃ m, k = l.length + 1 + m := ⟨k - l.length - 1, by omega⟩
  exact Qdx l (Qbf h) tick (by omega) (by omega) m (by omega) l.length 0 [] (by omega) (Nat.le_refl _)
 rw [if_neg h, if_neg h]
def shiftP (d lo hi : Int) (p : Pt) : Pt := if p.f2 = true then ⟨p.f0, clampS (wrap64 (p.f1 + d)) lo hi, p.f2⟩ else p
def ShiftS (l : List Pt) (d lo hi : Int) : List Pt × Int := if chkS l = 0 then (if QaO d then (if lo > hi ∨ ¬ QaO lo ∨ ¬ QaO hi then ([], 2) else (l.map (shiftP d lo hi), 0)) else ([], 17)) else ([], chkS l)
theorem Qdz (l : List Pt) (hl : l.length ≤ 1000) (d lo hi : Int) (m : Nat) (hm : 1 ≤ m) : ∀ (q i : Nat) (out : List Pt), i + q = l.length → out.length ≤ i → Qan.l0 (q + 1 + m) d lo hi out l (l.length : Int) (i : Int) = some (out ++ (l.drop i).map (shiftP d lo hi), 0) := by
 intro q
 induction q with
 | zero =>
  intro i out hi ho
  rw [show 0 + 1 + m = m + 1 by omega, Qan.l0, if_neg (by omega), List.drop_eq_nil_of_le (by omega), List.map_nil, List.append_nil]
 | succ q ih =>
  intro i out hi ho
  have hd := Qbq l i (by omega)
  rw [show q + 1 + 1 + m = (q + 1 + m) + 1 by omega, Qan.l0, if_pos (by omega), if_pos (by omega), if_pos (by omega), hd, IntWalk.wrap64_in ((i : Int) + 1) (by omega), show ((i : Int) + 1) = ((i + 1 : Nat) : Int) by omega, List.map_cons, QdR _ _ _ _ (by omega), Option.bind_some]
  generalize rd_T56 l (i : Int) = p at *
  unfold shiftP
  by_cases hk : p.f2 = true
  ·rw [if_pos hk, if_pos (by omega), if_pos hk, ih (i + 1) _ (by omega) (by simp; omega), List.append_assoc]
   rfl
  rw [if_neg hk, if_pos (by omega), if_neg hk, ih (i + 1) _ (by omega) (by simp; omega), List.append_assoc]
  rfl
theorem Qca (l : List Pt) (d lo hi : Int) (k : Nat) (hk : 1000 ≤ k) : Qan.f k l d lo hi = some (ShiftS l d lo hi) := by
 obtain ⟨k, rfl⟩ : ∃ m, k = m + 1 := ⟨k - 1, by omega⟩
 unfold Qan.f ShiftS
 rw [QbT l (k + 1) (by omega), Option.bind_some]
 simp only [Qan.j0, QbW, Option.bind_some, decide_eq_true_eq]
 by_cases h : chkS l = 0
 ·rw [if_pos h, if_pos h]
  have hl := (Qbf h).len
  have L : Qan.l0 k d lo hi [] l (l.length : Int) 0 = some (l.map (shiftP d lo hi), 0) := by
   obtain ⟨m, rfl⟩ : ∃ m, k = l.length + 1 + m := ⟨k - l.length - 1, by omega⟩
   exact Qdz l (by omega) d lo hi m (by omega) l.length 0 [] (by omega) (Nat.le_refl _)
  by_cases h1 : QaO d
  ·rw [if_pos h1, if_pos h1]
   by_cases h2 : lo > hi
   ·rw [if_pos h2, if_pos trivial, if_pos (Or.inl h2)]
   rw [if_neg h2]
   by_cases h3 : QaO lo
   ·rw [if_pos h3]
    by_cases h4 : QaO hi
    ·rw [decide_eq_true h4, if_neg (by simp), if_neg (by simp [h3, h4]; omega), L]
    rw [decide_eq_false h4, if_pos (by simp), if_pos (Or.inr (Or.inr h4))]
   rw [if_neg h3, if_pos trivial, if_pos (Or.inr (Or.inl h3))]
  rw [if_neg h1, if_neg h1]
 rw [if_neg h, if_neg h]
theorem Qdy (n : Int) : QaE.f n = some (decide (QaO n)) := QbW n
theorem QdS (n lo hi : Int) (h : lo ≤ hi) : mn (mx n lo) hi = clampS n lo hi := by
 unfold mn mx clampS
 repeat' split
 all_goals omega
theorem Qdf (l : List Pt) (hl : l.length ≤ 1000) (d lo hi : Int) (hlh : lo ≤ hi) (m : Nat) : ∀ (q i : Nat) (out : List Pt), i + q = l.length → out.length ≤ i → Qaf.l0 (q + 1 + m) l d lo hi out (i : Int) = some (out ++ (l.drop i).map (shiftP d lo hi), 0) := by
 intro q
 induction q with
 | zero =>
  intro i out hi ho
  rw [show 0 + 1 + m = m + 1 by omega, Qaf.l0, if_neg (by omega), List.drop_eq_nil_of_le (by omega), List.map_nil, List.append_nil]
 | succ q ih =>
  intro i out hi ho
  have hd := Qbq l i (by omega)
  rw [show q + 1 + 1 + m = (q + 1 + m) + 1 by omega, Qaf.l0, if_pos (by omega), if_pos (by omega), hd, IntWalk.wrap64_in ((i : Int) + 1) (by omega), show ((i : Int) + 1) = ((i + 1 : Nat) : Int) by omega, List.map_cons, QdS _ _ _ hlh]
  generalize rd_T56 l (i : Int) = p at *
  unfold shiftP
  by_cases hk : p.f2 = true
  ·rw [if_pos hk, if_pos (by omega), if_pos hk, ih (i + 1) _ (by omega) (by simp; omega), List.append_assoc]
   rfl
  rw [if_neg hk, if_pos (by omega), if_neg hk, ih (i + 1) _ (by omega) (by simp; omega), List.append_assoc]
  rfl
theorem QdO (l : List Pt) (d lo hi : Int) (k : Nat) (hk : 1000 ≤ k) : Qaf.f k l d lo hi = some (ShiftS l d lo hi) := by
 obtain ⟨k, rfl⟩ : ∃ m, k = m + 1 := ⟨k - 1, by omega⟩
 unfold Qaf.f ShiftS
 rw [QbI l (k + 1) (by omega), Option.bind_some]
 simp only [Qaf.j0, Qdy, Option.bind_some, decide_eq_true_eq]
 by_cases h : chkS l = 0
 ·rw [if_pos h, if_pos h]
  have hl := (Qbf h).len
  by_cases h1 : QaO d
  ·rw [if_pos h1, if_pos h1]
   by_cases h2 : lo > hi
   ·rw [if_pos h2, if_pos trivial, if_pos (Or.inl h2)]
   rw [if_neg h2]
   by_cases h3 : QaO lo
   ·rw [if_pos h3]
    by_cases h4 : QaO hi
    ·have L : Qaf.l0 k l d lo hi [] 0 = some (l.map (shiftP d lo hi), 0) := by
      obtain ⟨m, rfl⟩ : ∃ m, k = l.length + 1 + m := ⟨k - l.length - 1, by omega⟩
      exact Qdf l (by omega) d lo hi (by omega) m l.length 0 [] (by omega) (Nat.le_refl _)
     rw [decide_eq_true h4, if_neg (by simp), if_neg (by simp [h3, h4]; omega), L]
    rw [decide_eq_false h4, if_pos (by simp), if_pos (Or.inr (Or.inr h4))]
   rw [if_neg h3, if_pos trivial, if_pos (Or.inr (Or.inl h3))]
  rw [if_neg h1, if_neg h1]
 rw [if_neg h, if_neg h]
theorem QdP (l : List Pt) (hl : l.length ≤ 1000000) (m : Nat) : ∀ (d i : Nat), i + d = l.length → Qae.l0 (d + 1 + m) l l (i : Int) = some true := by
 intro d
 induction d with
 | zero => intro i hi; rw [show 0 + 1 + m = m + 1 by omega, Qae.l0, if_neg (by omega)]
 | succ d ih =>
  intro i hi
  rw [show d + 1 + 1 + m = (d + 1 + m) + 1 by omega, Qae.l0, if_pos (by omega), if_pos (by omega), if_pos (by omega), if_neg (by simp), IntWalk.wrap64_in ((i : Int) + 1) (by omega), show ((i : Int) + 1) = ((i + 1 : Nat) : Int) by omega, ih (i + 1) (by omega)]
theorem QbC (l : List Pt) (hl : l.length ≤ 1000) (k : Nat) (hk : 1001 ≤ k) : Qae.f k l l = some true := by
 unfold Qae.f
 rw [if_pos rfl]
 obtain ⟨m, rfl⟩ : ∃ m, k = l.length + 1 + m := ⟨k - l.length - 1, by omega⟩
 exact QdP l (by omega) m l.length 0 (by omega)
theorem QdA (n : Nat) (hn : n ≤ 1000) (m : Nat) : ∀ (d i : Nat) (l : List Pt), l.length = n → i + d = n → ∃ r, Qas.l0 (d + 1 + m) l (n : Int) (i : Int) = some r := by
 intro d
 induction d with
 | zero => intro i l hl hi; exact ⟨l, by rw [show 0 + 1 + m = m + 1 by omega, Qas.l0, if_neg (by omega)]⟩
 | succ d ih =>
  intro i l hl hi
  obtain ⟨r, hr⟩ := ih (i + 1) (l.set (i : Int).toNat ⟨-7, 0, false⟩) (by simp [hl]) (by omega)
  exact ⟨r, by rw [show d + 1 + 1 + m = (d + 1 + m) + 1 by omega, Qas.l0, if_pos (by omega), if_pos (by omega), if_pos (by omega), IntWalk.wrap64_in ((i : Int) + 1) (by omega), show ((i : Int) + 1) = ((i + 1 : Nat) : Int) by omega, hr]⟩
theorem Qc8 (l : List Pt) (hl : l.length ≤ 1000) (k : Nat) (hk : 1001 ≤ k) : ∃ r, Qas.f k l = some r := by
 obtain ⟨m, rfl⟩ : ∃ m, k = l.length + 1 + m := ⟨k - l.length - 1, by omega⟩
 exact QdA l.length hl m l.length 0 l rfl (by omega)
theorem goes19 (k : Nat) (hk : 3000 ≤ k) : Qag.f k = some true := by
 unfold Qag.f
 rw [Option.bind_some, At_eq _ _ _ k (by omega), Option.bind_some, At_eq _ _ _ k (by omega), Option.bind_some, At_eq _ _ _ k (by omega), Option.bind_some, Qb3 _ _ k hk, Option.bind_some]
 have e1 : AtS [⟨10, 100, true⟩, ⟨15, 0, false⟩, ⟨20, 121, true⟩] 5 5 = (100, 0) := by decide
 have e2 : AtS [⟨10, 100, true⟩, ⟨15, 0, false⟩, ⟨20, 121, true⟩] 15 5 = (110, 0) := by decide
 have e3 : AtS [⟨10, 100, true⟩, ⟨15, 0, false⟩, ⟨20, 121, true⟩] 30 5 = (121, 0) := by decide
 have e4 : FillS [⟨10, 100, true⟩, ⟨15, 0, false⟩, ⟨20, 121, true⟩] 5 = ([⟨10, 100, true⟩, ⟨15, 110, true⟩, ⟨20, 121, true⟩], 0) := by rfl
 rw [e1, e2, e3, e4]
 rfl
end Go.Proofs.Ytaembbndjpebhaa.Pr
