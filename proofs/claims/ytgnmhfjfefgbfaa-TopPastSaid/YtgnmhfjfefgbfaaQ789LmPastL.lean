/- TopPast: what a history's losses are. -/
import Derived.Test.YtgnmhfjfefgbfaaQ789LmPos
import Derived.Test.YtgnmhfjfefgbfaaQ789LmSums
import Derived.Test.YtgnmhfjfefgbfaaQ789LmTier
import Derived.Test.YtgnmhfjfefgbfaaQ789P0
import Derived.Test.YtgnmhfjfefgbfaaQ789P1
import Derived.Test.YtgnmhfjfefgbfaaQ789P2
namespace Go.Proofs.Ytgnmhfjfefgbfaa.Pr
open Go.RowKit Go.Proofs.Ytgnmhfjfefgbfaa.Pr Go.Proofs.YtgnmhfjfefgbfaaW.PrintWords Go.Proofs.YtgnmhfjfefgbfaaW.PrintLast Go.Proofs.YtgnmhfjfefgbfaaW.PrintMore
set_option linter.unusedVariables false
set_option linter.unusedSimpArgs false
theorem idxC (l : List Int) (hl : l.length ≤ 1073741824) : ∀ n i k : Nat, i + n = l.length → n + 1 ≤ k → ∃ r : Int, Qam.l0 k l (l.length : Int) (i : Int) = some r ∧ (r < 0 → ∀ x ∈ l.drop i, -68719476736 ≤ x ∧ x ≤ 68719476736) := by
 intro n
 induction n with
 | zero =>
  intro i k hi hk
  obtain ⟨k, rfl⟩ : ∃ m, k = m + 1 := ⟨k - 1, by omega⟩
  exact ⟨-1, by rw [Qam.l0, if_neg (by omega)], fun _ x hx => by rw [List.drop_eq_nil_of_le (by omega)] at hx; simp at hx⟩
 | succ n ih =>
  intro i k hi hk
  obtain ⟨k, rfl⟩ : ∃ m, k = m + 1 := ⟨k - 1, by omega⟩
  obtain ⟨r, h1, h2⟩ := ih (i + 1) k (by omega) (by omega)
  rw [Qam.l0, if_pos (by omega), if_pos (by omega), if_pos (by omega)]
  have hf : Qbe.f (rd l (i : Int)) = some (!decide (-68719476736 ≤ rd l (i : Int) ∧ rd l (i : Int) ≤ 68719476736)) := by
   unfold Qbe.f
   by_cases c : rd l (i : Int) < -68719476736
   ·rw [if_pos c, decide_eq_false (by omega)]; rfl
   rw [if_neg c]
   by_cases d : rd l (i : Int) > 68719476736
   ·rw [decide_eq_true d, decide_eq_false (by omega)]; rfl
   rw [decide_eq_false d, decide_eq_true (by omega)]; rfl
  rw [hf, Option.bind_some]
  by_cases c : -68719476736 ≤ rd l (i : Int) ∧ rd l (i : Int) ≤ 68719476736
  ·rw [decide_eq_true c, if_neg (by decide), QaS (by omega) (by omega)]
   refine ⟨r, h1, fun hr x hx => ?_⟩
   rw [QcT l i (by omega)] at hx
   rcases List.mem_cons.1 hx with rfl | hx
   ·exact c
   exact h2 hr x hx
  rw [decide_eq_false c, if_pos (show (!false) = true from rfl)]
  exact ⟨i, rfl, fun hr => by omega⟩
def dayOk (s : Nat) (d : List Int) : Prop := d.length = s ∧ ∀ x ∈ d, -68719476736 ≤ x ∧ x ≤ 68719476736
theorem Qdw (l : List (List Int)) (i : Nat) (h : i < l.length) : l.drop i = rd_L4 l (i : Int) :: l.drop (i + 1) := by
 rw [List.drop_eq_getElem_cons h]
 unfold rd_L4
 rw [Int.toNat_natCast, List.getD_eq_getElem?_getD, List.getElem?_eq_getElem h]
 rfl
theorem hck_l1 (s : List Ser) (M : List (List Int)) (hs : s.length ≤ 128) (hM : M.length ≤ 512) : ∀ n i k : Nat, i + n = M.length → n + 140 ≤ k → ∃ r : Int, Qat.l1 k s M (M.length : Int) (i : Int) = some r ∧ (r = 0 → ∀ d ∈ M.drop i, dayOk s.length d) := by
 intro n
 induction n with
 | zero =>
  intro i k hi hk
  obtain ⟨k, rfl⟩ : ∃ m, k = m + 1 := ⟨k - 1, by omega⟩
  exact ⟨0, by rw [Qat.l1, if_neg (by omega)], fun _ x hx => by rw [List.drop_eq_nil_of_le (by omega)] at hx; simp at hx⟩
 | succ n ih =>
  intro i k hi hk
  obtain ⟨k, rfl⟩ : ∃ m, k = m + 1 := ⟨k - 1, by omega⟩
  obtain ⟨r, h1, h2⟩ := ih (i + 1) k (by omega) (by omega)
  rw [Qat.l1, if_pos (by omega), if_pos (by omega), if_pos (by omega)]
  by_cases c : ((rd_L4 M (i : Int)).length : Int) = (s.length : Int)
  ·rw [if_pos c]
   obtain ⟨q, q1, q2⟩ := idxC (rd_L4 M (i : Int)) (by omega) _ 0 k (Nat.zero_add _) (by omega)
   rw [show ((0 : Nat) : Int) = 0 from rfl] at q1
   rw [List.drop_zero] at q2
   have hc : Qaw.f k (rd_L4 M (i : Int)) = some (decide (q ≥ 0)) := by
    unfold Qaw.f Qam.f
    rw [q1]; rfl
   rw [hc, Option.bind_some]
   by_cases e : q ≥ 0
   ·rw [decide_eq_true e, if_pos rfl]
    exact ⟨3, rfl, fun h => absurd h (by decide)⟩
   rw [decide_eq_false e, if_neg (by decide), QaS (by omega) (by omega)]
   refine ⟨r, h1, fun hr x hx => ?_⟩
   rw [Qdw M i (by omega)] at hx
   rcases List.mem_cons.1 hx with rfl | hx
   ·exact ⟨by omega, q2 (by omega)⟩
   exact h2 hr x hx
  rw [if_neg c]
  exact ⟨27, rfl, fun h => absurd h (by decide)⟩
theorem hck_l0 (s : List Ser) (M : List (List Int)) (hs : s.length ≤ 128) (hM : M.length ≤ 512) : ∀ n i k : Nat, i + n = s.length + 1 → 1 ≤ i → n + 800 ≤ k → ∃ r : Int, Qat.l0 k s M (i : Int) = some r ∧ (r = 0 → ∀ d ∈ M, dayOk s.length d) := by
 intro n
 induction n with
 | zero =>
  intro i k hi h1 hk
  obtain ⟨k, rfl⟩ : ∃ m, k = m + 1 := ⟨k - 1, by omega⟩
  rw [Qat.l0, if_neg (by omega)]
  have := hck_l1 s M hs hM M.length 0 k (by omega) (by omega)
  rw [List.drop_zero] at this
  exact this
 | succ n ih =>
  intro i k hi h1 hk
  obtain ⟨k, rfl⟩ : ∃ m, k = m + 1 := ⟨k - 1, by omega⟩
  by_cases hlt : i < s.length
  ·have e : wrap64 ((i : Int) - 1) = ((i - 1 : Nat) : Int) := by rw [QaS (by omega) (by omega)]; omega
   rw [Qat.l0, if_pos (by omega), e, if_pos (by omega), if_pos (by omega), if_pos (by omega), cmp_eq, Option.bind_some]
   split
   ·exact ⟨19, rfl, fun h => absurd h (by decide)⟩
   rw [QaS (by omega) (by omega)]
   exact ih (i + 1) k (by omega) (by omega) (by omega)
  rw [Qat.l0, if_neg (by omega)]
  have := hck_l1 s M hs hM M.length 0 k (by omega) (by omega)
  rw [List.drop_zero] at this
  exact this
theorem hck_ex (s : List Ser) (M : List (List Int)) (k : Nat) (hk : 1000 ≤ k) : ∃ r : Int, Qat.f k s M = some r ∧ (r = 0 → s.length ≤ 128 ∧ M.length ≤ 512 ∧ ∀ d ∈ M, dayOk s.length d) := by
 obtain ⟨k, rfl⟩ : ∃ m, k = m + 1 := ⟨k - 1, by omega⟩
 have bad : Qat.j0 (k + 1) s M true = some 8 := by rw [Qat.j0, if_pos rfl]
 have bad' : ∃ r : Int, some (8 : Int) = some r ∧ (r = 0 → s.length ≤ 128 ∧ M.length ≤ 512 ∧ ∀ d ∈ M, dayOk s.length d) := ⟨8, rfl, fun h => absurd h (by decide)⟩
 unfold Qat.f
 by_cases c1 : (s.length : Int) > 128
 ·rw [if_pos c1, bad]; exact bad'
 rw [if_neg c1]
 by_cases c2 : (M.length : Int) < 1
 ·rw [if_pos c2, bad]; exact bad'
 rw [if_neg c2]
 by_cases c3 : (M.length : Int) > 512
 ·rw [decide_eq_true c3, bad]; exact bad'
 rw [decide_eq_false c3, Qat.j0, if_neg (by decide)]
 by_cases hz : s.length = 0
 ·obtain ⟨r, r1, r2⟩ := hck_l0 s M (by omega) (by omega) 0 1 k (by omega) (by omega) (by omega)
  exact ⟨r, r1, fun h => ⟨by omega, by omega, r2 h⟩⟩
 obtain ⟨r, r1, r2⟩ := hck_l0 s M (by omega) (by omega) s.length 1 k (by omega) (by omega) (by omega)
 exact ⟨r, r1, fun h => ⟨by omega, by omega, r2 h⟩⟩
def eqS (a : Ser) (q0 : ByteArray) (q1 q2 q3 : Int) : Bool := (a.f0.toList == q0.toList && (a.f1 == q1 && (a.f2 == q2 && a.f3 == q3)))
def plcL (q0 : ByteArray) (q1 q2 q3 : Int) : List Ser → Int → Int × Bool
 | [], _ => (0, false)
 | x :: t, i => if eqS x q0 q1 q2 q3 = true then (i, true) else plcL q0 q1 q2 q3 t (i + 1)
theorem Qdx (l : List Ser) (i : Nat) (h : i < l.length) : l.drop i = rd_T69 l (i : Int) :: l.drop (i + 1) := by
 rw [List.drop_eq_getElem_cons h]
 unfold rd_T69
 rw [Int.toNat_natCast, List.getD_eq_getElem?_getD, List.getElem?_eq_getElem h]
 rfl
theorem Qdt (s : List Ser) (hs : s.length ≤ 128) (q0 : ByteArray) (q1 q2 q3 : Int) : ∀ n i k : Nat, i + n = s.length → n + 1 ≤ k → QaE.l0 k s (s.length : Int) (i : Int) q0 q1 q2 q3 = some (plcL q0 q1 q2 q3 (s.drop i) (i : Int)) := by
 intro n
 induction n with
 | zero =>
  intro i k hi hk
  obtain ⟨k, rfl⟩ : ∃ m, k = m + 1 := ⟨k - 1, by omega⟩
  rw [QaE.l0, if_neg (by omega), List.drop_eq_nil_of_le (by omega), plcL]
 | succ n ih =>
  intro i k hi hk
  obtain ⟨k, rfl⟩ : ∃ m, k = m + 1 := ⟨k - 1, by omega⟩
  have IH := ih (i + 1) k (by omega) (by omega)
  rw [QaE.l0, if_pos (by omega), if_pos (by omega), if_pos (by omega), Qdx s i (by omega), plcL]
  change (if eqS (rd_T69 s (i : Int)) q0 q1 q2 q3 = true then _ else _) = _
  split
  ·rfl
  rw [QaS (by omega) (by omega)]; exact IH
theorem plc_eq (s : List Ser) (hs : s.length ≤ 128) (q0 : ByteArray) (q1 q2 q3 : Int) (k : Nat) (hk : 200 ≤ k) : QaE.f k s q0 q1 q2 q3 = some (plcL q0 q1 q2 q3 s 0) := by
 have := Qdt s hs q0 q1 q2 q3 s.length 0 k (by omega) (by omega)
 rw [List.drop_zero] at this
 exact this
theorem plc_in (q0 : ByteArray) (q1 q2 q3 : Int) : ∀ (s : List Ser) (i : Int), (plcL q0 q1 q2 q3 s i).2 = true → i ≤ (plcL q0 q1 q2 q3 s i).1 ∧ (plcL q0 q1 q2 q3 s i).1 < i + s.length
 | [], i, h => by simp [plcL] at h
 | x :: t, i, h => by
  unfold plcL at h ⊢
  split
  ·simp only [List.length_cons]; push_cast; omega
  rename_i c
  rw [if_neg c] at h
  have := plc_in q0 q1 q2 q3 t (i + 1) h
  simp only [List.length_cons]; push_cast; omega
def plcP (s : List Ser) (p : Posn) : Int × Bool := plcL p.f0.f0 p.f0.f1 p.f0.f2 p.f0.f3 s 0
def lossP (s : List Ser) (d : List Int) (p : Posn) : Int := -(p.f1 - p.f2) * rd d (plcP s p).1
theorem QbN (l : List Int) (i : Nat) (v : Int) (h : i < l.length) : (l.set i v).take (i + 1) = l.take i ++ [v] := by
 rw [List.take_succ_eq_append_getElem (by simpa using h), List.getElem_set_self, List.take_set, List.set_eq_of_length_le (by simp; omega)]
theorem los_l0 (s : List Ser) (hs : s.length ≤ 128) (M : List (List Int)) (l : List Posn) (hl : l.length ≤ 128) : ∀ n i k : Nat, i + n = l.length → n + 201 ≤ k → ∀ P : List Int, P.length = l.length → P.take i = (l.take i).map (fun p => (plcP s p).1) → (∀ p ∈ l.take i, (plcP s p).2 = true) →
  Qao.l0 k s M [] l (l.length : Int) (i : Int) l P = some ([], 11) ∨ (Qao.l0 k s M [] l (l.length : Int) (i : Int) l P = Qao.l1 (k - n - 1) [] M (M.length : Int) 0 l (l.map fun p => (plcP s p).1) ∧ ∀ p ∈ l, (plcP s p).2 = true) := by
 intro n
 induction n with
 | zero =>
  intro i k hi hk P hP h1 h2
  obtain ⟨k, rfl⟩ : ∃ m, k = m + 1 := ⟨k - 1, by omega⟩
  obtain rfl : i = l.length := by omega
  rw [List.take_length] at h1 h2
  rw [← hP, List.take_length] at h1
  right
  refine ⟨?_, h2⟩
  rw [Qao.l0, if_neg (by omega), h1]
  rfl
 | succ n ih =>
  intro i k hi hk P hP h1 h2
  obtain ⟨k, rfl⟩ : ∃ m, k = m + 1 := ⟨k - 1, by omega⟩
  have hlt : i < l.length := by omega
  rw [Qao.l0, if_pos (by omega), if_pos (by omega), if_pos (by omega), plc_eq s hs _ _ _ _ k (by omega), Option.bind_some]
  have tk : l.take (i + 1) = l.take i ++ [rd_T71 l (i : Int)] := by
   rw [List.take_succ_eq_append_getElem hlt]
   unfold rd_T71
   rw [Int.toNat_natCast, List.getD_eq_getElem?_getD, List.getElem?_eq_getElem hlt]
   rfl
  change (if (plcP s (rd_T71 l (i : Int))).2 = true then _ else _) = _ ∨ (if (plcP s (rd_T71 l (i : Int))).2 = true then _ else _) = _ ∧ _
  by_cases c : (plcP s (rd_T71 l (i : Int))).2 = true
  ·rw [if_pos c, if_pos (by omega), QaS (by omega) (by omega), Int.toNat_natCast]
   have := ih (i + 1) k (by omega) (by omega) (P.set i (plcP s (rd_T71 l (i : Int))).1) (by simpa using hP) (by rw [QbN P i _ (by omega), h1, tk]; simp) (fun p hp => by
    rw [tk, List.mem_append] at hp
    rcases hp with hp | hp
    ·exact h2 p hp
    rw [List.mem_singleton] at hp; rw [hp]; exact c)
   rw [show k + 1 - (n + 1) - 1 = k - n - 1 by omega]
   exact this
  left; rw [if_neg c]
theorem lossW (s : List Ser) (d : List Int) (p : Posn) (hp : lotsOk p) (hd : dayOk s.length d) (hb : (plcP s p).2 = true) : wrap64 (wrap64 (-(wrap64 (p.f1 - p.f2))) * rd d (plcP s p).1) = lossP s d p ∧ -72057594037927936 ≤ lossP s d p ∧ lossP s d p ≤ 72057594037927936 := by
 obtain ⟨a1, a2, _⟩ := hp
 have hi := plc_in _ _ _ _ s 0 hb
 obtain ⟨j, hj⟩ : ∃ j : Nat, (plcP s p).1 = (j : Int) := ⟨(plcP s p).1.toNat, by have := hi.1; unfold plcP; omega⟩
 have hjl : j < d.length := by have := hi.2; rw [hd.1]; unfold plcP at hj; omega
 have hx := hd.2 (rd d (j : Int)) (by rw [rd_at d j hjl]; exact List.getElem_mem _)
 unfold lossP
 rw [hj, IntWalk.wrap64_in (p.f1 - p.f2) (by omega), IntWalk.wrap64_in (-(p.f1 - p.f2)) (by omega)]
 have b : -72057594037927936 ≤ -(p.f1 - p.f2) * rd d (j : Int) ∧ -(p.f1 - p.f2) * rd d (j : Int) ≤ 72057594037927936 := by
  have h := Int.natAbs_mul (-(p.f1 - p.f2)) (rd d (j : Int))
  have h2 : (-(p.f1 - p.f2)).natAbs * (rd d (j : Int)).natAbs ≤ 1048576 * 68719476736 := Nat.mul_le_mul (by omega) (by omega)
  omega
 exact ⟨IntWalk.wrap64_in _ (by omega), b⟩
theorem los_l2 (s : List Ser) (M : List (List Int)) (l : List Posn) (hl : l.length ≤ 128) (hg : ∀ p ∈ l, lotsOk p) (hb : ∀ p ∈ l, (plcP s p).2 = true) (d : List Int) (hd : dayOk s.length d) (x6 : List Int) (j : Int) : ∀ n i k : Nat, i + n = l.length → n + 1 ≤ k → ∀ P : List Int, P.length = l.length → P.take i = (l.take i).map (lossP s d) →
  Qao.l2 k x6 P M (M.length : Int) j (l.length : Int) (i : Int) l (l.map fun p => (plcP s p).1) d = Qao.l2 (k - n) x6 (l.map (lossP s d)) M (M.length : Int) j (l.length : Int) (l.length : Int) l (l.map fun p => (plcP s p).1) d := by
 intro n
 induction n with
 | zero =>
  intro i k hi hk P hP h1
  obtain rfl : i = l.length := by omega
  rw [List.take_length] at h1
  rw [← hP, List.take_length] at h1
  rw [h1, Nat.sub_zero]
 | succ n ih =>
  intro i k hi hk P hP h1
  obtain ⟨k, rfl⟩ : ∃ m, k = m + 1 := ⟨k - 1, by omega⟩
  have hlt : i < l.length := by omega
  have tk : l.take (i + 1) = l.take i ++ [rd_T71 l (i : Int)] := by
   rw [List.take_succ_eq_append_getElem hlt]
   unfold rd_T71
   rw [Int.toNat_natCast, List.getD_eq_getElem?_getD, List.getElem?_eq_getElem hlt]
   rfl
  have hm : rd_T71 l (i : Int) ∈ l := List.mem_of_mem_take (i := i + 1) (by rw [tk]; simp)
  have hr : rd (l.map fun p => (plcP s p).1) (i : Int) = (plcP s (rd_T71 l (i : Int))).1 := by
   rw [rd_at _ i (by simpa using hlt), List.getElem_map]
   unfold rd_T71
   rw [Int.toNat_natCast, List.getD_eq_getElem?_getD, List.getElem?_eq_getElem hlt]
   rfl
  have hpi := plc_in _ _ _ _ s 0 (hb _ hm)
  change 0 ≤ (plcP s _).1 ∧ (plcP s _).1 < _ at hpi
  have hdl := hd.1
  obtain ⟨w1, _⟩ := lossW s d _ (hg _ hm) hd (hb _ hm)
  have nt : ∀ q : Posn, Qbg.f q.f0.f0 q.f0.f1 q.f0.f2 q.f0.f3 q.f1 q.f2 = some (wrap64 (q.f1 - q.f2)) := fun _ => rfl
  conv => lhs; rw [Qao.l2]
  rw [if_pos (by omega), if_pos (by omega), if_pos (by omega), nt, Option.bind_some, hr, if_pos (by rw [List.length_map]; omega), if_pos (by omega), if_pos (by omega), if_pos (by omega), w1, QaS (by omega) (by omega), Int.toNat_natCast, show k + 1 - (n + 1) = k - n by omega]
  exact ih (i + 1) k (by omega) (by omega) _ (by simpa using hP) (by rw [QbN P i _ (by omega), h1, tk]; simp)
theorem los_l1 (s : List Ser) (hs : s.length ≤ 128) (M : List (List Int)) (hM : M.length ≤ 512) (hM2 : ∀ d ∈ M, dayOk s.length d) (l : List Posn) (hl : l.length ≤ 128) (hg : ∀ p ∈ l, lotsOk p) (hb : ∀ p ∈ l, (plcP s p).2 = true) : ∀ n i k : Nat, i + n = M.length → n * 131 + 600 ≤ k → ∀ x6 : List Int, x6 = (M.take i).map (fun d => (l.map (lossP s d)).sum) → (∀ x ∈ x6, mdFits x) →
  ∃ (r : List Int) (e : Int), Qao.l1 k x6 M (M.length : Int) (i : Int) l (l.map fun p => (plcP s p).1) = some (r, e) ∧ (e = 0 → r = M.map (fun d => (l.map (lossP s d)).sum) ∧ ∀ x ∈ r, mdFits x) := by
 intro n
 induction n with
 | zero =>
  intro i k hi hk x6 h1 h2
  obtain ⟨k, rfl⟩ : ∃ m, k = m + 1 := ⟨k - 1, by omega⟩
  obtain rfl : i = M.length := by omega
  rw [List.take_length] at h1
  exact ⟨x6, 0, by rw [Qao.l1, if_neg (by omega)], fun _ => ⟨h1, h2⟩⟩
 | succ n ih =>
  intro i k hi hk x6 h1 h2
  obtain ⟨k, rfl⟩ : ∃ m, k = m + 1 := ⟨k - 1, by omega⟩
  have hlt : i < M.length := by omega
  have tk : M.take (i + 1) = M.take i ++ [rd_L4 M (i : Int)] := by
   rw [List.take_succ_eq_append_getElem hlt]
   unfold rd_L4
   rw [Int.toNat_natCast, List.getD_eq_getElem?_getD, List.getElem?_eq_getElem hlt]
   rfl
  have hm : rd_L4 M (i : Int) ∈ M := List.mem_of_mem_take (i := i + 1) (by rw [tk]; simp)
  have hd := hM2 _ hm
  rw [Qao.l1, if_pos (by omega), if_pos (by omega), if_pos (by omega), if_pos (by omega), if_pos (by omega), Int.toNat_natCast]
  have hx6 : x6.length ≤ 512 := by rw [h1, List.length_map, List.length_take]; omega
  rw [show (0 : Int) = ((0 : Nat) : Int) from rfl, los_l2 s M l hl hg hb _ hd x6 (i : Int) l.length 0 k (by omega) (by omega) _ (by simp) (by simp)]
  obtain ⟨k', hk'⟩ : ∃ m, k - l.length = m + 1 := ⟨k - l.length - 1, by omega⟩
  rw [hk', Qao.l2, if_neg (by omega), sum_eq _ (by rw [List.length_map]; omega) k' (by rw [List.length_map]; omega), Option.bind_some]
  generalize hS : sumS (l.map (lossP s (rd_L4 M (i : Int)))) = S
  by_cases c : S.2 = 0
  ·rw [if_pos c, if_pos (by omega), QaS (by omega) (by omega)]
   have hS1 : S.1 = (l.map (lossP s (rd_L4 M (i : Int)))).sum ∧ mdFits S.1 := by
    rw [← hS] at c ⊢
    unfold sumS at c ⊢
    split at c
    ·rename_i q1
     rw [if_pos q1]
     split at c
     ·rename_i q2
      rw [if_pos q2]
      exact ⟨rfl, q2⟩
     exact absurd c (by decide)
    exact absurd c (by decide)
   refine ih (i + 1) k' (by omega) (by omega) (x6 ++ [S.1]) (by rw [h1, tk, hS1.1]; simp) (fun x hx => ?_)
   rcases List.mem_append.1 hx with hx | hx
   ·exact h2 x hx
   rw [List.mem_singleton] at hx; rw [hx]; exact hS1.2
  rw [if_neg c]
  exact ⟨[], 3, rfl, fun h => absurd h (by decide)⟩
theorem los_ex (s : List Ser) (M : List (List Int)) (l : List Posn) (k : Nat) (hk : 90000 ≤ k) : ∃ (r : List Int) (e : Int), Qao.f k l s M = some (r, e) ∧ (e = 0 → (M.length ≤ 512 ∧ QbC l) ∧ r = M.map (fun d => (l.map (lossP s d)).sum) ∧ ∀ x ∈ r, mdFits x) := by
 unfold Qao.f
 obtain ⟨c, c1, c2⟩ := hck_ex s M k (by omega)
 rw [c1, Option.bind_some]
 by_cases h0 : c = 0
 ·obtain ⟨hs, hM, hd⟩ := c2 h0
  rw [if_pos h0, QbD l k (by omega), Option.bind_some]
  by_cases h1 : chk l = 0
  ·have G := (Qb1 l).1 h1
   rw [if_pos h1, if_pos (by omega), if_pos (by have := G.1; omega), Int.toNat_natCast]
   have := los_l0 s hs M l G.1 l.length 0 k (by omega) (by have := G.1; omega) (List.replicate l.length 0) (by simp) (by simp) (by simp)
   rw [show ((0 : Nat) : Int) = 0 from rfl] at this
   rcases this with h | ⟨h, hb⟩
   ·exact ⟨[], 11, h, fun h => absurd h (by decide)⟩
   rw [h]
   obtain ⟨r, e, r1, r2⟩ := los_l1 s hs M hM hd l G.1 G.2.2 hb M.length 0 (k - l.length - 1) (by omega) (by have := G.1; omega) [] (by simp) (by simp)
   exact ⟨r, e, r1, fun he => ⟨⟨hM, G⟩, r2 he⟩⟩
  rw [if_neg h1]
  exact ⟨[], chk l, rfl, fun h => absurd h h1⟩
 rw [if_neg h0]
 exact ⟨[], c, rfl, fun h => absurd h h0⟩
end Go.Proofs.Ytgnmhfjfefgbfaa.Pr
