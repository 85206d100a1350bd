/- Marks: a quote's check, and that a mark is a price that may be. -/
import Derived.Test.YtaembbndjpebhaaQ974LmCents
import Derived.Test.YtaembbndjpebhaaQ974LmCurveChk
import Derived.Test.YtaembbndjpebhaaQ974LmCurvePr
import Derived.Test.YtaembbndjpebhaaQ974LmPriceP
import Derived.Test.YtaembbndjpebhaaQ974LmPriceT
import Derived.Test.YtaembbndjpebhaaQ974P0
import Derived.Test.YtaembbndjpebhaaQ974P1
import Derived.Test.YtaembbndjpebhaaQ974P3
import Derived.Test.YtaembbndjpebhaaQ974P4
namespace Go.Proofs.Ytaembbndjpebhaa.Pr
open Go.RowKit Go.Proofs.Ytaembbndjpebhaa.Pr Go.Proofs.YtaembbndjpebhaaW.PrintWords Go.Proofs.YtaembbndjpebhaaW.PrintLast Go.Proofs.YtaembbndjpebhaaW.PrintMore
set_option linter.unusedVariables false
set_option linter.unusedSimpArgs false
theorem Qd6 (l : List Int) (i : Nat) (h : i < l.length) : l.drop i = rd l (i : Int) :: l.drop (i + 1) := by
 rw [List.drop_eq_getElem_cons h, ci_rd l i h]
theorem Qd2 (lt : List Tk) (hl : lt.length ≤ 1024) (q1 q2 q3 q4 q5 q6 q7 : Int) (m : Nat) : ∀ (d i : Nat) (out : List Int), i + d = lt.length → out.length ≤ i →
  QaB.l0 (d + 1 + m) out lt (lt.length : Int) (i : Int) lt q1 q2 q3 q4 q5 q6 q7 = QaB.l1 m (out ++ (lt.drop i).map (fun t => t.f2)) [q4, q5] 2 0 lt q1 q2 q3 q4 q5 q6 q7 := by
 intro d
 induction d with
 | zero =>
  intro i out hi ho
  rw [show 0 + 1 + m = m + 1 by omega, QaB.l0, if_neg (by omega), List.drop_eq_nil_of_le (by omega), List.map_nil, List.append_nil]
  rfl
 | succ d ih =>
  intro i out hi ho
  rw [show d + 1 + 1 + m = (d + 1 + m) + 1 by omega, QaB.l0, if_pos (by omega), if_pos (by omega), if_pos (by omega), if_pos (by omega), IntWalk.wrap64_in ((i : Int) + 1) (by omega), show ((i : Int) + 1) = ((i + 1 : Nat) : Int) by omega, ih (i + 1) _ (by omega) (by simp; omega), Qch lt i (by omega), List.map_cons, List.append_assoc]
  rfl
def extraM (x : Int) : List Int := if x = 0 then [] else [x]
theorem mpr_eq (lt : List Tk) (hl : lt.length ≤ 1024) (q1 q2 q3 q4 q5 q6 q7 : Int) (k : Nat) (hk : 1100 ≤ k) : QaB.f k lt q1 q2 q3 q4 q5 q6 q7 = some (((lt.map (fun t => t.f2) ++ extraM q4) ++ extraM q5) ++ [q6]) := by
 obtain ⟨m, rfl⟩ : ∃ m, k = lt.length + 1 + (m + 1 + 1 + 1) := ⟨k - lt.length - 4, by omega⟩
 have h1 := Qd2 lt hl q1 q2 q3 q4 q5 q6 q7 (m + 1 + 1 + 1) lt.length 0 [] (by omega) (Nat.le_refl _)
 unfold QaB.f
 rw [show (0 : Int) = ((0 : Nat) : Int) from rfl, h1, List.drop_zero, List.nil_append]
 have hlen : (lt.map (fun t => t.f2)).length ≤ 1024 := by simpa using hl
 generalize lt.map (fun t => t.f2) = out at *
 have r0 : rd [q4, q5] 0 = q4 := rfl
 have r1 : rd [q4, q5] 1 = q5 := rfl
 have st : ∀ out : List Int, out.length ≤ 2000 → QaB.l1 (m + 1) out [q4, q5] 2 2 lt q1 q2 q3 q4 q5 q6 q7 = some (out ++ [q6]) := by
  intro out ho
  rw [QaB.l1, if_neg (by omega), if_pos (by omega)]
 have s1 : ∀ out : List Int, out.length ≤ 1900 → QaB.l1 (m + 1 + 1) out [q4, q5] 2 1 lt q1 q2 q3 q4 q5 q6 q7 = some ((out ++ extraM q5) ++ [q6]) := by
  intro out ho
  rw [QaB.l1, if_pos (by omega), if_pos (by omega), if_pos (by simp), r1, show wrap64 ((1 : Int) + 1) = 2 from IntWalk.wrap64_in _ (by omega)]
  unfold extraM
  by_cases c : q5 = 0
  ·rw [if_pos c, if_pos c, st out (by omega), List.append_nil]
  rw [if_neg c, if_neg c, if_pos (by omega), st _ (by simp; omega)]
 rw [QaB.l1, if_pos (by omega), if_pos (by omega), if_pos (by simp), r0, show wrap64 ((0 : Int) + 1) = 1 from IntWalk.wrap64_in _ (by omega)]
 by_cases c : q4 = 0
 ·rw [if_pos c, s1 out (by omega)]
  unfold extraM
  rw [if_pos c, List.append_nil]
 rw [if_neg c, if_pos (by omega), s1 _ (by simp; omega)]
 unfold extraM
 rw [if_neg c]
theorem Qd1 (s : ByteArray) (cu mu ti lo hi : Int) (b : Bool) (lt : List Tk) (q1 q2 q3 q4 q5 q6 q7 : Int) (x : List Int) (hx : x.length ≤ 2000) (m : Nat) (hm : 40 ≤ m) : ∀ (d i : Nat), i + d = x.length →
  ∃ e, Qaz.l0 (d + 1 + m) x (x.length : Int) (i : Int) s cu mu ti lo hi b lt q1 q2 q3 q4 q5 q6 q7 = some e ∧ (e = 0 → ∀ n ∈ x.drop i, validP ti lo hi n) := by
 intro d
 induction d with
 | zero =>
  intro i hin
  rw [show 0 + 1 + m = m + 1 by omega, Qaz.l0, if_neg (by omega), List.drop_eq_nil_of_le (by omega), Qcb]
  simp only [Option.bind_some]
  have hv : ∀ n ∈ ([] : List Int), validP ti lo hi n := fun n hn => by cases hn
  repeat' split
  all_goals exact ⟨_, rfl, fun _ => hv⟩
 | succ d ih =>
  intro i hin
  obtain ⟨r, hr, hv⟩ := Qcx s cu mu ti lo hi b (rd x (i : Int)) (d + 1 + m) (by omega)
  obtain ⟨e, he, hn⟩ := ih (i + 1) (by omega)
  rw [show d + 1 + 1 + m = (d + 1 + m) + 1 by omega, Qaz.l0, if_pos (by omega), if_pos (by omega), if_pos (by omega), hr, Option.bind_some, IntWalk.wrap64_in ((i : Int) + 1) (by omega), show ((i : Int) + 1) = ((i + 1 : Nat) : Int) by omega, he, Qd6 x i (by omega)]
  by_cases c : r = 0
  ·rw [if_pos c]
   refine ⟨e, rfl, fun h0 n hm => ?_⟩
   rcases List.mem_cons.1 hm with rfl | hm
   ·exact hv c
   exact hn h0 n hm
  rw [if_neg c]
  exact ⟨r, rfl, fun h0 => absurd h0 c⟩
structure QOk (s : ByteArray) (cu mu ti lo hi : Int) (b : Bool) (lt : List Tk) (q3 q4 q5 q6 : Int) : Prop where
 prod : pchk s cu mu ti lo hi b = 0
 tape : tchkS lt = 0
 least : 1 ≤ q3
 ticks : ∀ t ∈ lt, validP ti lo hi t.f2
 bid : q4 ≠ 0 → validP ti lo hi q4
 ask : q5 ≠ 0 → validP ti lo hi q5
theorem Qek (s : ByteArray) (cu mu ti lo hi : Int) (b : Bool) (lt : List Tk) (q1 q2 q3 q4 q5 q6 q7 : Int) (k : Nat) (hk : 4000 ≤ k) :
  ∃ e, Qaz.f k s cu mu ti lo hi b lt q1 q2 q3 q4 q5 q6 q7 = some e ∧ (e = 0 → QOk s cu mu ti lo hi b lt q3 q4 q5 q6) := by
 obtain ⟨k, rfl⟩ : ∃ m, k = m + 1 := ⟨k - 1, by omega⟩
 have t2 : ∃ e, Qaz.j0 (k + 1) true s cu mu ti lo hi b lt q1 q2 q3 q4 q5 q6 q7 = some e ∧ (e = 0 → QOk s cu mu ti lo hi b lt q3 q4 q5 q6) := ⟨2, by rw [Qaz.j0, if_pos rfl], fun h => by cases h⟩
 unfold Qaz.f
 rw [QbU _ _ _ _ _ _ _ (k + 1) (by omega), Option.bind_some]
 by_cases h : pchk s cu mu ti lo hi b = 0
 ·rw [if_pos h, QcU lt (k + 1) (by omega), Option.bind_some]
  by_cases h2 : tchkS lt = 0
  ·have hl := (Qb8 h2).1
   have fl : ∃ e, Qaz.j0 (k + 1) false s cu mu ti lo hi b lt q1 q2 q3 q4 q5 q6 q7 = some e ∧ (e = 0 → QOk s cu mu ti lo hi b lt q3 q4 q5 q6) := by
    rw [Qaz.j0, if_neg (show ¬ (false = true) by simp)]
    by_cases c1 : q3 < 1
    ·rw [if_pos c1]; exact ⟨18, rfl, fun h => by cases h⟩
    rw [if_neg c1]
    by_cases c2 : q3 > 1048576
    ·rw [if_pos c2]; exact ⟨18, rfl, fun h => by cases h⟩
    rw [if_neg c2, mpr_eq lt hl q1 q2 q3 q4 q5 q6 q7 k (by omega), Option.bind_some]
    have e1 : (extraM q4).length ≤ 1 := by unfold extraM; split <;> simp
    have e2 : (extraM q5).length ≤ 1 := by unfold extraM; split <;> simp
    have hx : (((lt.map (fun t => t.f2) ++ extraM q4) ++ extraM q5) ++ [q6]).length ≤ 2000 := by simp; omega
    have m4 : q4 ≠ 0 → q4 ∈ ((lt.map (fun t => t.f2) ++ extraM q4) ++ extraM q5) ++ [q6] := fun c => by unfold extraM; rw [if_neg c]; simp
    have m5 : q5 ≠ 0 → q5 ∈ ((lt.map (fun t => t.f2) ++ extraM q4) ++ extraM q5) ++ [q6] := fun c => by unfold extraM; rw [if_neg c]; simp
    have mt : ∀ t ∈ lt, t.f2 ∈ ((lt.map (fun t => t.f2) ++ extraM q4) ++ extraM q5) ++ [q6] := fun t ht => by simp only [List.mem_append]; exact .inl (.inl (.inl (List.mem_map_of_mem (f := fun t : Tk => t.f2) ht)))
    generalize ((lt.map (fun t => t.f2) ++ extraM q4) ++ extraM q5) ++ [q6] = x at *
    obtain ⟨m, rfl⟩ : ∃ m, k = x.length + 1 + m := ⟨k - x.length - 1, by omega⟩
    obtain ⟨e, he, hv⟩ := Qd1 s cu mu ti lo hi b lt q1 q2 q3 q4 q5 q6 q7 x hx m (by omega) x.length 0 (by omega)
    refine ⟨e, he, fun h0 => ?_⟩
    have hv := hv h0
    rw [List.drop_zero] at hv
    exact ⟨h, h2, by omega, fun t ht => hv _ (mt t ht), fun c => hv _ (m4 c), fun c => hv _ (m5 c)⟩
   rw [if_pos h2]
   by_cases c1 : q1 < 0
   ·rw [if_pos c1]; exact t2
   rw [if_neg c1]
   by_cases c2 : q1 > 86399
   ·rw [if_pos c2]; exact t2
   rw [if_neg c2]
   by_cases c3 : q2 < 0
   ·rw [if_pos c3]; exact t2
   rw [if_neg c3]
   by_cases c4 : q2 > 86399
   ·rw [if_pos c4]; exact t2
   rw [if_neg c4]
   by_cases c5 : q1 > q2
   ·rw [decide_eq_true c5]; exact t2
   rw [decide_eq_false c5]; exact fl
  rw [if_neg h2]; exact ⟨_, rfl, fun e => absurd e h2⟩
 rw [if_neg h]; exact ⟨_, rfl, fun e => absurd e h⟩
theorem r1_ok (l : List Tk) (least ti : Int) (h1 : 1 ≤ least) (ht : 1 ≤ ti) (ht' : ti ≤ 16777216) (k : Nat) (hk : 4000 ≤ k) : ∃ r, Qbs k l least ti = some r ∧ (r.2 = true → ti ∣ r.1) := by
 unfold Qbs
 rw [vol_eq l k (by omega), Option.bind_some]
 by_cases h : tchkS l = 0
 ·rw [if_pos h]
  dsimp only
  by_cases c : (l.map (fun t => t.f1)).sum < least
  ·rw [if_pos c]; exact ⟨_, rfl, fun h => by cases h⟩
  obtain ⟨n, hn, hd⟩ := Qer l h (by omega) ti ht ht' k (by omega)
  rw [if_neg c, hn]
  exact ⟨_, rfl, fun _ => hd⟩
 rw [if_neg h, if_pos (by show (0 : Int) < least; omega)]
 exact ⟨_, rfl, fun h => by cases h⟩
theorem r2_ok (bid ask ti : Int) (ht : 1 ≤ ti) (ht' : ti ≤ 16777216) (k : Nat) (hk : 10 ≤ k) : ∃ r, Qbt k bid ask ti = some r ∧ (r.2 = true → ti ∣ r.1) := by
 obtain ⟨k, rfl⟩ : ∃ m, k = m + 1 := ⟨k - 1, by omega⟩
 unfold Qbt QaY.f
 rw [QbD (fun b' => QaY.j0 (k + 1) bid ask ti b'), decide_eq_false (by omega), QaY.j0, if_neg (show ¬ (false = true) by simp), Qcb, Qcb, Option.bind_some]
 by_cases h1 : QaV bid
 ·rw [decide_eq_true h1, if_pos rfl, Option.bind_some]
  by_cases h2 : QaV ask
  ·rw [decide_eq_true h2, if_pos rfl]
   by_cases h3 : bid > ask
   ·rw [if_pos h3, Option.bind_some]; exact ⟨_, rfl, fun h => by simp at h⟩
   have a1 := h1.1; have a2 := h1.2; have a3 := h2.1; have a4 := h2.2
   obtain ⟨e1, e2⟩ := QcH (n := bid + ask) (D := 2 * ti) (s := ti) (q := 2) (by omega) (by omega) ht (by omega) rfl (by omega)
   rw [if_neg h3, IntWalk.wrap64_in (bid + ask) (by omega), IntWalk.wrap64_in (2 * ti) (by omega), e1, Option.bind_some, Option.bind_some, e2]
   exact ⟨_, rfl, fun _ => ⟨_, Int.mul_comm _ _⟩⟩
  rw [decide_eq_false h2, if_neg (show ¬ (false = true) by simp), Option.bind_some]; exact ⟨_, rfl, fun h => by simp at h⟩
 rw [decide_eq_false h1, if_neg (show ¬ (false = true) by simp), Option.bind_some]; exact ⟨_, rfl, fun h => by simp at h⟩
theorem r3_ok (lt : List Tk) (bid ask ti : Int) (hl : lt.length ≤ 1024) (hT : ∀ t ∈ lt, ti ∣ t.f2) (hB : bid ≠ 0 → ti ∣ bid) (hA : ask ≠ 0 → ti ∣ ask) : ∃ r, QbK lt bid ask = some r ∧ (r.2 = true → ti ∣ r.1) := by
 have mxd : ∀ x y : Int, ti ∣ x → ti ∣ y → ti ∣ mx x y := fun x y hx hy => by unfold mx; split <;> assumption
 have mnd : ∀ x y : Int, ti ∣ x → ti ∣ y → ti ∣ mn x y := fun x y hx hy => by unfold mn; split <;> assumption
 unfold QbK QbP.f
 by_cases c : (lt.length : Int) = 0
 ·rw [if_pos c, Option.bind_some]
  exact ⟨_, rfl, fun h => by cases h⟩
 rw [if_neg c, IntWalk.wrap64_in ((lt.length : Int) - 1) (by omega), if_pos (by omega), if_pos (by omega), Option.bind_some, show ((lt.length : Int) - 1) = ((lt.length - 1 : Nat) : Int) by omega]
 have hm : ti ∣ (Qaj lt ((lt.length - 1 : Nat) : Int)).f2 := by
  rw [tk_rd lt _ (by omega)]
  exact hT _ (List.getElem_mem _)
 refine ⟨_, rfl, fun _ => ?_⟩
 dsimp only
 generalize (Qaj lt ((lt.length - 1 : Nat) : Int)).f2 = n at *
 have i1 : ti ∣ (if bid = 0 then n else mx n bid) := by
  by_cases e : bid = 0
  ·rw [if_pos e]; exact hm
  rw [if_neg e]; exact mxd _ _ hm (hB e)
 by_cases e : ask = 0
 ·rw [if_pos e]; exact i1
 rw [if_neg e]; exact mnd _ _ i1 (hA e)
theorem r4_ok {s : ByteArray} {cu mu ti lo hi : Int} {b : Bool} (h : pchk s cu mu ti lo hi b = 0) (q6 q7 : Int) (k : Nat) (hk : 40 ≤ k) : ∃ r, Qbc k s cu mu ti lo hi b q6 q7 = some r ∧ (r.2 = true → ti ∣ r.1) := by
 obtain ⟨_, _, t1, t2, l1, h1, lh, dl, dh⟩ := Qb4 h
 have hc : -16777216 ≤ clampS (wrap64 (q6 + q7)) (-16777216) 16777216 ∧ clampS (wrap64 (q6 + q7)) (-16777216) 16777216 ≤ 16777216 := by unfold clampS; split <;> (try split) <;> omega
 unfold Qbc
 rw [Qcl _ _ _ k (by omega), Option.bind_some]
 generalize clampS (wrap64 (q6 + q7)) (-16777216) 16777216 = c at *
 obtain ⟨e1, e2⟩ := QcH (n := c) (D := ti) (s := ti) (q := 1) (by omega) (by omega) t1 (by omega) (by omega) (by omega)
 unfold Qbe.f
 rw [QbU _ _ _ _ _ _ _ k (by omega), Option.bind_some, if_pos h, pin_eq c _ (by omega) (by omega), decide_eq_true hc, Option.bind_some, if_pos rfl, e1, Option.bind_some]
 dsimp only
 rw [if_pos rfl, e2, Qcl _ _ _ k (by omega)]
 refine ⟨_, rfl, fun _ => ?_⟩
 exact (Qci lh dl dh ⟨_, Int.mul_comm _ _⟩).2.2
theorem x_ok {ti lo hi : Int} (lh : lo ≤ hi) (dl : ti ∣ lo) (dh : ti ∣ hi) (k : Nat) (hk : 1 ≤ k) (n : Int × Bool) (hn : n.2 = true → ti ∣ n.1) (i : Int) (rest : Option (Int × Int × Int)) (hr : ∃ r, rest = some r ∧ (r.2.2 = 0 → validP ti lo hi r.1) ∧ (r.2.2 ≠ 0 → r.1 = 0 ∧ r.2.1 = 0)) :
  ∃ r, QaM.x k lo hi n i rest = some r ∧ (r.2.2 = 0 → validP ti lo hi r.1) ∧ (r.2.2 ≠ 0 → r.1 = 0 ∧ r.2.1 = 0) := by
 unfold QaM.x
 by_cases c : n.2 = true
 ·rw [if_pos c, Qcl _ _ _ k hk]
  exact ⟨_, rfl, fun _ => Qci lh dl dh (hn c), fun h => absurd rfl h⟩
 rw [if_neg c]; exact hr
theorem QdF (s : ByteArray) (cu mu ti lo hi : Int) (b : Bool) (lt : List Tk) (q1 q2 q3 q4 q5 q6 q7 : Int) (k : Nat) (hk : 4000 ≤ k) :
  ∃ r, QaM.f k s cu mu ti lo hi b lt q1 q2 q3 q4 q5 q6 q7 = some r ∧ (r.2.2 = 0 → pchk s cu mu ti lo hi b = 0 ∧ validP ti lo hi r.1) ∧ (r.2.2 ≠ 0 → r.1 = 0 ∧ r.2.1 = 0) := by
 obtain ⟨e, he, hq⟩ := Qek s cu mu ti lo hi b lt q1 q2 q3 q4 q5 q6 q7 k hk
 unfold QaM.f
 rw [he, Option.bind_some]
 by_cases h : e = 0
 ·have Q := hq h
  obtain ⟨_, _, t1, t2, _, _, lh, dl, dh⟩ := Qb4 Q.prod
  obtain ⟨hl, _⟩ := Qb8 Q.tape
  obtain ⟨w, hw⟩ := win_ex lt hl q1 q2 k (by omega)
  obtain ⟨n1, e1, d1⟩ := r1_ok w q3 ti Q.least t1 t2 k hk
  obtain ⟨n2, e2, d2⟩ := r2_ok q4 q5 ti t1 t2 k (by omega)
  obtain ⟨n3, e3, d3⟩ := r3_ok lt q4 q5 ti hl (fun t ht => (Q.ticks t ht).2.2) (fun c => (Q.bid c).2.2) (fun c => (Q.ask c).2.2)
  obtain ⟨n4, e4, d4⟩ := r4_ok Q.prod q6 q7 k (by omega)
  rw [if_pos h, hw, Option.bind_some, e1, Option.bind_some, e2, Option.bind_some, e3, Option.bind_some, e4, Option.bind_some]
  obtain ⟨r, hr, v1, v2⟩ := x_ok lh dl dh k (by omega) n1 d1 1 _ (x_ok lh dl dh k (by omega) n2 d2 2 _ (x_ok lh dl dh k (by omega) n3 d3 3 _ (x_ok lh dl dh k (by omega) n4 d4 4 (some (0, 0, 17)) ⟨_, rfl, (fun h => by cases h), fun _ => ⟨rfl, rfl⟩⟩)))
  exact ⟨r, hr, fun z => ⟨Q.prod, v1 z⟩, v2⟩
 rw [if_neg h]
 exact ⟨_, rfl, fun z => absurd z h, fun _ => ⟨rfl, rfl⟩⟩
end Go.Proofs.Ytaembbndjpebhaa.Pr
