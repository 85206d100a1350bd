/- FloorSides: exchanging the sides does not change Near, and options and futures do not mix. -/
import Derived.Test.YtffdehnmoimikaaQ868LmCents
import Derived.Test.YtffdehnmoimikaaQ868LmFloor
import Derived.Test.YtffdehnmoimikaaQ868LmPos
import Derived.Test.YtffdehnmoimikaaQ868P0
import Derived.Test.YtffdehnmoimikaaQ868P3
import Derived.Test.YtffdehnmoimikaaQ868P5
import Derived.Test.YtffdehnmoimikaaQ868PrxDFloorSides
namespace Go.Proofs.Ytffdehnmoimikaa.Pure
open Go.RowKit Go.Proofs.Ytffdehnmoimikaa.Pr Go.Proofs.YtffdehnmoimikaaW.PrintWords Go.Proofs.YtffdehnmoimikaaW.PrintLast Go.Proofs.YtffdehnmoimikaaW.PrintMore
set_option linter.unusedVariables false
set_option linter.unusedSimpArgs false
def swp (p : Posn) : Posn := ⟨p.f0, p.f2, p.f1⟩
abbrev isF (p : Posn) : Bool := decide (p.f0.f1 = 1)
abbrev isO (p : Posn) : Bool := !decide (p.f0.f1 = 1)
theorem take_rd (l : List Posn) (i : Nat) (h : i < l.length) : l.take (i + 1) = l.take i ++ [rd_T40 l (i : Int)] := by
  rw [List.take_succ_eq_append_getElem h]
  unfold rd_T40
  rw [Int.toNat_natCast, List.getD_eq_getElem?_getD, List.getElem?_eq_getElem h]
  rfl
theorem good_filter (l : List Posn) (f : Posn → Bool) (h : goodPos l) : goodPos (l.filter f) :=
  ⟨Nat.le_trans (List.length_filter_le _ _) h.1, h.2.1.filter f, fun p hp => h.2.2 p ((List.mem_filter.1 hp).1)⟩
theorem good_swp (l : List Posn) (h : goodPos l) : goodPos (l.map swp) := by
  refine ⟨by rw [List.length_map]; exact h.1, List.pairwise_map.2 h.2.1, fun p hp => ?_⟩
  obtain ⟨q, hq, rfl⟩ := List.mem_map.1 hp
  obtain ⟨a, b, c⟩ := h.2.2 q hq
  exact ⟨b, a, fun z => c ⟨z.2, z.1⟩⟩
theorem cnt_swp (day days : Int) : ∀ l : List Posn, cnt (nearP day days) 1 (l.map swp) = cnt (nearP day days) 1 l
  | [] => rfl
  | p :: t => by
    rw [List.map_cons, cnt_cons, cnt_cons, cnt_swp day days t]
    congr 1
    show (if p.f0.f1 = 1 then nearOf day days p.f0.f2 p.f2 p.f1 else 0) = (if p.f0.f1 = 1 then nearOf day days p.f0.f2 p.f1 p.f2 else 0)
    unfold nearOf mx
    (repeat' split) <;> omega
theorem cnt_isF (g : Posn → Int) : ∀ l : List Posn, cnt g 1 (l.filter isF) = cnt g 1 l
  | [] => rfl
  | p :: t => by
    have ih := cnt_isF g t
    by_cases h : p.f0.f1 = 1
    · rw [List.filter_cons_of_pos (by simpa [isF] using h), cnt_cons, cnt_cons, ih]
    · rw [List.filter_cons_of_neg (by simpa [isF] using h), cnt_cons, ih, if_neg h, Int.zero_add]
theorem cnt_isF' (g : Posn → Int) (j : Int) (hj : j ≠ 1) : ∀ l : List Posn, cnt g j (l.filter isF) = 0
  | [] => rfl
  | p :: t => by
    have ih := cnt_isF' g j hj t
    by_cases h : p.f0.f1 = 1
    · rw [List.filter_cons_of_pos (by simpa [isF] using h), cnt_cons, ih, if_neg (by rw [h]; exact fun e => hj e.symm), Int.zero_add]
    · rw [List.filter_cons_of_neg (by simpa [isF] using h), ih]
theorem cnt_isO (g : Posn → Int) : ∀ l : List Posn, cnt g 1 (l.filter isO) = 0
  | [] => rfl
  | p :: t => by
    have ih := cnt_isO g t
    by_cases h : p.f0.f1 = 1
    · rw [List.filter_cons_of_neg (by simpa [isO] using h), ih]
    · rw [List.filter_cons_of_pos (by simpa [isO] using h), cnt_cons, ih, if_neg h, Int.zero_add]
theorem cnt_isO' (g : Posn → Int) (j : Int) (hj : j ≠ 1) : ∀ l : List Posn, cnt g j (l.filter isO) = cnt g j l
  | [] => rfl
  | p :: t => by
    have ih := cnt_isO' g j hj t
    by_cases h : p.f0.f1 = 1
    · rw [List.filter_cons_of_neg (by simpa [isO] using h), cnt_cons, ih, if_neg (by rw [h]; exact fun e => hj e.symm), Int.zero_add]
    · rw [List.filter_cons_of_pos (by simpa [isO] using h), cnt_cons, cnt_cons, ih]
theorem times_zero (per : Int) (hp : 0 ≤ per ∧ per ≤ 68719476736) : contangoref26_times.f 0 per = some (0, 0) := by
  rw [← times_eq 0 per 20 (by omega) (by omega) hp, mul_eq 0 per 20 (by omega)]
  unfold mulS
  rw [if_pos ⟨by unfold mdFits; omega, by unfold mdFits; omega⟩, if_pos (by rw [Int.zero_mul]; unfold mdFits; omega), Int.zero_mul]
theorem fs_loop (l : List Posn) (hl : l.length ≤ 1000) (n0 m0 day days per : Int) (k0 : Nat) (hk0 : 300 ≤ k0) (hg : goodPos l) (hn : nearS l day days per = some (n0, 0)) (hm : m0 = optS l) : ∀ n i k : Nat, i + n = l.length → k = n + 1 + k0 → contangolaw26_FloorSides.l0 k n0 m0 ((l.take i).map swp) ((l.take i).filter isF) ((l.take i).filter isO) l (l.length : Int) (i : Int) day days per = some true := by
  intro n
  induction n with
  | zero =>
    intro i k hi hk
    subst hk
    have c0 := (chk_zero l).2 hg
    have c1 := (chk_zero _).2 (good_swp l hg)
    have c2 := (chk_zero _).2 (good_filter l isF hg)
    have c3 := (chk_zero _).2 (good_filter l isO hg)
    rw [show 0 + 1 + k0 = k0 + 1 by omega, contangolaw26_FloorSides.l0, if_neg (by omega), List.take_of_length_le (by omega)]
    rw [near_eq _ _ _ _ k0 (by omega), near_eq _ _ _ _ k0 (by omega), near_eq _ _ _ _ k0 (by omega), shorts_eq _ k0 (by omega), shorts_eq _ k0 (by omega)]
    have q : ¬ (day < 0 ∨ 73048 < day) ∧ ¬ (days < 0 ∨ 73048 < days) ∧ (0 ≤ per ∧ per ≤ 68719476736) ∧ contangoref26_times.f (cnt (nearP day days) 1 l) per = some (n0, 0) := by
      unfold nearS at hn
      rw [if_pos c0] at hn
      by_cases a1 : day < 0 ∨ 73048 < day
      · rw [if_pos a1] at hn; simp at hn
      · by_cases a2 : days < 0 ∨ 73048 < days
        · rw [if_neg a1, if_pos a2] at hn; simp at hn
        · by_cases a3 : 0 ≤ per ∧ per ≤ 68719476736
          · rw [if_neg a1, if_neg a2, if_pos a3] at hn; exact ⟨a1, a2, a3, hn⟩
          · rw [if_neg a1, if_neg a2, if_neg a3] at hn; simp at hn
    obtain ⟨q1, q2, q3, q4⟩ := q
    have N1 : nearS (l.map swp) day days per = some (n0, 0) := by
      unfold nearS
      rw [if_pos c1, if_neg q1, if_neg q2, if_pos q3, cnt_swp, q4]
    have N2 : nearS (l.filter isF) day days per = some (n0, 0) := by
      unfold nearS
      rw [if_pos c2, if_neg q1, if_neg q2, if_pos q3, cnt_isF, q4]
    have N3 : nearS (l.filter isO) day days per = some (0, 0) := by
      unfold nearS
      rw [if_pos c3, if_neg q1, if_neg q2, if_pos q3, cnt_isO, times_zero per q3]
    have S1 : shortsS (l.filter isO) = (m0, 0) := by
      unfold shortsS optS
      rw [if_pos c3, cnt_isO' _ 2 (by decide), cnt_isO' _ 3 (by decide), hm]
      rfl
    have S2 : shortsS (l.filter isF) = (0, 0) := by
      unfold shortsS optS
      rw [if_pos c2, cnt_isF' _ 2 (by decide), cnt_isF' _ 3 (by decide)]
      rfl
    rw [N1, N2, N3, S1, S2, fgoes k0 (by omega)]
    simp
  | succ n ih =>
    intro i k hi hk
    subst hk
    have hlt : i < l.length := by omega
    have IH := ih (i + 1) (n + 1 + k0) (by omega) rfl
    rw [take_rd l i hlt, List.map_append, List.filter_append, List.filter_append] at IH
    have b1 : ((l.take i).map swp).length ≤ i := by rw [List.length_map, List.length_take]; omega
    have b2 : ((l.take i).filter isF).length ≤ i := Nat.le_trans (List.length_filter_le _ _) (by rw [List.length_take]; omega)
    have b3 : ((l.take i).filter isO).length ≤ i := Nat.le_trans (List.length_filter_le _ _) (by rw [List.length_take]; omega)
    rw [show n + 1 + 1 + k0 = (n + 1 + k0) + 1 by omega, contangolaw26_FloorSides.l0, if_pos (by omega), if_pos (by omega), if_pos (by omega), if_pos (by omega), Option.bind_some]
    rw [IntWalk.wrap64_in ((i : Int) + 1) ⟨by omega, by omega⟩, show ((i : Int) + 1) = ((i + 1 : Nat) : Int) by omega]
    by_cases e : (rd_T40 l (i : Int)).f0.f1 = 1
    · rw [if_pos e, if_pos (by omega)]
      have e1 : [rd_T40 l (i : Int)].filter isF = [rd_T40 l (i : Int)] := by simp [isF, e]
      have e2 : [rd_T40 l (i : Int)].filter isO = [] := by simp [isO, e]
      rw [e1, e2, List.append_nil] at IH
      exact IH
    · rw [if_neg e, if_pos (by omega)]
      have e1 : [rd_T40 l (i : Int)].filter isF = [] := by simp [isF, e]
      have e2 : [rd_T40 l (i : Int)].filter isO = [rd_T40 l (i : Int)] := by simp [isO, e]
      rw [e1, e2, List.append_nil] at IH
      exact IH
theorem times_err (a per : Int) (r : Int × Int) (h : contangoref26_times.f a per = some r) (h2 : r.2 ≠ 0) : r.1 = 0 := by
  unfold contangoref26_times.f at h
  (repeat' split at h) <;> first | (cases h; first | rfl | exact absurd rfl h2) | (cases h)
theorem near_err (l : List Posn) (day days per : Int) (r : Int × Int) (h : nearS l day days per = some r) (h2 : r.2 ≠ 0) : r.1 = 0 := by
  unfold nearS at h
  (repeat' split at h) <;> first | exact times_err _ _ _ h h2 | (cases h; rfl)
theorem FloorSides : contangolaw26_FloorSides.Pure := by
  intro l day days per _ _ hok _ _ _
  refine ⟨2400, ?_⟩
  unfold contangolaw26_FloorSides.f
  by_cases hl : (l.length : Int) > 1000
  · rw [if_pos hl, fgoes 2400 (by omega)]
    rfl
  · rw [if_neg hl, near_eq l _ _ _ 2400 (by omega), shorts_eq l 2400 (by omega)]
    obtain ⟨r, hr⟩ := near_some l day days per
    rw [hr, Option.bind_some, Option.bind_some]
    by_cases h0 : r.2 = 0
    · have hc : chk l = 0 := by
        by_cases hc : chk l = 0
        · exact hc
        · unfold nearS at hr
          rw [if_neg hc] at hr
          cases hr
          exact absurd h0 hc
      have hs : shortsS l = (optS l, 0) := by unfold shortsS; rw [if_pos hc]
      rw [if_pos h0, hs]
      have hr' : nearS l day days per = some (r.1, 0) := by rw [hr, ← h0]
      rw [contangolaw26_FloorSides.j0]
      simp only [bne_self_eq_false, Bool.false_eq_true, if_false]
      have := fs_loop l (by omega) r.1 (optS l) day days per 300 (by omega) ((chk_zero l).1 hc) hr' rfl l.length 0 _ (by omega) rfl
      exact at_rounds (fun k => (contangolaw26_FloorSides.mono_l k).2 _ _ _ _ _ _ _ _ _ _ _) (by omega) this
    · rw [if_neg h0, contangolaw26_FloorSides.j0, if_pos rfl, if_pos (near_err l _ _ _ r hr h0), fgoes 2399 (by omega)]
      rfl
end Go.Proofs.Ytffdehnmoimikaa.Pure
