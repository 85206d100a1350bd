/- What lots cost by steps, by the program and by the reference. -/
import Derived.Test.YtaiekjimdjlgbaaQ8F2LmCents
import Derived.Test.YtaiekjimdjlgbaaQ8F2LmCentsMul
import Derived.Test.YtaiekjimdjlgbaaQ8F2LmName
import Derived.Test.YtaiekjimdjlgbaaQ8F2P0
namespace Go.Proofs.Ytaiekjimdjlgbaa.Pr
open Go.RowKit Go.Proofs.Ytaiekjimdjlgbaa.Pr Go.Proofs.YtaiekjimdjlgbaaW.PrintWords Go.Proofs.YtaiekjimdjlgbaaW.PrintLast Go.Proofs.YtaiekjimdjlgbaaW.PrintMore
set_option linter.unusedVariables false
set_option linter.unusedSimpArgs false
abbrev RSt := S103
abbrev PSt := S104
def stA (s : RSt) : PSt := ⟨s.f0, s.f1⟩
theorem rs_drop (l : List RSt) (i : Nat) (h : i < l.length) : l.drop i = rd_T103 l (i : Int) :: l.drop (i + 1) := by
  rw [List.drop_eq_getElem_cons h]
  unfold rd_T103
  rw [Int.toNat_natCast, List.getD_eq_getElem?_getD, List.getElem?_eq_getElem h]
  rfl
theorem ps_drop (l : List PSt) (i : Nat) (h : i < l.length) : l.drop i = rd_T104 l (i : Int) :: l.drop (i + 1) := by
  rw [List.drop_eq_getElem_cons h]
  unfold rd_T104
  rw [Int.toNat_natCast, List.getD_eq_getElem?_getD, List.getElem?_eq_getElem h]
  rfl
theorem steps_loop (l : List RSt) (hl : l.length ≤ 8796093022207) : ∀ n i k : Nat, i + n = l.length → n + 1 ≤ k → ∀ out : List PSt, out.length = i → contangolaw28_Steps.l0 k l out (i : Int) = some (out ++ (l.drop i).map stA) := by
  intro n
  induction n with
  | zero =>
    intro i k hi hk out ho
    obtain ⟨k, rfl⟩ : ∃ m, k = m + 1 := ⟨k - 1, by omega⟩
    rw [contangolaw28_Steps.l0, if_neg (by omega), List.drop_eq_nil_of_le (by omega)]
    simp
  | succ n ih =>
    intro i k hi hk out ho
    obtain ⟨k, rfl⟩ : ∃ m, k = m + 1 := ⟨k - 1, by omega⟩
    rw [contangolaw28_Steps.l0, if_pos (by omega), if_pos (by omega), if_pos (by omega), nwrap (by omega) (by omega), show ((i : Int) + 1) = ((i + 1 : Nat) : Int) by omega, ih (i + 1) k (by omega) (by omega) _ (by simp; omega), rs_drop l i (by omega), List.map_cons, List.append_assoc]
    rfl
theorem steps_eq (l : List RSt) (hl : l.length ≤ 8796093022207) (k : Nat) (hk : l.length + 1 ≤ k) : contangolaw28_Steps.f k l = some (l.map stA) := by
  unfold contangolaw28_Steps.f
  rw [show (0 : Int) = ((0 : Nat) : Int) from rfl, steps_loop l hl l.length 0 k (by omega) hk [] rfl, List.drop_zero, List.nil_append]
/-- What Check answers, from a step on. -/
def chkSt : Int → Int → List PSt → Int
  | _, _, [] => 0
  | u, r, s :: t => if s.f0 ≤ u then 2 else if s.f0 > 1152921504606846976 then 2 else if s.f1 < r then 2 else if s.f1 > 68719476736 then 2 else chkSt s.f0 s.f1 t
theorem achk_loop (l : List PSt) (hl : l.length ≤ 1024) : ∀ n i k : Nat, i + n = l.length → n + 1 ≤ k → ∀ u r : Int, addon_Check.l0 k l (l.length : Int) (i : Int) u r = some (chkSt u r (l.drop i)) := by
  intro n
  induction n with
  | zero =>
    intro i k hi hk u r
    obtain ⟨k, rfl⟩ : ∃ m, k = m + 1 := ⟨k - 1, by omega⟩
    rw [addon_Check.l0, if_neg (by omega), List.drop_eq_nil_of_le (by omega)]; rfl
  | succ n ih =>
    intro i k hi hk u r
    obtain ⟨k, rfl⟩ : ∃ m, k = m + 1 := ⟨k - 1, by omega⟩
    rw [addon_Check.l0, if_pos (by omega), if_pos (by omega), if_pos (by omega), nwrap (by omega) (by omega), show ((i : Int) + 1) = ((i + 1 : Nat) : Int) by omega, ih (i + 1) k (by omega) (by omega), ps_drop l i (by omega), chkSt]
    (repeat' split) <;> rfl
def chkSs (l : List PSt) : Int := if (l.length : Int) > 1024 then 8 else chkSt 0 0 l
theorem addcheck_eq (l : List PSt) (k : Nat) (hk : 1026 ≤ k) : addon_Check.f k l = some (chkSs l) := by
  unfold addon_Check.f chkSs
  split
  · rfl
  · rw [show (0 : Int) = ((0 : Nat) : Int) from rfl, achk_loop l (by omega) l.length 0 k (by omega) (by omega), List.drop_zero]
theorem rchk_loop (l : List RSt) (hl : l.length ≤ 1024) : ∀ n i k : Nat, i + n = l.length → n + 1 ≤ k → ∀ u r : Int, contangoref28_Check.l0 k l (i : Int) u r = some (chkSt u r ((l.drop i).map stA)) := by
  intro n
  induction n with
  | zero =>
    intro i k hi hk u r
    obtain ⟨k, rfl⟩ : ∃ m, k = m + 1 := ⟨k - 1, by omega⟩
    rw [contangoref28_Check.l0, if_neg (by omega), List.drop_eq_nil_of_le (by omega)]; rfl
  | succ n ih =>
    intro i k hi hk u r
    obtain ⟨k, rfl⟩ : ∃ m, k = m + 1 := ⟨k - 1, by omega⟩
    rw [contangoref28_Check.l0, if_pos (by omega), if_pos (by omega), nwrap (by omega) (by omega), show ((i : Int) + 1) = ((i + 1 : Nat) : Int) by omega, ih (i + 1) k (by omega) (by omega), rs_drop l i (by omega), List.map_cons, chkSt]
    show (if (stA (rd_T103 l (i : Int))).f0 ≤ u then _ else _) = _
    (repeat' split) <;> first | rfl | (exfalso; contradiction)
theorem raddcheck_eq (l : List RSt) (k : Nat) (hk : 1026 ≤ k) : contangoref28_Check.f k l = some (chkSs (l.map stA)) := by
  unfold contangoref28_Check.f chkSs
  rw [List.length_map]
  split
  · rfl
  · rw [show (0 : Int) = ((0 : Nat) : Int) from rfl, rchk_loop l (by omega) l.length 0 k (by omega) (by omega), List.drop_zero]
/-- What lots above u cost by the steps that are left. -/
def cst (lots : Int) : Int → List PSt → Int
  | _, [] => 0
  | u, s :: t => if t = [] then mx (lots - u) 0 * s.f1 else mx (mn lots s.f0 - u) 0 * s.f1 + cst lots s.f0 t
theorem mx_0 (x : Int) : (0 ≤ x ∧ mx x 0 = x) ∨ (x < 0 ∧ mx x 0 = 0) := by unfold mx; split <;> omega
theorem mn_c (x y : Int) : (x ≤ y ∧ mn x y = x) ∨ (y < x ∧ mn x y = y) := by unfold mn; split <;> omega
theorem chkSt_cons {u r : Int} {s : PSt} {t : List PSt} (h : chkSt u r (s :: t) = 0) : u < s.f0 ∧ s.f0 ≤ 1152921504606846976 ∧ r ≤ s.f1 ∧ s.f1 ≤ 68719476736 ∧ chkSt s.f0 s.f1 t = 0 := by
  rw [chkSt] at h
  by_cases h1 : s.f0 ≤ u
  · rw [if_pos h1] at h; cases h
  · rw [if_neg h1] at h
    by_cases h2 : s.f0 > 1152921504606846976
    · rw [if_pos h2] at h; cases h
    · rw [if_neg h2] at h
      by_cases h3 : s.f1 < r
      · rw [if_pos h3] at h; cases h
      · rw [if_neg h3] at h
        by_cases h4 : s.f1 > 68719476736
        · rw [if_pos h4] at h; cases h
        · rw [if_neg h4] at h
          exact ⟨by omega, by omega, by omega, by omega, h⟩
theorem cst_nn (lots : Int) : ∀ (l : List PSt) (u r : Int), 0 ≤ r → chkSt u r l = 0 → 0 ≤ cst lots u l
  | [], _, _, _, _ => by rw [cst]; omega
  | s :: t, u, r, hr, h => by
    obtain ⟨_, _, h3, _, h5⟩ := chkSt_cons h
    have ih := cst_nn lots t s.f0 s.f1 (by omega) h5
    rw [cst]
    split
    · exact Int.mul_nonneg (by rcases mx_0 (lots - u) with z | z <;> omega) (by omega)
    · have := Int.mul_nonneg (show 0 ≤ mx (mn lots s.f0 - u) 0 by rcases mx_0 (mn lots s.f0 - u) with z | z <;> omega) (show 0 ≤ s.f1 by omega)
      omega
theorem cst_done (lots : Int) : ∀ (l : List PSt) (u r : Int), lots ≤ u → chkSt u r l = 0 → cst lots u l = 0
  | [], _, _, _, _ => rfl
  | s :: t, u, r, hu, h => by
    obtain ⟨h1, _, _, _, h5⟩ := chkSt_cons h
    have ih := cst_done lots t s.f0 s.f1 (by omega) h5
    rw [cst]
    split
    · rw [show mx (lots - u) 0 = 0 by rcases mx_0 (lots - u) with z | z <;> omega, Int.zero_mul]
    · rw [ih, show mx (mn lots s.f0 - u) 0 = 0 by rcases mx_0 (mn lots s.f0 - u) with z | z <;> rcases mn_c lots s.f0 with y | y <;> omega, Int.zero_mul]; rfl
def fitS (x : Int) : Int × Int := if x ≤ 1152921504606846976 then (x, 0) else (0, 3)
theorem mul_fit (a b : Int) (ha : 0 ≤ a ∧ a ≤ 1152921504606846976) (hb : 0 ≤ b ∧ b ≤ 68719476736) : mulS a b = fitS (a * b) := by
  have h := Int.mul_nonneg ha.1 hb.1
  unfold mulS fitS
  rw [if_pos ⟨by unfold mdFits; omega, by unfold mdFits; omega⟩]
  by_cases c : a * b ≤ 1152921504606846976
  · rw [if_pos (by unfold mdFits; omega), if_pos c]
  · rw [if_neg (by unfold mdFits; omega), if_neg c]
theorem add_fit (a b : Int) (ha : 0 ≤ a ∧ a ≤ 1152921504606846976) (hb : 0 ≤ b ∧ b ≤ 1152921504606846976) : addS a b = fitS (a + b) := by
  unfold addS fitS
  rw [if_pos ⟨by unfold mdFits; omega, by unfold mdFits; omega⟩]
  by_cases c : a + b ≤ 1152921504606846976
  · rw [if_pos (by unfold mdFits; omega), if_pos c]
  · rw [if_neg (by unfold mdFits; omega), if_neg c]
/-- The steps, the last one without an end. -/
def endl (l : List PSt) : List PSt := if 0 < l.length then l.set (l.length - 1) ⟨1152921504606846976, (rd_T104 l ((l.length : Int) - 1)).f1⟩ else []
theorem endl_len (l : List PSt) : (endl l).length = l.length := by
  unfold endl
  split
  · rw [List.length_set]
  · simp; omega
theorem endl_rd (l : List PSt) (i : Nat) (h : i < l.length) : rd_T104 (endl l) (i : Int) = if i + 1 = l.length then ⟨1152921504606846976, (rd_T104 l (i : Int)).f1⟩ else rd_T104 l (i : Int) := by
  unfold endl
  rw [if_pos (by omega)]
  unfold rd_T104
  rw [Int.toNat_natCast, List.getD_eq_getElem?_getD, List.getElem?_set]
  by_cases c : i + 1 = l.length
  · rw [if_pos (by omega), if_pos c, if_pos (by omega), show ((l.length : Int) - 1).toNat = i by omega]
    rfl
  · rw [if_neg (by omega), if_neg c, List.getD_eq_getElem?_getD]
theorem cmul_eq28 (a b : Int) (k : Nat) (hk : 30 ≤ k) : cents_Mul.f k a b = some (mulS a b) := mul_eq a b k (by omega)
theorem ch_loop (lots : Int) (hlo : 0 ≤ lots ∧ lots ≤ 1152921504606846976) (l : List PSt) (hl : l.length ≤ 1024) : ∀ n i k : Nat, i + n = l.length → n + 40 ≤ k → ∀ u r m : Int, 0 ≤ u → 0 ≤ r → chkSt u r (l.drop i) = 0 → 0 ≤ m → m ≤ 1152921504606846976 →
    addon_Charge.l0 k m (endl l) ((endl l).length : Int) (i : Int) lots (mn lots u) = some (fitS (m + cst lots u (l.drop i))) := by
  intro n
  induction n with
  | zero =>
    intro i k hi hk u r m hu hr hc h0 h1
    obtain ⟨k, rfl⟩ : ∃ m, k = m + 1 := ⟨k - 1, by omega⟩
    have := endl_len l
    rw [addon_Charge.l0, if_neg (by omega), List.drop_eq_nil_of_le (by omega), cst, Int.add_zero]
    unfold fitS
    rw [if_pos h1]
  | succ n ih =>
    intro i k hi hk u r m hu hr hc h0 h1
    obtain ⟨k, rfl⟩ : ∃ m, k = m + 1 := ⟨k - 1, by omega⟩
    have he := endl_len l
    have hd := ps_drop l i (by omega)
    obtain ⟨s, hs⟩ : ∃ s, rd_T104 l (i : Int) = s := ⟨_, rfl⟩
    rw [hs] at hd
    rw [hd] at hc ⊢
    obtain ⟨c1, c2, c3, c4, c5⟩ := chkSt_cons hc
    have hr2 := endl_rd l i (by omega)
    rw [hs] at hr2
    have hf1 : (rd_T104 (endl l) (i : Int)).f1 = s.f1 := by rw [hr2]; split <;> rfl
    have hlast : (l.drop (i + 1) = []) ↔ i + 1 = l.length := by
      constructor
      · intro z
        have := congrArg List.length z
        rw [List.length_drop, List.length_nil] at this
        omega
      · intro z; exact List.drop_eq_nil_of_le (by omega)
    -- this step's lots
    obtain ⟨p, hp⟩ : ∃ p, p = mx (wrap64 (mn lots (rd_T104 (endl l) (i : Int)).f0 - mn lots u)) 0 := ⟨_, rfl⟩
    have hup : (rd_T104 (endl l) (i : Int)).f0 = if i + 1 = l.length then 1152921504606846976 else s.f0 := by rw [hr2]; split <;> rfl
    have hpv : p = if i + 1 = l.length then mx (lots - u) 0 else mx (mn lots s.f0 - u) 0 := by
      rw [hp, hup]
      by_cases c : i + 1 = l.length
      · rw [if_pos c, if_pos c, IntWalk.wrap64_in _ (by rcases mn_c lots 1152921504606846976 with z | z <;> rcases mn_c lots u with y | y <;> omega)]
        rcases mn_c lots 1152921504606846976 with z | z <;> rcases mn_c lots u with y | y <;> rw [z.2, y.2] <;> rcases mx_0 (lots - u) with x | x <;> (unfold mx; split <;> omega)
      · rw [if_neg c, if_neg c, IntWalk.wrap64_in _ (by rcases mn_c lots s.f0 with z | z <;> rcases mn_c lots u with y | y <;> omega)]
        rcases mn_c lots s.f0 with z | z <;> rcases mn_c lots u with y | y <;> rw [z.2, y.2] <;> (unfold mx; (repeat' split) <;> omega)
    have hp0 : 0 ≤ p ∧ p ≤ 1152921504606846976 := by
      rw [hpv]
      split
      · rcases mx_0 (lots - u) with z | z <;> omega
      · rcases mx_0 (mn lots s.f0 - u) with z | z <;> rcases mn_c lots s.f0 with y | y <;> omega
    have hpm := Int.mul_nonneg hp0.1 (show 0 ≤ s.f1 by omega)
    have hrest := cst_nn lots (l.drop (i + 1)) s.f0 s.f1 (by omega) c5
    have hcst : cst lots u (s :: l.drop (i + 1)) = p * s.f1 + cst lots s.f0 (l.drop (i + 1)) := by
      rw [cst, hpv]
      by_cases c : i + 1 = l.length
      · rw [if_pos (hlast.2 c), if_pos c, hlast.2 c, cst, Int.add_zero]
      · rw [if_neg (fun z => c (hlast.1 z)), if_neg c]
    rw [addon_Charge.l0, if_pos (by omega), if_pos (by omega), if_pos (by omega), ← hp, hf1, cmul_eq28 _ _ k (by omega), Option.bind_some, mul_fit p s.f1 hp0 (by omega), hcst]
    by_cases f1 : p * s.f1 ≤ 1152921504606846976
    · have e1 : fitS (p * s.f1) = (p * s.f1, 0) := by unfold fitS; rw [if_pos f1]
      rw [e1]
      simp only [if_true]
      rw [add_eq, Option.bind_some, add_fit m (p * s.f1) ⟨h0, h1⟩ ⟨hpm, f1⟩]
      by_cases f2 : m + p * s.f1 ≤ 1152921504606846976
      · have e2 : fitS (m + p * s.f1) = (m + p * s.f1, 0) := by unfold fitS; rw [if_pos f2]
        rw [e2]
        simp only [if_true]
        rw [nwrap (x := (i : Int) + 1) (by omega) (by omega), show ((i : Int) + 1) = ((i + 1 : Nat) : Int) by omega]
        by_cases c : i + 1 = l.length
        · -- the last step
          obtain ⟨k, rfl⟩ : ∃ m, k = m + 1 := ⟨k - 1, by omega⟩
          rw [addon_Charge.l0, if_neg (by omega), hlast.2 c, cst, Int.add_zero, e2]
        · have hdone : wrap64 (mn lots u + p) = mn lots s.f0 := by
            rw [IntWalk.wrap64_in _ (by rcases mn_c lots u with y | y <;> omega), hpv, if_neg c]
            rcases mn_c lots s.f0 with z | z <;> rcases mn_c lots u with y | y <;> rw [z.2, y.2] <;> (unfold mx; (repeat' split) <;> omega)
          rw [hdone, ih (i + 1) k (by omega) (by omega) s.f0 s.f1 _ (by omega) (by omega) c5 (by omega) f2, Int.add_assoc]
      · have e2 : fitS (m + p * s.f1) = (0, 3) := by unfold fitS; rw [if_neg f2]
        rw [e2]
        simp only [show ¬ ((3 : Int) = 0) by decide, if_false]
        unfold fitS
        rw [if_neg (by omega)]
    · have e1 : fitS (p * s.f1) = (0, 3) := by unfold fitS; rw [if_neg f1]
      rw [e1]
      simp only [show ¬ ((3 : Int) = 0) by decide, if_false]
      unfold fitS
      rw [if_neg (by omega)]
def chgS (lots : Int) (l : List PSt) : Int × Int := if chkSs l = 0 then (if lots < 0 ∨ lots > 1152921504606846976 then (0, 18) else fitS (cst lots 0 l)) else (0, chkSs l)
theorem charge_eq (lots : Int) (l : List PSt) (k : Nat) (hk : 1200 ≤ k) : addon_Charge.f k lots l = some (chgS lots l) := by
  unfold addon_Charge.f chgS
  rw [addcheck_eq l k (by omega), Option.bind_some]
  by_cases h : chkSs l = 0
  · rw [if_pos h, if_pos h]
    have hl : l.length ≤ 1024 ∧ chkSt 0 0 l = 0 := by
      unfold chkSs at h
      by_cases z : (l.length : Int) > 1024
      · rw [if_pos z] at h; cases h
      · rw [if_neg z] at h; exact ⟨by omega, h⟩
    obtain ⟨k, rfl⟩ : ∃ m, k = m + 1 := ⟨k - 1, by omega⟩
    have hj : ∀ b : Bool, addon_Charge.j0 (k + 1) l b lots = if b = true then some (0, 18) else addon_Charge.l0 k 0 (endl l) ((endl l).length : Int) 0 lots 0 := by
      intro b
      rw [addon_Charge.j0]
      cases b with
      | true => rfl
      | false =>
        simp only [Bool.false_eq_true, if_false]
        have : addon_endless.f l = some (endl l) := by
          unfold addon_endless.f endl
          rw [if_pos (by omega)]
          split <;> rfl
        rw [this, Option.bind_some]
    rw [hj, hj]
    by_cases c1 : lots < 0
    · rw [if_pos c1, if_pos rfl, if_pos (Or.inl c1)]
    · rw [if_neg c1]
      by_cases c2 : lots > 1152921504606846976
      · rw [decide_eq_true c2, if_pos rfl, if_pos (Or.inr c2)]
      · rw [decide_eq_false c2, if_neg (by simp), if_neg (by omega)]
        have := ch_loop lots (by omega) l hl.1 l.length 0 k (by omega) (by omega) 0 0 0 (by omega) (by omega) (by rw [List.drop_zero]; exact hl.2) (by omega) (by omega)
        rw [List.drop_zero, Int.zero_add, show mn lots 0 = 0 by rcases mn_c lots 0 with z | z <;> omega] at this
        exact this
  · rw [if_neg h, if_neg h]
end Go.Proofs.Ytaiekjimdjlgbaa.Pr
