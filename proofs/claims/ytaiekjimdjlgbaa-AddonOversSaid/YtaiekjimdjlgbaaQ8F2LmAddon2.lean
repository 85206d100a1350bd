/- What lots cost by the reference; more lots cost no less. -/
import Derived.Test.YtaiekjimdjlgbaaQ8F2LmAddon
import Derived.Test.YtaiekjimdjlgbaaQ8F2LmCents
import Derived.Test.YtaiekjimdjlgbaaQ8F2LmCentsMul
import Derived.Test.YtaiekjimdjlgbaaQ8F2LmName
import Derived.Test.YtaiekjimdjlgbaaQ8F2P0
import Derived.Test.YtaiekjimdjlgbaaQ8F2P1
import Derived.Test.YtaiekjimdjlgbaaQ8F2P2
namespace Go.Proofs.Ytaiekjimdjlgbaa.Pr
open Go.RowKit Go.Proofs.Ytaiekjimdjlgbaa.Pr Go.Proofs.YtaiekjimdjlgbaaW.PrintWords Go.Proofs.YtaiekjimdjlgbaaW.PrintLast Go.Proofs.YtaiekjimdjlgbaaW.PrintMore
set_option linter.unusedVariables false
set_option linter.unusedSimpArgs false
theorem radd_fit (a b : Int) (ha : 0 ≤ a ∧ a ≤ 1152921504606846976) (hb : 0 ≤ b ∧ b ≤ 1152921504606846976) (k : Nat) (hk : 1 ≤ k) : contangoref01_Add.f k a b = some (fitS (a + b)) := by rw [radd_eq a b k hk, add_fit a b ha hb]
theorem rch_loop (lots : Int) (hlo : 0 ≤ lots ∧ lots ≤ 1152921504606846976) (l : List RSt) (hl : l.length ≤ 1024) : ∀ n i k : Nat, i + n = l.length → 2 * n + 60 ≤ k → ∀ u r m : Int, 0 ≤ u → 0 ≤ r → chkSt u r ((l.drop i).map stA) = 0 → 0 ≤ m → m ≤ 1152921504606846976 →
    contangoref28_Charge.l0 k lots l m (mn lots u) (i : Int) = some (fitS (m + cst lots u ((l.drop i).map stA))) := by
  intro n
  induction n with
  | zero =>
    intro i k hi hk u r m hu hr hc h0 h1
    obtain ⟨k, rfl⟩ : ∃ m, k = m + 1 := ⟨k - 1, by omega⟩
    rw [contangoref28_Charge.l0, if_neg (by omega), List.drop_eq_nil_of_le (by omega), List.map_nil, cst, Int.add_zero]
    unfold fitS
    rw [if_pos h1]
  | succ n ih =>
    intro i k hi hk u r m hu hr hc h0 h1
    obtain ⟨k, rfl⟩ : ∃ m, k = m + 2 := ⟨k - 2, by omega⟩
    have hd := rs_drop l i (by omega)
    obtain ⟨s, hs⟩ : ∃ s, rd_T103 l (i : Int) = s := ⟨_, rfl⟩
    rw [hs] at hd
    rw [hd, List.map_cons] at hc ⊢
    obtain ⟨c1, c2, c3, c4, c5⟩ := chkSt_cons hc
    have d0 : (stA s).f0 = s.f0 := rfl
    have d1 : (stA s).f1 = s.f1 := rfl
    rw [d0] at c1 c2 c5
    rw [d1] at c3 c4 c5
    have hlast : (((l.drop (i + 1)).map stA) = []) ↔ i + 1 = l.length := by
      rw [List.map_eq_nil_iff]
      constructor
      · intro z
        have := congrArg List.length z
        rw [List.length_drop, List.length_nil] at this
        omega
      · intro z; exact List.drop_eq_nil_of_le (by omega)
    obtain ⟨up, hup⟩ : ∃ up, up = if i + 1 = l.length then lots else mn lots s.f0 := ⟨_, rfl⟩
    have hup0 : 0 ≤ up ∧ up ≤ lots := by rw [hup]; split <;> (try rcases mn_c lots s.f0 with z | z) <;> omega
    have hrest := cst_nn lots ((l.drop (i + 1)).map stA) s.f0 s.f1 (by omega) c5
    have hj : contangoref28_Charge.l0 (k + 2) lots l m (mn lots u) (i : Int) = contangoref28_Charge.j2 (k + 1) lots l m (mn lots u) (i : Int) up := by
      rw [contangoref28_Charge.l0, if_pos (by omega), IntWalk.wrap64_in ((l.length : Int) - 1) (by omega), hup, hs]
      by_cases c : i + 1 = l.length
      · rw [if_neg (by omega), if_pos c]
      · rw [if_pos (by omega), if_pos (by omega), if_neg c]
    rw [hj, contangoref28_Charge.j2]
    by_cases hle : up ≤ mn lots u
    · rw [if_pos hle]
      have hlu : lots ≤ u := by
        rw [hup] at hle
        by_cases c : i + 1 = l.length
        · rw [if_pos c] at hle; rcases mn_c lots u with z | z <;> omega
        · rw [if_neg c] at hle; rcases mn_c lots u with z | z <;> rcases mn_c lots s.f0 with y | y <;> omega
      rw [cst_done lots (stA s :: (l.drop (i + 1)).map stA) u r hlu hc, Int.add_zero]
      unfold fitS
      rw [if_pos h1]
    · obtain ⟨p, hp⟩ : ∃ p, p = up - mn lots u := ⟨_, rfl⟩
      have hul : u < lots := by rcases mn_c lots u with z | z <;> omega
      have hmu : mn lots u = u := by rcases mn_c lots u with z | z <;> omega
      have hpv : p = if i + 1 = l.length then mx (lots - u) 0 else mx (mn lots s.f0 - u) 0 := by
        rw [hp, hmu, hup]
        split
        · rcases mx_0 (lots - u) with z | z <;> omega
        · rcases mx_0 (mn lots s.f0 - u) with z | z <;> rcases mn_c lots s.f0 with y | y <;> omega
      have hp0 : 0 ≤ p ∧ p ≤ 1152921504606846976 := by omega
      have hpm := Int.mul_nonneg hp0.1 (show 0 ≤ s.f1 by omega)
      have hcst : cst lots u (stA s :: (l.drop (i + 1)).map stA) = p * s.f1 + cst lots s.f0 ((l.drop (i + 1)).map stA) := by
        rw [cst, hpv, d0, d1]
        by_cases c : i + 1 = l.length
        · rw [if_pos (hlast.2 c), if_pos c, hlast.2 c, cst, Int.add_zero]
        · rw [if_neg (fun z => c (hlast.1 z)), if_neg c]
      rw [if_neg hle, if_pos (by omega), if_pos (by omega), hs, IntWalk.wrap64_in (up - mn lots u) (by omega), ← hp, rmul_eq p s.f1 k (by omega), Option.bind_some, mul_fit p s.f1 hp0 (by omega), hcst]
      by_cases f1 : p * s.f1 ≤ 1152921504606846976
      · have e1 : fitS (p * s.f1) = (p * s.f1, 0) := by unfold fitS; rw [if_pos f1]
        rw [e1]
        simp only [if_true]
        rw [radd_fit m (p * s.f1) ⟨h0, h1⟩ ⟨hpm, f1⟩ k (by omega), Option.bind_some]
        by_cases f2 : m + p * s.f1 ≤ 1152921504606846976
        · have e2 : fitS (m + p * s.f1) = (m + p * s.f1, 0) := by unfold fitS; rw [if_pos f2]
          rw [e2]
          simp only [if_true]
          rw [nwrap (x := (i : Int) + 1) (by omega) (by omega), show ((i : Int) + 1) = ((i + 1 : Nat) : Int) by omega]
          by_cases c : i + 1 = l.length
          · obtain ⟨k, rfl⟩ : ∃ m, k = m + 1 := ⟨k - 1, by omega⟩
            rw [contangoref28_Charge.l0, if_neg (by omega), hlast.2 c, cst, Int.add_zero, e2]
          · have hu2 : up = mn lots s.f0 := by rw [hup, if_neg c]
            rw [hu2, ih (i + 1) k (by omega) (by omega) s.f0 s.f1 _ (by omega) (by omega) c5 (by omega) f2, Int.add_assoc]
        · have e2 : fitS (m + p * s.f1) = (0, 3) := by unfold fitS; rw [if_neg f2]
          rw [e2]
          simp only [show ¬ ((3 : Int) = 0) by decide, if_false]
          unfold fitS
          rw [if_neg (by omega)]
      · have e1 : fitS (p * s.f1) = (0, 3) := by unfold fitS; rw [if_neg f1]
        rw [e1]
        simp only [show ¬ ((3 : Int) = 0) by decide, if_false]
        unfold fitS
        rw [if_neg (by omega)]
theorem rcharge_eq (lots : Int) (l : List RSt) (k : Nat) (hk : 2200 ≤ k) : contangoref28_Charge.f k lots l = some (chgS lots (l.map stA)) := by
  unfold contangoref28_Charge.f chgS
  rw [raddcheck_eq l k (by omega), Option.bind_some]
  by_cases h : chkSs (l.map stA) = 0
  · rw [if_pos h, if_pos h]
    have hl : l.length ≤ 1024 ∧ chkSt 0 0 (l.map stA) = 0 := by
      unfold chkSs at h
      rw [List.length_map] at h
      by_cases z : (l.length : Int) > 1024
      · rw [if_pos z] at h; cases h
      · rw [if_neg z] at h; exact ⟨by omega, h⟩
    obtain ⟨k, rfl⟩ : ∃ m, k = m + 1 := ⟨k - 1, by omega⟩
    rw [contangoref28_Charge.j0, contangoref28_Charge.j0, if_pos rfl]
    by_cases c1 : lots < 0
    · rw [if_pos c1, if_pos (Or.inl c1)]
    · rw [if_neg c1]
      by_cases c2 : lots > 1152921504606846976
      · rw [decide_eq_true c2, if_pos rfl, if_pos (Or.inr c2)]
      · rw [decide_eq_false c2, if_neg (by simp), if_neg (by omega)]
        have := rch_loop lots (by omega) l hl.1 l.length 0 k (by omega) (by omega) 0 0 0 (by omega) (by omega) (by rw [List.drop_zero]; exact hl.2) (by omega) (by omega)
        rw [List.drop_zero, Int.zero_add, show mn lots 0 = 0 by rcases mn_c lots 0 with z | z <;> omega] at this
        exact this
  · rw [if_neg h, if_neg h]
theorem addgoes (k : Nat) (hk : 2000 ≤ k) : contangolaw28_goes.f k = some true := at_rounds contangolaw28_goes.mono (show 300 ≤ k by omega) (by decide +kernel)
/-- The cost as a sum of what each rise of the rate adds. -/
def dl (lots : Int) : Int → Int → List PSt → Int
  | _, _, [] => 0
  | u, r, s :: t => (s.f1 - r) * mx (lots - u) 0 + dl lots s.f0 s.f1 t
theorem cst_dl (lots : Int) : ∀ (l : List PSt) (u r : Int), l ≠ [] → chkSt u r l = 0 → cst lots u l = r * mx (lots - u) 0 + dl lots u r l
  | [], _, _, h, _ => absurd rfl h
  | s :: t, u, r, _, h => by
    obtain ⟨h1, _, _, _, h5⟩ := chkSt_cons h
    rw [cst, dl, Int.sub_mul]
    by_cases ht : t = []
    · rw [if_pos ht, ht, dl, Int.mul_comm]; omega
    · rw [if_neg ht, cst_dl lots t s.f0 s.f1 ht h5]
      have e : mx (lots - u) 0 = mx (mn lots s.f0 - u) 0 + mx (lots - s.f0) 0 := by
        unfold mx mn; (repeat' split) <;> omega
      rw [e, Int.mul_add s.f1, Int.mul_comm (mx (mn lots s.f0 - u) 0) s.f1]; omega
theorem dl_rises : ∀ (l : List PSt) (u r a b : Int), 0 ≤ u → chkSt u r l = 0 → 0 ≤ a → 0 ≤ b →
    dl a u r l + dl b u r l ≤ dl (a + b) u r l ∧ dl a u r l ≤ dl (a + 1) u r l ∧ dl a u r l + dl (a + 2) u r l ≥ 2 * dl (a + 1) u r l ∧ 0 ≤ dl a u r l
  | [], _, _, _, _, _, _, _, _ => by simp [dl]
  | s :: t, u, r, a, b, hu, h, ha, hb => by
    obtain ⟨h1, _, h3, _, h5⟩ := chkSt_cons h
    obtain ⟨i1, i2, i3, i4⟩ := dl_rises t s.f0 s.f1 a b (by omega) h5 ha hb
    rw [dl, dl, dl, dl, dl]
    have hd : 0 ≤ s.f1 - r := by omega
    have m1 : mx (a - u) 0 + mx (b - u) 0 ≤ mx (a + b - u) 0 := by unfold mx; (repeat' split) <;> omega
    have m2 : mx (a - u) 0 ≤ mx (a + 1 - u) 0 := by unfold mx; (repeat' split) <;> omega
    have m3 : 2 * mx (a + 1 - u) 0 ≤ mx (a - u) 0 + mx (a + 2 - u) 0 := by unfold mx; (repeat' split) <;> omega
    have m4 : 0 ≤ mx (a - u) 0 := by unfold mx; split <;> omega
    have n1 := Int.mul_le_mul_of_nonneg_left m1 hd
    have n2 := Int.mul_le_mul_of_nonneg_left m2 hd
    have n3 := Int.mul_le_mul_of_nonneg_left m3 hd
    have n4 := Int.mul_nonneg hd m4
    rw [Int.mul_add] at n1
    rw [Int.mul_add, show (s.f1 - r) * (2 * mx (a + 1 - u) 0) = 2 * ((s.f1 - r) * mx (a + 1 - u) 0) by rw [Int.mul_left_comm]] at n3
    refine ⟨by omega, by omega, by omega, by omega⟩
theorem cst_rises (l : List PSt) (h : chkSt 0 0 l = 0) (a b : Int) (ha : 0 ≤ a) (hb : 0 ≤ b) : cst a 0 l + cst b 0 l ≤ cst (a + b) 0 l ∧ cst a 0 l ≤ cst (a + 1) 0 l ∧ cst a 0 l + cst (a + 2) 0 l ≥ 2 * cst (a + 1) 0 l ∧ 0 ≤ cst a 0 l := by
  by_cases hl : l = []
  · subst hl; simp [cst]
  · have e : ∀ x : Int, cst x 0 l = dl x 0 0 l := fun x => by rw [cst_dl x l 0 0 hl h, Int.zero_mul, Int.zero_add]
    rw [e, e, e, e, e]
    exact dl_rises l 0 0 a b (by omega) h ha hb
end Go.Proofs.Ytaiekjimdjlgbaa.Pr
