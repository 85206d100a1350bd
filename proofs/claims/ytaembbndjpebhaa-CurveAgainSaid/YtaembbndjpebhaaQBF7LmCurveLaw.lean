/- Curves: what holds of the price of a day. -/
import Derived.Test.YtaembbndjpebhaaQBF7LmCurveAt
import Derived.Test.YtaembbndjpebhaaQBF7LmCurveChk
import Derived.Test.YtaembbndjpebhaaQBF7LmCurveEq
import Derived.Test.YtaembbndjpebhaaQBF7LmCurveNear
import Derived.Test.YtaembbndjpebhaaQBF7LmCurvePr
import Derived.Test.YtaembbndjpebhaaQBF7P0
namespace Go.Proofs.Ytaembbndjpebhaa.Pr
open Go.RowKit Go.Proofs.Ytaembbndjpebhaa.Pr Go.Proofs.YtaembbndjpebhaaW.PrintWords Go.Proofs.YtaembbndjpebhaaW.PrintLast Go.Proofs.YtaembbndjpebhaaW.PrintMore
set_option linter.unusedVariables false
set_option linter.unusedSimpArgs false
theorem QcS : ∀ (l : List Pt) (pv : Option Int) (b : Bool), (∀ p ∈ l, 0 ≤ p.f0 ∧ p.f0 ≤ 73048 ∧ (p.f2 = true → QaO p.f1)) → l.Pairwise (fun a b => a.f0 < b.f0) → (∀ e, pv = some e → ∀ p ∈ l, e < p.f0) → (b = true ∨ kn l ≠ []) → chk pv b l = 0
 | [], pv, b, _, _, _, h => by
  rcases h with h | h
  ·unfold chk; rw [if_pos h]
  exact absurd rfl h
 | p :: t, pv, b, h1, h2, h3, h4 => by
  obtain ⟨s1, s2⟩ := List.pairwise_cons.1 h2
  obtain ⟨r1, r2, r3⟩ := h1 p List.mem_cons_self
  have hb : ¬ badP pv p.f0 = true := by
   unfold badP
   rw [decide_eq_false (by omega), decide_eq_false (by omega)]
   cases pv with
   | none => simp
   | some e => have := h3 e rfl p List.mem_cons_self; simp; omega
  unfold chk
  rw [if_neg hb, if_neg (fun h => h.2 (r3 h.1))]
  refine QcS t _ _ (fun q hq => h1 q (List.mem_cons_of_mem _ hq)) s2 (fun e he q hq => by cases he; exact s1 q hq) ?_
  cases hk : p.f2 with
  | true => left; simp
  | false =>
   rw [Bool.or_false]
   rcases h4 with h | h
   ·exact .inl h
   right
   unfold kn at h ⊢
   rwa [List.filter_cons_of_neg (by rw [hk]; simp)] at h
theorem chk_of {l : List Pt} (h : GoodC l) : chkS l = 0 := by
 unfold chkS
 have hne : l ≠ [] := fun e => h.ne (by rw [e]; rfl)
 have hl : l.length ≠ 0 := fun e => hne (List.length_eq_zero_iff.1 e)
 have := h.len
 rw [if_neg (by omega)]
 exact QcS l none false h.rng h.srt (fun e he => by cases he) (.inr h.ne)
theorem Qb5 {l : List Pt} {day : Int} {b : Pt} (h : geK l day = some b) : b ∈ kn l ∧ day ≤ b.f0 := by
 have := List.mem_filter.1 (List.mem_of_head? h)
 exact ⟨this.1, by simpa using this.2⟩
theorem Qb6 {l : List Pt} {day : Int} {a : Pt} (h : leK l day = some a) : a ∈ kn l ∧ a.f0 ≤ day := by
 have := List.mem_filter.1 (List.mem_of_getLast? h)
 exact ⟨this.1, by simpa using this.2⟩
theorem Qc1 {l : List Pt} (hne : kn l ≠ []) (day : Int) : leK l day ≠ none ∨ geK l day ≠ none := by
 cases hkn : kn l with
 | nil => exact absurd hkn hne
 | cons p t =>
  have hp : p ∈ kn l := by rw [hkn]; exact List.mem_cons_self
  by_cases c : p.f0 ≤ day
  ·left
   unfold leK
   intro e
   rw [List.getLast?_eq_none_iff] at e
   have := List.filter_eq_nil_iff.1 e p hp; simp at this; omega
  right
  unfold geK
  intro e
  rw [List.head?_eq_none_iff] at e
  have := List.filter_eq_nil_iff.1 e p hp; simp at this; omega
theorem Qbz {l : List Pt} (hG : GoodC l) {day tick lo hi : Int} (ht : 1 ≤ tick) (ht' : tick ≤ 16777216) (h : ∀ p ∈ kn l, lo ≤ p.f1 ∧ p.f1 ≤ hi) : 2 * lo - tick ≤ 2 * atS l day tick ∧ 2 * atS l day tick ≤ 2 * hi + tick := by
 unfold atS
 have hn := Qc1 hG.ne day
 cases hA : leK l day with
 | none =>
  cases hB : geK l day with
  | none => rw [hA, hB] at hn; simp at hn
  | some b => have := h b (Qb5 hB).1; dsimp only; omega
 | some a =>
  cases hB : geK l day with
  | none => have := h a (Qb6 hA).1; dsimp only; omega
  | some b =>
   obtain ⟨a1, a2⟩ := Qb6 hA
   obtain ⟨b1, b2⟩ := Qb5 hB
   obtain ⟨al, ah⟩ := h a a1
   obtain ⟨bl, bh⟩ := h b b1
   dsimp only
   by_cases c : a.f0 = b.f0
   ·rw [if_pos c]; omega
   rw [if_neg c]
   have hs : 0 < b.f0 - a.f0 := by omega
   have nt := Qc3 (a.f1 * (b.f0 - a.f0) + (b.f1 - a.f1) * (day - a.f0)) ((b.f0 - a.f0) * tick) (Int.mul_pos hs (by omega))
   have e : nearS (a.f1 * (b.f0 - a.f0) + (b.f1 - a.f1) * (day - a.f0)) ((b.f0 - a.f0) * tick) * ((b.f0 - a.f0) * tick) = lineS a b day tick * (b.f0 - a.f0) := by unfold lineS; rw [Int.mul_comm (b.f0 - a.f0) tick, ← Int.mul_assoc]
   rw [e] at nt
   have hN : lo * (b.f0 - a.f0) ≤ a.f1 * (b.f0 - a.f0) + (b.f1 - a.f1) * (day - a.f0) ∧ a.f1 * (b.f0 - a.f0) + (b.f1 - a.f1) * (day - a.f0) ≤ hi * (b.f0 - a.f0) := by
    have ep : a.f1 * (b.f0 - a.f0) + (b.f1 - a.f1) * (day - a.f0) = a.f1 * (b.f0 - day) + b.f1 * (day - a.f0) := by
     rw [Int.sub_mul, show b.f0 - a.f0 = (b.f0 - day) + (day - a.f0) by omega, Int.mul_add]; omega
    rw [ep, show b.f0 - a.f0 = (b.f0 - day) + (day - a.f0) by omega, Int.mul_add, Int.mul_add]
    have m1 := Int.mul_le_mul_of_nonneg_right al (show 0 ≤ b.f0 - day by omega)
    have m2 := Int.mul_le_mul_of_nonneg_right bl (show 0 ≤ day - a.f0 by omega)
    have m3 := Int.mul_le_mul_of_nonneg_right ah (show 0 ≤ b.f0 - day by omega)
    have m4 := Int.mul_le_mul_of_nonneg_right bh (show 0 ≤ day - a.f0 by omega)
    omega
   generalize a.f1 * (b.f0 - a.f0) + (b.f1 - a.f1) * (day - a.f0) = N at *
   generalize lineS a b day tick = v at *
   generalize b.f0 - a.f0 = s at *
   have q1 : (2 * lo - tick) * s ≤ (2 * v) * s := by
    rw [Int.sub_mul, Int.mul_assoc 2 lo, Int.mul_assoc 2 v, Int.mul_comm tick s]; omega
   have q2 : (2 * v) * s ≤ (2 * hi + tick) * s := by
    rw [Int.add_mul, Int.mul_assoc 2 hi, Int.mul_assoc 2 v, Int.mul_comm tick s]; omega
   exact ⟨Int.le_of_mul_le_mul_right q1 hs, Int.le_of_mul_le_mul_right q2 hs⟩
theorem QcQ {l : List Pt} (hs : l.Pairwise (fun a b => a.f0 < b.f0)) {p : Pt} (hp : p ∈ kn l) (tick : Int) : atS l p.f0 tick = p.f1 := by
 rw [QcP hs]
 have hk := kn_srt hs
 have hin : p ∈ hiK l p.f0 := List.mem_filter.2 ⟨hp, by simp⟩
 cases hH : hiK l p.f0 with
 | nil => rw [hH] at hin; cases hin
 | cons b t =>
  have hb : b ∈ hiK l p.f0 := by rw [hH]; exact List.mem_cons_self
  have hsH : (hiK l p.f0).Pairwise (fun a b => a.f0 < b.f0) := hk.filter _
  rw [hH] at hsH hin
  obtain ⟨s1, _⟩ := List.pairwise_cons.1 hsH
  have := (mem_hi hb).2
  rcases List.mem_cons.1 hin with rfl | hin
  ·dsimp only; rw [if_pos rfl]
  have := s1 p hin; omega
theorem Qds (n d c : Int) (hd : 0 < d) : nearS (n + d * (2 * c)) d = nearS n d + 2 * c := by
 unfold nearS
 rw [Int.add_mul_emod_self_left, Int.add_mul_ediv_left _ _ (Int.ne_of_gt hd)]
 by_cases h : 2 * (n % d) > d ∨ (2 * (n % d) = d ∧ n / d % 2 = 1)
 ·rw [if_pos h, if_pos (by omega)]; omega
 rw [if_neg h, if_neg (by omega)]
def upP (d : Int) (p : Pt) : Pt := if p.f2 = true then ⟨p.f0, p.f1 + d, p.f2⟩ else p
theorem upP_f0 (d : Int) (p : Pt) : (upP d p).f0 = p.f0 := by unfold upP; split <;> rfl
theorem upP_f2 (d : Int) (p : Pt) : (upP d p).f2 = p.f2 := by unfold upP; split <;> rfl
theorem kn_up (d : Int) (l : List Pt) : kn (l.map (upP d)) = (kn l).map (upP d) := by
 unfold kn
 rw [List.filter_map]
 congr 2
 funext p
 exact upP_f2 d p
theorem le_up (d : Int) (l : List Pt) (day : Int) : leK (l.map (upP d)) day = (leK l day).map (upP d) := by
 unfold leK
 rw [kn_up, List.filter_map, List.getLast?_map]
 congr 3
 funext p
 show decide ((upP d p).f0 ≤ day) = _
 rw [upP_f0]
theorem ge_up (d : Int) (l : List Pt) (day : Int) : geK (l.map (upP d)) day = (geK l day).map (upP d) := by
 unfold geK
 rw [kn_up, List.filter_map, List.head?_map]
 congr 3
 funext p
 show decide (day ≤ (upP d p).f0) = _
 rw [upP_f0]
theorem at_up {l : List Pt} (hne : kn l ≠ []) (day tick c : Int) (ht : 1 ≤ tick) : atS (l.map (upP (2 * tick * c))) day tick = atS l day tick + 2 * tick * c := by
 unfold atS
 rw [le_up, ge_up]
 have hn := Qc1 hne day
 have f1 : ∀ p ∈ kn l, (upP (2 * tick * c) p).f1 = p.f1 + 2 * tick * c := fun p hp => by unfold upP; rw [if_pos (mem_kn hp).2]
 cases hA : leK l day with
 | none =>
  cases hB : geK l day with
  | none => rw [hA, hB] at hn; simp at hn
  | some b => exact f1 b (Qb5 hB).1
 | some a =>
  cases hB : geK l day with
  | none => exact f1 a (Qb6 hA).1
  | some b =>
   obtain ⟨a1, a2⟩ := Qb6 hA
   obtain ⟨b1, b2⟩ := Qb5 hB
   simp only [Option.map_some]
   rw [upP_f0, upP_f0]
   by_cases e : a.f0 = b.f0
   ·rw [if_pos e, if_pos e, f1 a a1]
   rw [if_neg e, if_neg e]
   have hs : 0 < b.f0 - a.f0 := by omega
   unfold lineS
   rw [upP_f0, upP_f0, f1 a a1, f1 b b1, show b.f1 + 2 * tick * c - (a.f1 + 2 * tick * c) = b.f1 - a.f1 by omega]
   have en : (a.f1 + 2 * tick * c) * (b.f0 - a.f0) + (b.f1 - a.f1) * (day - a.f0) = (a.f1 * (b.f0 - a.f0) + (b.f1 - a.f1) * (day - a.f0)) + ((b.f0 - a.f0) * tick) * (2 * c) := by
    rw [Int.add_mul]
    have : 2 * tick * c * (b.f0 - a.f0) = (b.f0 - a.f0) * tick * (2 * c) := by
     rw [Int.mul_comm, Int.mul_comm 2 tick, Int.mul_assoc tick 2 c, ← Int.mul_assoc]
    omega
   rw [en, Qds _ _ _ (Int.mul_pos hs (by omega)), Int.add_mul, Int.mul_assoc 2 c tick, Int.mul_comm c tick, ← Int.mul_assoc]
end Go.Proofs.Ytaembbndjpebhaa.Pr
