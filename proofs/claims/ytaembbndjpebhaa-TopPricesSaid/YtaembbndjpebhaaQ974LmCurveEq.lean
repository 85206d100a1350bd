/- The price of a day: the code's function is the plain one. -/
import Derived.Test.YtaembbndjpebhaaQ974LmCentsMd
import Derived.Test.YtaembbndjpebhaaQ974LmCurveAt
import Derived.Test.YtaembbndjpebhaaQ974LmCurveChk
import Derived.Test.YtaembbndjpebhaaQ974LmCurveNear
import Derived.Test.YtaembbndjpebhaaQ974LmCurvePr
import Derived.Test.YtaembbndjpebhaaQ974P1
import Derived.Test.YtaembbndjpebhaaQ974P0
namespace Go.Proofs.Ytaembbndjpebhaa.Pr
open Go.RowKit Go.Proofs.Ytaembbndjpebhaa.Pr Go.Proofs.YtaembbndjpebhaaW.PrintWords Go.Proofs.YtaembbndjpebhaaW.PrintLast Go.Proofs.YtaembbndjpebhaaW.PrintMore
set_option linter.unusedVariables false
set_option linter.unusedSimpArgs false
theorem Qej {a b : Pt} {day tick : Int} (ha : QaV a.f1) (hb : QaV b.f1) (h0 : 0 ≤ a.f0) (h1 : a.f0 ≤ day) (h2 : day ≤ b.f0) (h3 : a.f0 < b.f0) (h4 : b.f0 ≤ 73048) (ht : 1 ≤ tick) (ht' : tick ≤ 16777216) :
  -10000000000000 ≤ a.f1 * (b.f0 - a.f0) + (b.f1 - a.f1) * (day - a.f0) ∧ a.f1 * (b.f0 - a.f0) + (b.f1 - a.f1) * (day - a.f0) ≤ 10000000000000 ∧ 0 < (b.f0 - a.f0) * tick ∧ (b.f0 - a.f0) * tick ≤ 1225562079232 ∧
  wrap64 (wrap64 (a.f1 * wrap64 (b.f0 - a.f0)) + wrap64 (wrap64 (b.f1 - a.f1) * wrap64 (day - a.f0))) = a.f1 * (b.f0 - a.f0) + (b.f1 - a.f1) * (day - a.f0) ∧
  wrap64 (wrap64 (b.f0 - a.f0) * tick) = (b.f0 - a.f0) * tick ∧ wrap64 (nearS (a.f1 * (b.f0 - a.f0) + (b.f1 - a.f1) * (day - a.f0)) ((b.f0 - a.f0) * tick) * tick) = lineS a b day tick ∧ -20000000000000 ≤ lineS a b day tick ∧ lineS a b day tick ≤ 20000000000000 := by
 obtain ⟨b1, b2, _, _, b5⟩ := Qei (a1 := a.f1) (b1 := b.f1) (s := b.f0 - a.f0) (t := day - a.f0) ha hb (by omega) (by omega) (by omega) (by omega)
 obtain ⟨s1, s2, s3⟩ := Qep (s := b.f0 - a.f0) (k := tick) (by omega) (by omega) ht ht'
 have nt := Qco (a.f1 * (b.f0 - a.f0) + (b.f1 - a.f1) * (day - a.f0)) _ s1
 have hv : -20000000000000 ≤ lineS a b day tick ∧ lineS a b day tick ≤ 20000000000000 := by
  unfold lineS
  generalize a.f1 * (b.f0 - a.f0) + (b.f1 - a.f1) * (day - a.f0) = N at *
  have e : nearS N ((b.f0 - a.f0) * tick) * ((b.f0 - a.f0) * tick) = (nearS N ((b.f0 - a.f0) * tick) * tick) * (b.f0 - a.f0) := by rw [Int.mul_comm (b.f0 - a.f0) tick, Int.mul_assoc]
  rw [e] at nt
  have hs : 1 ≤ b.f0 - a.f0 := by omega
  generalize (b.f0 - a.f0) * tick = D at *
  generalize nearS N D * tick = v at *
  generalize b.f0 - a.f0 = s at *
  constructor
  ·refine Int.not_lt.1 (fun hlt => ?_)
   have : v * s ≤ v * 1 := Int.mul_le_mul_of_nonpos_left (by omega) hs
   omega
  refine Int.not_lt.1 (fun hlt => ?_)
  have : v * 1 ≤ v * s := Int.mul_le_mul_of_nonneg_left hs (by omega)
  omega
 exact ⟨b1, b2, s1, s2, b5, s3, IntWalk.wrap64_in _ (by show -9223372036854775808 ≤ lineS a b day tick ∧ lineS a b day tick ≤ 9223372036854775807; omega), hv⟩
theorem lo_rd (L : List Pt) (a : Pt) (R : List Int) : rd ((L ++ [a]).map (fun p => p.f0) ++ R) (L.length : Int) = a.f0 := by
 rw [ci_rd _ _ (by simp), List.getElem_append_left (by simp)]
 simp
theorem hi_rd (L : List Int) (b : Int) (t : List Int) : rd (L ++ b :: t) (L.length : Int) = b := by
 rw [ci_rd _ _ (by simp), List.getElem_append_right (Nat.le_refl _)]
 simp
theorem mem_kn {l : List Pt} {p : Pt} (h : p ∈ kn l) : p ∈ l ∧ p.f2 = true := List.mem_filter.1 h
theorem mem_lo {l : List Pt} {day : Int} {p : Pt} (h : p ∈ loK l day) : p ∈ kn l ∧ p.f0 < day := by
 have := List.mem_filter.1 h
 exact ⟨this.1, by simpa using this.2⟩
theorem mem_hi {l : List Pt} {day : Int} {p : Pt} (h : p ∈ hiK l day) : p ∈ kn l ∧ day ≤ p.f0 := by
 have := List.mem_filter.1 h
 exact ⟨this.1, by simpa using this.2⟩
theorem Qd4 (l : List Pt) (hG : GoodC l) (day tick : Int) (hd : 0 ≤ day) (hd' : day ≤ 73048) (ht : 1 ≤ tick) (ht' : tick ≤ 16777216) (k : Nat) (hk : 2000 ≤ k) : QaF.f k l day tick = some (atS l day tick) := by
 have hl := hG.len
 have hw : ∀ p ∈ l, p.f2 = true → wfI p.f0 ∧ wfI p.f1 := fun p hp hk => by
  obtain ⟨r1, r2, r3⟩ := hG.rng p hp
  have := r3 hk
  exact ⟨Qcr (by omega) (by omega), Qcr (by have := this.1; omega) (by have := this.2; omega)⟩
 obtain ⟨m, rfl⟩ : ∃ m, k = l.length + 1 + m := ⟨k - l.length - 1, by omega⟩
 have h1 := Qdt l (by omega) hw day tick m l.length 0 (fun _ => 0) 0 [] (by omega) (Nat.le_refl _) (Nat.le_refl _)
 have hF := mpF_in l (fun _ => 0) hG.srt
 rw [List.drop_zero, List.nil_append] at h1
 unfold QaF.f
 show QaF.l0 _ l day tick (fun _ => 0) 0 [] ((0 : Nat) : Int) = _
 rw [h1, QdO hG.srt]
 clear h1
 generalize mpF (fun _ => 0) l = F at *
 have hsp : kn l = loK l day ++ hiK l day := QcT (kn_srt hG.srt) day
 have hkl : (kn l).length ≤ l.length := List.length_filter_le _ _
 rw [hsp, List.length_append] at hkl
 have hbs := bs_eq ((loK l day).map (fun p => p.f0)) ((hiK l day).map (fun p => p.f0)) day (fun x hx => by obtain ⟨p, hp, rfl⟩ := List.mem_map.1 hx; exact (mem_lo hp).2) (fun x hx => by obtain ⟨p, hp, rfl⟩ := List.mem_map.1 hx; exact (mem_hi hp).2) (by simp; omega) m (by omega)
 have hwd : wfI day := Qcr (by omega) (by omega)
 have hFlo : ∀ p ∈ loK l day, F p.f0 = p.f1 ∧ wfI p.f0 ∧ QaV p.f1 ∧ 0 ≤ p.f0 ∧ p.f0 < day := fun p hp => by
  obtain ⟨q1, q2⟩ := mem_lo hp
  obtain ⟨q3, q4⟩ := mem_kn q1
  exact ⟨hF p q1, (hw p q3 q4).1, (hG.rng p q3).2.2 q4, (hG.rng p q3).1, q2⟩
 have hFhi : ∀ p ∈ hiK l day, F p.f0 = p.f1 ∧ wfI p.f0 ∧ QaV p.f1 ∧ p.f0 ≤ 73048 ∧ day ≤ p.f0 := fun p hp => by
  obtain ⟨q1, q2⟩ := mem_hi hp
  obtain ⟨q3, q4⟩ := mem_kn q1
  exact ⟨hF p q1, (hw p q3 q4).1, (hG.rng p q3).2.2 q4, (hG.rng p q3).2.1, q2⟩
 unfold QaF.t
 rw [hsp, List.map_append, hbs, Option.bind_some]
 dsimp only
 have hne : loK l day ++ hiK l day ≠ [] := hsp ▸ hG.ne
 cases hH : hiK l day with
 | nil =>
  rw [hH] at hne
  rcases List.eq_nil_or_concat (loK l day) with h | ⟨L, a, h⟩
  ·rw [h] at hne; exact absurd rfl hne
  rw [List.concat_eq_append] at h
  rw [h] at hFlo ⊢
  obtain ⟨f1, f2, _, _, _⟩ := hFlo a (by simp)
  rw [List.map_nil, if_neg (by simp), if_neg (by simp; omega), if_pos (by simp)]
  have e : wrap64 ((((L ++ [a]).map (fun p => p.f0)).length : Int) - 1) = (L.length : Int) := by
   have : L.length ≤ 1000 := by rw [h] at hkl; simp at hkl; omega
   rw [IntWalk.wrap64_in _ (by simp; omega)]
   simp
  rw [e, lo_rd, if_pos ⟨by omega, by simp; omega, f2⟩, f1, List.getLast?_concat]
 | cons b t =>
  rw [hH] at hFhi
  obtain ⟨g1, g2, g3, g4, g5⟩ := hFhi b List.mem_cons_self
  rw [List.map_cons, List.head?_cons]
  dsimp only
  by_cases c : b.f0 = day
  ·rw [if_pos (by simp [c]), if_pos hwd, if_pos c, ← c, g1]
  rw [if_neg (by simp [c]), if_neg c]
  rcases List.eq_nil_or_concat (loK l day) with h | ⟨L, a, h⟩
  ·rw [h, List.map_nil, List.nil_append, if_pos (by simp)]
   have e : rd (b.f0 :: t.map (fun p => p.f0)) 0 = b.f0 := hi_rd [] _ _
   rw [e, if_pos ⟨by simp, g2⟩, g1]
   rfl
  rw [List.concat_eq_append] at h
  rw [h] at hFlo hkl ⊢
  obtain ⟨f1, f2, f3, f4, f5⟩ := hFlo a (by simp)
  have hLl : L.length ≤ 1000 := by simp at hkl; omega
  have e : wrap64 ((((L ++ [a]).map (fun p => p.f0)).length : Int) - 1) = (L.length : Int) := by
   rw [IntWalk.wrap64_in _ (by simp; omega)]
   simp
  rw [if_neg (by simp; omega), if_neg (by simp; omega), e, lo_rd, hi_rd, if_pos ⟨⟨by omega, by simp; omega, f2⟩, by omega, by simp; omega, g2⟩, f1, g1, List.getLast?_concat]
  obtain ⟨b1, b2, s1, s2, e1, e2, e3, _⟩ := Qej (a := a) (b := b) (day := day) (tick := tick) f3 g3 f4 (by omega) (by omega) (by omega) g4 ht ht'
  rw [e1, e2, md_eq, if_pos ⟨⟨by omega, by omega⟩, ⟨by omega, by omega⟩, ⟨by omega, by omega⟩, by omega, by omega⟩, if_neg (by omega), Qdi _ _ (by omega) (by omega) s1, Option.bind_some, e3]
end Go.Proofs.Ytaembbndjpebhaa.Pr
