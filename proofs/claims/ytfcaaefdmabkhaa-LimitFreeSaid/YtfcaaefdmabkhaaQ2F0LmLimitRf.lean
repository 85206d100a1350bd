/- Limits: how many may be taken back, by the reference's halves. -/
import Derived.Test.YtfcaaefdmabkhaaQ2F0LmAsset
import Derived.Test.YtfcaaefdmabkhaaQ2F0LmAssetAll
import Derived.Test.YtfcaaefdmabkhaaQ2F0LmBytes
import Derived.Test.YtfcaaefdmabkhaaQ2F0LmLimit
import Derived.Test.YtfcaaefdmabkhaaQ2F0LmLimitCap
import Derived.Test.YtfcaaefdmabkhaaQ2F0LmLimitF
import Derived.Test.YtfcaaefdmabkhaaQ2F0LmLimitFr
import Derived.Test.YtfcaaefdmabkhaaQ2F0LmName
import Derived.Test.YtfcaaefdmabkhaaQ2F0LmPledge
import Derived.Test.YtfcaaefdmabkhaaQ2F0LmPledge2
import Derived.Test.YtfcaaefdmabkhaaQ2F0LmPledge3
import Derived.Test.YtfcaaefdmabkhaaQ2F0LmPledgeW
import Derived.Test.YtfcaaefdmabkhaaQ2F0LmRate
import Derived.Test.YtfcaaefdmabkhaaQ2F0P0
import Derived.Test.YtfcaaefdmabkhaaQ2F0P2
import Derived.Test.YtfcaaefdmabkhaaQ2F0P8
namespace Go.Proofs.Ytfcaaefdmabkhaa.Pr
open Go.RowKit Go.Proofs.Ytfcaaefdmabkhaa.Pr Go.Proofs.YtfcaaefdmabkhaaW.PrintWords Go.Proofs.YtfcaaefdmabkhaaW.PrintLast Go.Proofs.YtfcaaefdmabkhaaW.PrintMore
set_option linter.unusedVariables false
set_option linter.unusedSimpArgs false
def woP (q : PK) (m : Int) : List Pled → List Pled
 | [] => []
 | p :: t => (if pkey p = q then (if p.f2 - m > 0 then [plOf q (p.f2 - m)] else []) else (if p.f2 > 0 then [p] else [])) ++ woP q m t
theorem QcP (q : PK) (m : Int) (p : Pled) (t : List Pled) : woP q m (p :: t) = (if pkey p = q then (if p.f2 - m > 0 then [plOf q (p.f2 - m)] else []) else (if p.f2 > 0 then [p] else [])) ++ woP q m t := rfl
theorem Qd5 (q : PK) (m : Int) : ∀ l r : List Pled, woP q m (l ++ r) = woP q m l ++ woP q m r
 | [], r => rfl
 | p :: t, r => by rw [List.cons_append, QcP, QcP, Qd5 q m t r, List.append_assoc]
theorem woP_id (q : PK) (m : Int) : ∀ l : List Pled, (∀ p ∈ l, pkey p ≠ q ∧ p.f2 > 0) → woP q m l = l
 | [], _ => rfl
 | p :: t, h => by
  have hp := h p List.mem_cons_self
  rw [QcP, if_neg hp.1, if_pos hp.2, woP_id q m t (fun x hx => h x (List.mem_cons_of_mem _ hx))]
  rfl
theorem Qhh (q : PK) (m : Int) (l : List Pled) (h : goodP l) (hm : 1 ≤ m ∧ m ≤ hadP q l) : woP q m l = insP q (hadP q l - m) l := by
 have hsp := split3 q l h.2.1
 have hlo : woP q m (loP q l) = loP q l := woP_id q m _ (fun p hp => ⟨klt_ne (lo_lt hp), by have := (Qck _).1 (h.2.2 p (List.mem_filter.1 hp).1).2; omega⟩)
 have hhi : woP q m (hiP q l) = hiP q l := woP_id q m _ (fun p hp => ⟨fun e => klt_ne (hi_gt hp) e.symm, by have := (Qck _).1 (h.2.2 p (List.mem_filter.1 hp).1).2; omega⟩)
 rcases QcH (q := q) h with ⟨_, e⟩ | ⟨z, z1, z2, z3, z4, z5, z6⟩
 ·omega
 conv => lhs; rw [hsp]
 rw [Qd5, Qd5, hlo, hhi, z1, QcP, if_pos z3, ← z4]
 unfold insP
 congr 2
 by_cases e : hadP q l - m = 0
 ·rw [if_pos e, if_neg (by omega)]; rfl
 rw [if_neg e, if_pos (by omega)]; rfl
theorem Qhi (q : PK) (m : Int) (l : List Pled) (hl : l.length ≤ 1073741824) (hm : 0 ≤ m ∧ m ≤ 1152921504606846976) (hq : ∀ p ∈ l, 1 ≤ p.f2 ∧ p.f2 ≤ 1152921504606846976) : ∀ d i k : Nat, i + d = l.length → 2 * d + 1 ≤ k → ∀ out : List Pled, out.length ≤ i → QaA.l0 k l q.2.2 m out (i : Int) q.1 q.2.1 = some (out ++ woP q m (l.drop i)) := by
 intro d
 induction d with
 | zero =>
  intro i k hi hk out ho
  obtain ⟨k, rfl⟩ : ∃ x, k = x + 1 := ⟨k - 1, by omega⟩
  rw [QaA.l0, if_neg (by omega), List.drop_eq_nil_of_le (by omega)]
  simp [woP]
 | succ d ih =>
  intro i k hi hk out ho
  obtain ⟨k, rfl⟩ : ∃ x, k = x + 2 := ⟨k - 2, by omega⟩
  have hd := Qce l i (by omega)
  have hp := hq _ (List.mem_of_mem_drop (hd ▸ List.mem_cons_self) : rd_T46 l (i : Int) ∈ l)
  rw [QaA.l0, if_pos (by omega), if_pos (by omega), hd, QcP]
  generalize rd_T46 l (i : Int) = p at *
  have tail : ∀ b : Bool, b = decide (pkey p = q) → QaA.j1 (k + 1) l q.2.2 m out (i : Int) b q.1 q.2.1 p.f0.f0 p.f0.f1 p.f1 p.f2 = some (out ++ ((if pkey p = q then (if p.f2 - m > 0 then [plOf q (p.f2 - m)] else []) else (if p.f2 > 0 then [p] else [])) ++ woP q m (l.drop (i + 1)))) := by
   intro b hb
   rw [QaA.j1, nwrap (x := (i : Int) + 1) (by omega) (by omega), show ((i : Int) + 1) = ((i + 1 : Nat) : Int) by omega, IntWalk.wrap64_in (p.f2 - m) (by omega)]
   by_cases h1 : pkey p = q
   ·rw [decide_eq_true h1] at hb
    rw [hb, if_pos rfl, if_pos h1]
    by_cases h2 : p.f2 - m > 0
    ·rw [if_pos h2, if_pos h2, if_pos (by omega), ih (i + 1) k (by omega) (by omega) _ (by simp; omega), List.append_assoc, ← h1]
     rfl
    rw [if_neg h2, if_neg h2, ih (i + 1) k (by omega) (by omega) _ (by omega)]
    rfl
   rw [decide_eq_false h1] at hb
   rw [hb, if_neg (by simp), if_neg h1]
   by_cases h2 : p.f2 > 0
   ·rw [if_pos h2, if_pos h2, if_pos (by omega), ih (i + 1) k (by omega) (by omega) _ (by simp; omega), List.append_assoc]
   rw [if_neg h2, if_neg h2, ih (i + 1) k (by omega) (by omega) _ (by omega)]
   rfl
  have hk2 : pkey p = q ↔ (p.f0.f0 = q.1 ∧ p.f0.f1 = q.2.1) ∧ p.f1 = q.2.2 := by
   obtain ⟨q1, q2, q3⟩ := q
   unfold pkey
   constructor
   ·intro e; cases e; exact ⟨⟨rfl, rfl⟩, rfl⟩
   rintro ⟨⟨e1, e2⟩, e3⟩; rw [e1, e2, e3]
  by_cases h1 : p.f0.f0 = q.1 ∧ p.f0.f1 = q.2.1
  ·rw [if_pos ((qcond p q.1 q.2.1).2 h1)]
   refine tail _ ?_
   by_cases h3 : p.f1 = q.2.2
   ·rw [decide_eq_true (hk2.2 ⟨h1, h3⟩), h3]; simp
   rw [decide_eq_false (fun e => h3 (hk2.1 e).2)]
   exact beq_eq_false_iff_ne.2 (fun e => h3 ((tl_iff _ _).1 e))
  rw [if_neg (fun e => h1 ((qcond p q.1 q.2.1).1 e))]
  exact tail _ (decide_eq_false (fun e => h1 (hk2.1 e).1)).symm
theorem wo_eq (q : PK) (m : Int) (l : List Pled) (h : goodP l) (hm : 1 ≤ m ∧ m ≤ hadP q l) (k : Nat) (hk : 2100 ≤ k) : QaA.f k l q.1 q.2.1 q.2.2 m = some (insP q (hadP q l - m) l) := by
 unfold QaA.f
 have hb := had_bd (q := q) h
 have hl := h.1
 rw [show (0 : Int) = ((0 : Nat) : Int) from rfl, Qhi q m l (by omega) ⟨by omega, by omega⟩ (fun p hp => (Qck _).1 (h.2.2 p hp).2) l.length 0 k (by omega) (by omega) [] (Nat.le_refl _), List.drop_zero, List.nil_append, Qhh q m l h hm]
theorem Qc1 : ∀ l m : List Pled, szsP (l ++ m) = szsP l + szsP m
 | [], m => by rw [List.nil_append]; show _ = 0 + _; omega
 | p :: t, m => by
  have := Qc1 t m
  rw [List.cons_append]
  show szP p + szsP (t ++ m) = (szP p + szsP t) + szsP m
  omega
theorem Qhe (q : PK) (x : Int) (l : List Pled) (h : QbX l) : szsP (insP q x l) ≤ szsP l + (q.1.size + q.2.1.size + q.2.2.size) := by
 have e : szsP l = szsP (loP q l) + (szsP (midP q l) + szsP (hiP q l)) := by
  conv => lhs; rw [split3 q l h]
  rw [Qc1, Qc1]
 have e2 : szsP (if x = 0 then ([] : List Pled) else [plOf q x]) ≤ q.1.size + q.2.1.size + q.2.2.size := by
  split
  ·exact Nat.zero_le _
  show (q.1.size + q.2.1.size + q.2.2.size) + 0 ≤ _
  omega
 unfold insP
 rw [Qc1, Qc1]
 omega
theorem QgO (i j : Int) (h0 : 0 ≤ i) (h1 : i ≤ j) (h2 : j ≤ 1152921504606846976) : wrap64 (i + (wrap64 (Int.tdiv (wrap64 ((wrap64 (j - i)) + 1)) 2))) = i + (j - i + 1) / 2 := by
 rw [IntWalk.wrap64_in (j - i) (by omega), IntWalk.wrap64_in (j - i + 1) (by omega), Int.tdiv_eq_ediv_of_nonneg (by omega), IntWalk.wrap64_in ((j - i + 1) / 2) (by omega), IntWalk.wrap64_in _ (by omega)]
theorem Qhc (l : List Pled) (hbl : ∀ p ∈ l, bigOk p) (q : PK) (hq : q.1.size ≤ 9223372036854775807 ∧ q.2.1.size ≤ 9223372036854775807 ∧ q.2.2.size ≤ 9223372036854775807) (n : Int) (L : List As) (R : List Rt) (hbL : ∀ a ∈ L, a.f0.size ≤ 9223372036854775807) (hbR : ∀ r ∈ R, r.f0.size ≤ 9223372036854775807) (h : (pwS l q.1 q.2.1 L R).2 = 0) (hn : moneyN n) : ∀ (d : Nat) (i j : Int) (k : Nat), 0 ≤ i → i ≤ j → j ≤ hadP q l → j - i ≤ (d : Int) → d + 8000 + szsP l + (q.1.size + q.2.1.size + q.2.2.size) + szA L + szR R ≤ k → QbM l q n L R i → (∀ m, j < m → m ≤ hadP q l → ¬ QbM l q n L R m) →
  ∃ v, QaD.l0 k l q.2.2 n L R i j q.1 q.2.1 = some (v, 0) ∧ 0 ≤ v ∧ v ≤ hadP q l ∧ QbM l q n L R v ∧ (∀ m, v < m → m ≤ hadP q l → ¬ QbM l q n L R m) := by
 intro d
 have hg := (Qch h).1
 have hb := had_bd (q := q) hg
 induction d with
 | zero =>
  intro i j k h0 h1 h2 h3 hk ha hz
  obtain ⟨k, rfl⟩ : ∃ m, k = m + 1 := ⟨k - 1, by omega⟩
  refine ⟨i, ?_, h0, by omega, ha, fun m hm hm2 => hz m (by omega) hm2⟩
  rw [QaD.l0, if_neg (by omega)]
 | succ d ih =>
  intro i j k h0 h1 h2 h3 hk ha hz
  obtain ⟨k, rfl⟩ : ∃ m, k = m + 1 := ⟨k - 1, by omega⟩
  by_cases hij : i < j
  ·rw [QaD.l0, if_pos hij, QgO i j h0 h1 (by omega)]
   obtain ⟨c, hc⟩ : ∃ c, c = i + (j - i + 1) / 2 := ⟨_, rfl⟩
   have c1 : i < c ∧ c ≤ j := by omega
   rw [← hc]
   have hbig : ∀ p ∈ insP q (hadP q l - c) l, bigOk p := by
    intro p hp
    rcases QeW hp with hp | ⟨_, rfl⟩
    ·exact hbl p hp
    exact hq
   have hsz : szsP (insP q (hadP q l - c) l) ≤ szsP l + (q.1.size + q.2.1.size + q.2.2.size) := Qhe q _ l hg.2.1
   rw [wo_eq q c l hg ⟨by omega, by omega⟩ k (by omega), Option.bind_some, Qel _ hbig _ _ n L R hbL hbR k (by omega), Option.bind_some, Qdg h hn c ⟨by omega, by omega⟩, if_pos rfl, IntWalk.wrap64_in (c - 1) (by omega)]
   by_cases hp : QbM l q n L R c
   ·rw [if_pos (show baseC L R n q l + leftC L R n q (hadP q l - c) ≥ n from hp)]
    exact ih c j k (by omega) (by omega) h2 (by omega) (by omega) hp hz
   rw [if_neg (show ¬ baseC L R n q l + leftC L R n q (hadP q l - c) ≥ n from hp)]
   exact ih i (c - 1) k h0 (by omega) (by omega) (by omega) (by omega) ha (fun m hm hm2 e => hp (QcC h hn (by omega) (by omega) hm2 e))
  refine ⟨i, ?_, h0, by omega, ha, fun m hm hm2 => hz m (by omega) hm2⟩
  rw [QaD.l0, if_neg hij]
theorem Qgv (l : List Pled) (hbl : ∀ p ∈ l, bigOk p) (q : PK) (hq : q.1.size ≤ 9223372036854775807 ∧ q.2.1.size ≤ 9223372036854775807 ∧ q.2.2.size ≤ 9223372036854775807) (n : Int) (L : List As) (R : List Rt) (hbL : ∀ a ∈ L, a.f0.size ≤ 9223372036854775807) (hbR : ∀ r ∈ R, r.f0.size ≤ 9223372036854775807) (k : Nat) (hk : (hadP q l).toNat + 9000 + szsP l + (q.1.size + q.2.1.size + q.2.2.size) + szA L + szR R ≤ k) : ∃ v e, QaD.f k l q.1 q.2.1 q.2.2 n L R = some (v, e) ∧ freeIs l q n L R v e := by
 unfold QaD.f freeIs
 rw [Qel _ hbl _ _ n L R hbL hbR k (by omega), Option.bind_some]
 by_cases hc : (covS l q.1 q.2.1 n L R).2 = 0
 ·obtain ⟨h1, h2, h3, h4⟩ := cov_ok (QeS hc)
  obtain ⟨hg, hL⟩ := Qch h1
  have hl := hg.1
  have hb := had_bd (q := q) hg
  rw [if_pos hc, Qdl L _ (by omega) k (by omega), Option.bind_some]
  by_cases hf : (findA L q.2.2 0 L.length).2.2.2.2.2.2 = true
  ·rw [if_pos hf, Qee h1 h2]
   by_cases hp : QbM l q n L R 0
   ·rw [if_neg (show ¬ baseC L R n q l + leftC L R n q (hadP q l - 0) < n from Int.not_lt.2 hp), Qgl q l (by omega) k (by omega), Option.bind_some]
    obtain ⟨v, v1, v2, v3, v4, v5⟩ := Qhc l hbl q hq n L R hbL hbR h1 h2 (hadP q l).toNat 0 (hadP q l) k (Int.le_refl _) hb.1 (Int.le_refl _) (by omega) (by omega) hp (fun m hm hm2 => by omega)
    exact ⟨_, _, v1, Or.inr (Or.inr ⟨rfl, hf, rfl, Or.inr ⟨hp, v2, v3, fun m hm hm2 => QcC h1 h2 hm hm2 v3 v4, v5⟩⟩)⟩
   rw [if_pos (show baseC L R n q l + leftC L R n q (hadP q l - 0) < n from Int.not_le.1 hp)]
   exact ⟨_, _, rfl, Or.inr (Or.inr ⟨rfl, hf, rfl, Or.inl ⟨hp, rfl⟩⟩)⟩
  rw [if_neg hf]
  exact ⟨_, _, rfl, Or.inr (Or.inl ⟨hc, hf, rfl, rfl⟩)⟩
 rw [if_neg hc]
 exact ⟨_, _, rfl, Or.inl ⟨hc, rfl, rfl⟩⟩
end Go.Proofs.Ytfcaaefdmabkhaa.Pr
