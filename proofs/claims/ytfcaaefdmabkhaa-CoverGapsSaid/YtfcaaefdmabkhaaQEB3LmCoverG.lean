/- Cover: what the gaps are when they are told. -/
import Derived.Test.YtfcaaefdmabkhaaQEB3LmAsset
import Derived.Test.YtfcaaefdmabkhaaQEB3LmCover0
import Derived.Test.YtfcaaefdmabkhaaQEB3LmCoverA
import Derived.Test.YtfcaaefdmabkhaaQEB3LmLimit
import Derived.Test.YtfcaaefdmabkhaaQEB3LmName
import Derived.Test.YtfcaaefdmabkhaaQEB3LmPledge
import Derived.Test.YtfcaaefdmabkhaaQEB3LmPledgeOf
import Derived.Test.YtfcaaefdmabkhaaQEB3LmPledgeTop
import Derived.Test.YtfcaaefdmabkhaaQEB3LmPledgeW
import Derived.Test.YtfcaaefdmabkhaaQEB3LmRate
import Derived.Test.YtfcaaefdmabkhaaQEB3P0
import Derived.Test.YtfcaaefdmabkhaaQEB3P7
namespace Go.Proofs.Ytfcaaefdmabkhaa.Pr
open Go.RowKit Go.Proofs.Ytfcaaefdmabkhaa.Pr Go.Proofs.YtfcaaefdmabkhaaW.PrintWords Go.Proofs.YtfcaaefdmabkhaaW.PrintLast Go.Proofs.YtfcaaefdmabkhaaW.PrintMore
set_option linter.unusedVariables false
set_option linter.unusedSimpArgs false
theorem QdB (l : List Pled) (L : List As) (R : List Rt) : ∀ (x : List Nd) (out : List Gp), (allL l L R out x).2 = 0 → (allL l L R out x).1 = out ++ x.map (gapN l L R) ∧ ∀ p ∈ x, moneyN p.f7 ∧ (covN l L R p).2 = 0 ∧ (lackS p.f7 (covN l L R p).1).2 = 0
 | [], out, _ => ⟨by show out = _; simp, fun p hp => by cases hp⟩
 | p :: t, out, h => by
  rw [Qb0] at h ⊢
  by_cases h1 : moneyN p.f7
  ·rw [if_pos h1] at h ⊢
   by_cases h2 : (covN l L R p).2 = 0
   ·rw [if_pos h2] at h ⊢
    by_cases h3 : (lackS p.f7 (covN l L R p).1).2 = 0
    ·rw [if_pos h3] at h ⊢
     obtain ⟨i1, i2⟩ := QdB l L R t _ h
     refine ⟨by rw [i1, List.append_assoc]; rfl, fun q hq => ?_⟩
     rcases List.mem_cons.1 hq with rfl | hq
     ·exact ⟨h1, h2, h3⟩
     exact i2 q hq
    rw [if_neg h3] at h; exact absurd h h3
   rw [if_neg h2] at h; exact absurd h h2
  rw [if_neg h1] at h; cases h
theorem Qdg (l : List Pled) (L : List As) (R : List Rt) : ∀ (x : List Nd) (out : List Gp), (allL l L R out x).2 ≠ 0 → (allL l L R out x).1 = []
 | [], out, h => absurd rfl h
 | p :: t, out, h => by
  rw [Qb0] at h ⊢
  by_cases h1 : moneyN p.f7
  ·rw [if_pos h1] at h ⊢
   by_cases h2 : (covN l L R p).2 = 0
   ·rw [if_pos h2] at h ⊢
    by_cases h3 : (lackS p.f7 (covN l L R p).1).2 = 0
    ·rw [if_pos h3] at h ⊢
     exact Qdg l L R t _ h
    rw [if_neg h3]
   rw [if_neg h2]
  rw [if_neg h1]
theorem QeY (l : List Pled) (L : List As) (R : List Rt) (x : List Nd) (h : (allS l L R x).2 = 0) : (allS l L R x).1 = x.map (gapN l L R) ∧ ∀ p ∈ x, moneyN p.f7 ∧ (covN l L R p).2 = 0 ∧ (lackS p.f7 (covN l L R p).1).2 = 0 := by
 unfold allS at *
 by_cases h1 : (x.length : Int) > 1024
 ·rw [if_pos h1] at h; cases h
 rw [if_neg h1] at h ⊢
 have := QdB l L R x [] h
 rwa [List.nil_append] at this
theorem Qeq (l : List Pled) (L : List As) (R : List Rt) (x : List Nd) (h : (allS l L R x).2 ≠ 0) : (allS l L R x).1 = [] := by
 unfold allS at *
 by_cases h1 : (x.length : Int) > 1024
 ·rw [if_pos h1]
 rw [if_neg h1] at h ⊢
 exact Qdg l L R x [] h
theorem Qev (l : List Pled) (a b : ByteArray) (n : Int) (L : List As) (R : List Rt) (h : (covS l a b n L R).2 = 0) (he : ofP a b l = []) : (covS l a b n L R).1 = 0 := by
 unfold covS at *
 by_cases h1 : (cntS l a b n L R).2 = 0
 ·rw [if_pos h1] at h ⊢
  have : (cntS l a b n L R).1 = [] := by
   unfold cntS at *
   by_cases h2 : (pwS l a b L R).2 = 0
   ·rw [if_pos h2] at h1 ⊢
    by_cases h3 : moneyN n
    ·rw [if_pos h3, he]; rfl
    rw [if_neg h3]
   rw [if_neg h2]
  rw [this] at h ⊢
  rw [Qdb h]; rfl
 rw [if_neg h1]
def hasP (a b : ByteArray) (l : List Pled) : Bool := l.any (fun p => (p.f0.f0.toList == a.toList) && (p.f0.f1.toList == b.toList))
theorem QeA {a b : ByteArray} {l : List Pled} (h : hasP a b l = false) : ofP a b l = [] := by
 unfold ofP
 rw [List.filter_eq_nil_iff]
 intro p hp e
 unfold hasP at h
 rw [List.any_eq_false] at h
 exact h p hp ((qcond p a b).2 (of_decide_eq_true e))
theorem cg_any (l : List Pled) (L : List As) (R : List Rt) (x : List Nd) (g : List Gp) (i : Nat) (hi : i < x.length) (hx : x.length ≤ 40) (hl : l.length ≤ 1000) (m : Nat) : ∀ d j : Nat, j + d = l.length → ∀ b : Bool,
  contangolaw34_CoverGaps.l1 (d + m) x g (i : Int) b (j : Int) l L R = contangolaw34_CoverGaps.l1 m x g (i : Int) (b || hasP (rd_T48 x (i : Int)).f0.f0 (rd_T48 x (i : Int)).f0.f1 (l.drop j)) (l.length : Int) l L R := by
 intro d
 induction d with
 | zero =>
  intro j hj b
  rw [List.drop_eq_nil_of_le (by omega), show (j : Int) = (l.length : Int) by omega, Nat.zero_add]
  simp [hasP]
 | succ d ih =>
  intro j hj b
  rw [show d + 1 + m = (d + m) + 1 by omega, contangolaw34_CoverGaps.l1, if_pos (by omega), nwrap (x := (j : Int) + 1) (by omega) (by omega), show ((j : Int) + 1) = ((j + 1 : Nat) : Int) by omega, Qb6 l j (by omega)]
  unfold hasP
  rw [List.any_cons]
  cases b with
  | true => rw [if_pos rfl, ih (j + 1) (by omega) true, Bool.true_or, Bool.true_or]
  | false =>
   rw [if_neg (by simp), if_pos (by omega), if_pos (by omega), if_pos (by omega), ih (j + 1) (by omega) _, Bool.false_or]
   rfl
theorem Qe3 (l : List Pled) (L : List As) (R : List Rt) (x : List Nd) (hl : l.length ≤ 1000) (hx : x.length ≤ 40) (hp : ∀ p ∈ x, moneyN p.f7 ∧ (covN l L R p).2 = 0 ∧ (lackS p.f7 (covN l L R p).1).2 = 0) (K : Nat) (hK : 8000 ≤ K) :
  ∀ d i k : Nat, i + d = x.length → k = d * (l.length + 2) + K → contangolaw34_CoverGaps.l0 k x (x.map (gapN l L R)) (i : Int) l L R = some true := by
 intro d
 induction d with
 | zero =>
  intro i k hi hk
  obtain ⟨k, rfl⟩ : ∃ m, k = m + 1 := ⟨k - 1, by omega⟩
  rw [contangolaw34_CoverGaps.l0, List.length_map, if_neg (by omega), goes34 k (by omega)]
  rfl
 | succ d ih =>
  intro i k hi hk
  obtain ⟨m, rfl⟩ : ∃ m, k = (l.length + (m + 1)) + 1 := ⟨d * (l.length + 2) + K, by rw [hk, Nat.add_mul]; omega⟩
  have hd := QcW x i (by omega)
  obtain ⟨q1, q2, q3⟩ := hp _ (List.mem_of_mem_drop (hd ▸ List.mem_cons_self))
  have hm : m = d * (l.length + 2) + K := by rw [Nat.add_mul] at hk; omega
  have hg : rd_T50 (x.map (gapN l L R)) (i : Int) = gapN l L R (rd_T48 x (i : Int)) := by
   rw [gp_rd _ i (by simp; omega), List.getElem_map]
   congr 1
   have := QcW x i (by omega)
   rw [List.drop_eq_getElem_cons (by omega)] at this
   exact (List.cons.inj this).1
  obtain ⟨n1, n2, n3⟩ := Qee q3
  have hn : contangolaw34_CoverGaps.l0 m x (x.map (gapN l L R)) ((i + 1 : Nat) : Int) l L R = some true := ih (i + 1) m (by omega) hm
  rw [contangolaw34_CoverGaps.l0, List.length_map, if_pos (by omega), show (0 : Int) = ((0 : Nat) : Int) from rfl, cg_any l L R x _ i (by omega) hx hl (m + 1) l.length 0 (by omega) false, List.drop_zero, Bool.false_or, contangolaw34_CoverGaps.l1, if_neg (by omega), if_pos (by omega), List.length_map, if_pos (by omega), if_pos (by omega), hg, nwrap (x := (i : Int) + 1) (by omega) (by omega), show ((i : Int) + 1) = ((i + 1 : Nat) : Int) by omega]
  generalize rd_T48 x (i : Int) = p at *
  have c1 : (gapN l L R p).f1 = p.f7 := rfl
  have c2 : (gapN l L R p).f2 = (covN l L R p).1 := rfl
  have c3 : (gapN l L R p).f3 = mx (p.f7 - (covN l L R p).1) 0 := n3
  rw [if_neg (by simp [gapN]), if_pos c1, c1, c2, c3]
  have hz : hasP p.f0.f0 p.f0.f1 l = false → (covN l L R p).1 = 0 := fun e => Qev l _ _ _ L R q2 (QeA e)
  generalize (covN l L R p).1 = c at *
  have hmx : mx (p.f7 - c) 0 = if p.f7 - c < 0 then 0 else p.f7 - c := rfl
  rw [IntWalk.wrap64_in (mx (p.f7 - c) 0 + c) (by rw [hmx]; split <;> omega)]
  have s1 : 0 ≤ mx (p.f7 - c) 0 ∧ p.f7 ≤ mx (p.f7 - c) 0 + c ∧ (mx (p.f7 - c) 0 > 0 → mx (p.f7 - c) 0 + c = p.f7) ∧ (c = 0 → mx (p.f7 - c) 0 = p.f7) := by
   rw [hmx]; split <;> omega
  obtain ⟨s1, s2, s3, s4⟩ := s1
  rw [if_neg (by omega), if_neg (by omega), if_neg (by omega)]
  have fin : (if hasP p.f0.f0 p.f0.f1 l = true then contangolaw34_CoverGaps.l0 m x (x.map (gapN l L R)) ((i + 1 : Nat) : Int) l L R else (if mx (p.f7 - c) 0 = p.f7 then contangolaw34_CoverGaps.l0 m x (x.map (gapN l L R)) ((i + 1 : Nat) : Int) l L R else none)) = some true := by
   by_cases e : hasP p.f0.f0 p.f0.f1 l = true
   ·rw [if_pos e, hn]
   rw [if_neg e, if_pos (s4 (hz (by simpa using e))), hn]
  by_cases e : mx (p.f7 - c) 0 > 0
  ·rw [if_pos e, if_pos (s3 e)]; exact fin
  rw [if_neg e]; exact fin
end Go.Proofs.Ytfcaaefdmabkhaa.Pr
