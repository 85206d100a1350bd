/- Limits: what covers when some of an asset is taken back. -/
import Derived.Test.YtfcaaefdmabkhaaQ1A6LmAsset
import Derived.Test.YtfcaaefdmabkhaaQ1A6LmAssetAll
import Derived.Test.YtfcaaefdmabkhaaQ1A6LmAssetLow
import Derived.Test.YtfcaaefdmabkhaaQ1A6LmAssetMath
import Derived.Test.YtfcaaefdmabkhaaQ1A6LmLimit
import Derived.Test.YtfcaaefdmabkhaaQ1A6LmLimitCap
import Derived.Test.YtfcaaefdmabkhaaQ1A6LmLimitKind
import Derived.Test.YtfcaaefdmabkhaaQ1A6LmPledge
import Derived.Test.YtfcaaefdmabkhaaQ1A6LmPledge2
import Derived.Test.YtfcaaefdmabkhaaQ1A6LmPledge3
import Derived.Test.YtfcaaefdmabkhaaQ1A6LmPledgeOf
import Derived.Test.YtfcaaefdmabkhaaQ1A6LmPledgeTop
import Derived.Test.YtfcaaefdmabkhaaQ1A6LmPledgeW
import Derived.Test.YtfcaaefdmabkhaaQ1A6LmRate
import Derived.Test.YtfcaaefdmabkhaaQ1A6LmRate2
import Derived.Test.YtfcaaefdmabkhaaQ1A6LmRate3
import Derived.Test.YtfcaaefdmabkhaaQ1A6LmSums
import Derived.Test.YtfcaaefdmabkhaaQ1A6P0
namespace Go.Proofs.Ytfcaaefdmabkhaa.Pr
open Go.RowKit Go.Proofs.Ytfcaaefdmabkhaa.Pr Go.Proofs.YtfcaaefdmabkhaaW.PrintWords Go.Proofs.YtfcaaefdmabkhaaW.PrintLast Go.Proofs.YtfcaaefdmabkhaaW.PrintMore
set_option linter.unusedVariables false
set_option linter.unusedSimpArgs false
theorem wL_fwd (L : List As) (R : List Rt) : ∀ (l : List Pled) (acc : List Int), (∀ p ∈ l, wokP L R p) → (∀ x ∈ acc, 0 ≤ x) → acc.sum + sumW L R l ≤ 1152921504606846976 → (wL L R acc l).2 = 0
 | [], acc, _, ha, hs => by
  have e : wL L R acc [] = sumS acc := rfl
  have e2 : acc.sum + sumW L R [] = acc.sum + 0 := rfl
  rw [e, QeA ha (by omega)]
 | p :: t, acc, h, ha, hs => by
  have hp := h p List.mem_cons_self
  have hw := (Qcx hp).2.2
  rw [Qc3, if_pos hp.1, if_pos hp.2]
  refine wL_fwd L R t _ (fun q hq => h q (List.mem_cons_of_mem _ hq)) ?_ ?_
  ·intro x hx
   rcases List.mem_append.1 hx with hx | hx
   ·exact ha x hx
   rw [List.mem_singleton.1 hx]; exact hw.1
  rw [List.sum_append, List.sum_cons, List.sum_nil]
  rw [sumW] at hs
  show acc.sum + (wvP L R p + 0) + _ ≤ _
  omega
theorem Qc4 {L : List As} {R : List Rt} {x z : Pled} (h1 : x.f1 = z.f1) (hq : 0 ≤ x.f2 ∧ x.f2 ≤ z.f2) (hz : wokP L R z) : wokP L R x ∧ wvP L R x ≤ wvP L R z := by
 unfold wvP wokP at *
 rw [h1]
 generalize findA L z.f1 0 L.length = a at *
 unfold worOf at *
 obtain ⟨hf, hz⟩ := hz
 have hv : chkA a.1 a.2.1 a.2.2.1 a.2.2.2.1 a.2.2.2.2.1 a.2.2.2.2.2.1 = 0 := by
  unfold worS at hz
  by_cases h : (valS (chkA a.1 a.2.1 a.2.2.1 a.2.2.2.1 a.2.2.2.2.1 a.2.2.2.2.2.1) a.2.2.2.1 z.f2).2 = 0
  ·exact (Qcr h).1
  rw [if_neg h] at hz; exact absurd hz h
 obtain ⟨_, hun, hh⟩ := QcC _ _ _ _ _ _ hv
 rw [hv] at hz ⊢
 obtain ⟨c1, c2, q3⟩ := QcG hz
 have hl := Qcm R c1
 have rc := QbF R c1 a.2.2.1 c2
 have r0 := QbF R c1 0 ⟨by omega, by omega⟩
 rw [worS_F _ _ _ _ R c1 c2 hun hh q3] at hz ⊢
 rw [worS_F _ _ _ _ R c1 c2 hun hh (⟨by omega, by omega⟩ : 0 ≤ x.f2 ∧ x.f2 ≤ 1152921504606846976)]
 have key2 : ∀ n, ((worthF a.2.2.2.1 (rd_T98 R a.2.2.1).f1 (rd_T98 R 0).f1 a.2.2.2.2.1 x.f2).2 ≠ 0 ∨ n ≤ (worthF a.2.2.2.1 (rd_T98 R a.2.2.1).f1 (rd_T98 R 0).f1 a.2.2.2.2.1 x.f2).1) → ((worthF a.2.2.2.1 (rd_T98 R a.2.2.1).f1 (rd_T98 R 0).f1 a.2.2.2.2.1 z.f2).2 ≠ 0 ∨ n ≤ (worthF a.2.2.2.1 (rd_T98 R a.2.2.1).f1 (rd_T98 R 0).f1 a.2.2.2.2.1 z.f2).1) := fun n h => Qc8 _ _ _ _ _ _ _ (by omega) (by omega) (by omega) hh hq.2 h
 generalize worthF a.2.2.2.1 (rd_T98 R a.2.2.1).f1 (rd_T98 R 0).f1 a.2.2.2.2.1 = G at *
 have e2 : (G x.f2).2 = 0 := by
  by_cases e : (G x.f2).2 = 0
  ·exact e
  rcases key2 ((G z.f2).1 + 1) (Or.inl e) with h | h
  ·exact absurd hz h
  omega
 refine ⟨⟨hf, e2⟩, ?_⟩
 rcases key2 (G x.f2).1 (Or.inr (Int.le_refl _)) with h | h
 ·exact absurd hz h
 exact h
theorem Qfq {L : List As} {R : List Rt} {n : Int} {x z : Pled} (h1 : x.f1 = z.f1) (hq : 0 ≤ x.f2 ∧ x.f2 ≤ z.f2) (hz : wokP L R z) : cutP L R n x ≤ cutP L R n z := by
 have := (Qc4 h1 hq hz).2
 unfold cutP mn capP
 rw [h1]
 split <;> split <;> omega
theorem QcN (L : List As) (R : List Rt) (n : Int) (l m : List Pled) : ((l ++ m).map (cutP L R n)).sum = (l.map (cutP L R n)).sum + (m.map (cutP L R n)).sum := by rw [List.map_append, List.sum_append]
theorem Qck (a b : ByteArray) (l m : List Pled) : ofP a b (l ++ m) = ofP a b l ++ ofP a b m := List.filter_append ..
def baseC (L : List As) (R : List Rt) (n : Int) (q : PK) (l : List Pled) : Int := ((ofP q.1 q.2.1 (loP q l)).map (cutP L R n)).sum + ((ofP q.1 q.2.1 (hiP q l)).map (cutP L R n)).sum
def leftC (L : List As) (R : List Rt) (n : Int) (q : PK) (x : Int) : Int := if x = 0 then 0 else cutP L R n (plOf q x)
theorem Qf4 {l : List Pled} {q : PK} {n : Int} {L : List As} {R : List Rt} (h : (pwS l q.1 q.2.1 L R).2 = 0) (hn : moneyN n) (x : Int) (hx : 0 ≤ x ∧ x ≤ hadP q l) :
  (covS (insP q x l) q.1 q.2.1 n L R) = (baseC L R n q l + leftC L R n q x, 0) := by
 have hg := (Qb5 h).1
 have hs := hg.2.1
 have hw := (Qb2 h).1
 have hb := pw_bd h
 have hsp := split3 q l hs
 have hwl : ∀ p ∈ ofP q.1 q.2.1 (loP q l), wokP L R p := fun p hp => hw p (List.mem_filter.2 ⟨(List.mem_filter.1 (List.mem_filter.1 hp).1).1, (List.mem_filter.1 hp).2⟩)
 have hwh : ∀ p ∈ ofP q.1 q.2.1 (hiP q l), wokP L R p := fun p hp => hw p (List.mem_filter.2 ⟨(List.mem_filter.1 (List.mem_filter.1 hp).1).1, (List.mem_filter.1 hp).2⟩)
 have hall : chkAll L = 0 := by
  unfold pwS at h
  by_cases h1 : chkP l = 0
  ·rw [if_pos h1] at h
   by_cases h2 : chkAll L = 0
   ·exact h2
   rw [if_neg h2] at h; exact absurd h h2
  rw [if_neg h1] at h; exact absurd h h1
 have hmid : x ≠ 0 → ∃ z, midP q l = [z] ∧ z ∈ l ∧ pkey z = q ∧ hadP q l = z.f2 ∧ z.f2 ≤ 1152921504606846976 := by
  intro hx0
  rcases Qch (q := q) hg with ⟨_, e⟩ | ⟨z, z1, z2, z3, z4, z5, z6⟩
  ·omega
  exact ⟨z, z1, z2, z3, z4, by omega⟩
 have hof : ofP q.1 q.2.1 (insP q x l) = ofP q.1 q.2.1 (loP q l) ++ ((if x = 0 then [] else [plOf q x]) ++ ofP q.1 q.2.1 (hiP q l)) := by
  unfold insP
  rw [Qck, Qck]
  congr 2
  split
  ·rfl
  rw [QcM, if_pos ⟨rfl, rfl⟩]; rfl
 have hpl : x ≠ 0 → wokP L R (plOf q x) ∧ wvP L R (plOf q x) ≤ sumW L R (ofP q.1 q.2.1 (midP q l)) := by
  intro hx0
  obtain ⟨z, z1, z2, z3, z4, z5⟩ := hmid hx0
  have za : z.f0.f0 = q.1 ∧ z.f0.f1 = q.2.1 ∧ z.f1 = q.2.2 := by rw [← z3]; exact ⟨rfl, rfl, rfl⟩
  have hwz : wokP L R z := hw z (List.mem_filter.2 ⟨z2, decide_eq_true ⟨za.1, za.2.1⟩⟩)
  obtain ⟨m1, m2⟩ := Qc4 (x := plOf q x) (z := z) za.2.2.symm ⟨hx.1, by rw [← z4]; exact hx.2⟩ hwz
  refine ⟨m1, ?_⟩
  rw [z1, QcM, if_pos ⟨za.1, za.2.1⟩, sumW]
  show _ ≤ wvP L R z + 0
  omega
 have hwn : ∀ p ∈ ofP q.1 q.2.1 (insP q x l), wokP L R p := by
  intro p hp
  rw [hof] at hp
  rcases List.mem_append.1 hp with hp | hp
  ·exact hwl p hp
  rcases List.mem_append.1 hp with hp | hp
  ·by_cases hx0 : x = 0
   ·rw [if_pos hx0] at hp; cases hp
   rw [if_neg hx0] at hp
   rw [List.mem_singleton.1 hp]
   exact (hpl hx0).1
  exact hwh p hp
 have hsum : sumW L R (ofP q.1 q.2.1 (insP q x l)) ≤ sumW L R (ofP q.1 q.2.1 l) := by
  have e : sumW L R (ofP q.1 q.2.1 l) = sumW L R (ofP q.1 q.2.1 (loP q l)) + (sumW L R (ofP q.1 q.2.1 (midP q l)) + sumW L R (ofP q.1 q.2.1 (hiP q l))) := by
   conv => lhs; rw [hsp]
   rw [Qck, Qck, Qb1, Qb1]
  have hmn : 0 ≤ sumW L R (ofP q.1 q.2.1 (midP q l)) := QeB L R _ (fun p hp => hw p (List.mem_filter.2 ⟨(List.mem_filter.1 (List.mem_filter.1 hp).1).1, (List.mem_filter.1 hp).2⟩))
  rw [hof, e, Qb1, Qb1]
  by_cases hx0 : x = 0
  ·rw [if_pos hx0]
   show _ + ((0 : Int) + _) ≤ _
   omega
  rw [if_neg hx0]
  have := (hpl hx0).2
  show _ + (wvP L R (plOf q x) + 0 + _) ≤ _
  omega
 have hgood : goodP (insP q x l) := by
  refine ⟨?_, QeS q x l hs, fun p hp => ?_⟩
  ·rw [Qex]
   have := len3 q l hs
   have h1 := hg.1
   by_cases hx0 : x = 0
   ·rw [if_pos hx0]; omega
   obtain ⟨z, z1, _⟩ := hmid hx0
   rw [z1] at this
   rw [if_neg hx0]
   simp only [List.length_singleton] at this
   omega
  rcases Qgi hp with hp | ⟨hx0, rfl⟩
  ·exact hg.2.2 p hp
  obtain ⟨z, z1, z2, z3, z4, z5⟩ := hmid hx0
  refine ⟨?_, (Qb3 _).2 ⟨by show 1 ≤ x; omega, by show x ≤ _; omega⟩⟩
  have := (hg.2.2 z z2).1
  rw [← z3]
  exact this
 have hp0 : (pwS (insP q x l) q.1 q.2.1 L R).2 = 0 := by
  unfold pwS
  rw [if_pos ((QbU _).2 hgood), if_pos hall]
  exact wL_fwd L R _ [] hwn (fun _ hx => by cases hx) (by show (0 : Int) + _ ≤ _; omega)
 have hc0 : (cntS (insP q x l) q.1 q.2.1 n L R).2 = 0 := by unfold cntS; rw [if_pos hp0, if_pos hn]
 rw [(cov_ok hc0).2.2.2, hof, QcN, QcN]
 unfold baseC leftC
 congr 1
 by_cases hx0 : x = 0
 ·rw [if_pos hx0, if_pos hx0]
  show _ + ((0 : Int) + _) = _
  omega
 rw [if_neg hx0, if_neg hx0]
 show _ + ((cutP L R n (plOf q x) + 0) + _) = _
 omega
theorem Qfa {l : List Pled} {q : PK} {n : Int} {L : List As} {R : List Rt} (h : (pwS l q.1 q.2.1 L R).2 = 0) (hn : moneyN n) (x y : Int) (hx : 0 ≤ x ∧ x ≤ y) (hy : y ≤ hadP q l) : leftC L R n q x ≤ leftC L R n q y := by
 have hg := (Qb5 h).1
 have hw := (Qb2 h).1
 unfold leftC
 by_cases y0 : y = 0
 ·rw [if_pos y0, if_pos (by omega)]; exact Int.le_refl _
 rw [if_neg y0]
 rcases Qch (q := q) hg with ⟨_, e⟩ | ⟨z, z1, z2, z3, z4, z5, z6⟩
 ·omega
 have za : z.f0.f0 = q.1 ∧ z.f0.f1 = q.2.1 ∧ z.f1 = q.2.2 := by rw [← z3]; exact ⟨rfl, rfl, rfl⟩
 have hwz : wokP L R z := hw z (List.mem_filter.2 ⟨z2, decide_eq_true ⟨za.1, za.2.1⟩⟩)
 have my := (Qc4 (x := plOf q y) (z := z) za.2.2.symm ⟨by show 0 ≤ y; omega, by rw [← z4]; exact hy⟩ hwz).1
 by_cases x0 : x = 0
 ·rw [if_pos x0]; exact (cut_bd hn my).1
 rw [if_neg x0]; exact Qfq rfl ⟨hx.1, hx.2⟩ my
end Go.Proofs.Ytfcaaefdmabkhaa.Pr
