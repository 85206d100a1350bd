/- Limits: what counts is no more than what is worth. -/
import Derived.Test.YtfcaaefdmabkhaaQ7F9LmAsset
import Derived.Test.YtfcaaefdmabkhaaQ7F9LmAssetAll
import Derived.Test.YtfcaaefdmabkhaaQ7F9LmLimit
import Derived.Test.YtfcaaefdmabkhaaQ7F9LmName
import Derived.Test.YtfcaaefdmabkhaaQ7F9LmPledge
import Derived.Test.YtfcaaefdmabkhaaQ7F9LmPledgeOf
import Derived.Test.YtfcaaefdmabkhaaQ7F9LmPledgeTop
import Derived.Test.YtfcaaefdmabkhaaQ7F9LmPledgeW
import Derived.Test.YtfcaaefdmabkhaaQ7F9LmRate
import Derived.Test.YtfcaaefdmabkhaaQ7F9LmSums
import Derived.Test.YtfcaaefdmabkhaaQ7F9P0
namespace Go.Proofs.Ytfcaaefdmabkhaa.Pr
open Go.RowKit Go.Proofs.Ytfcaaefdmabkhaa.Pr Go.Proofs.YtfcaaefdmabkhaaW.PrintWords Go.Proofs.YtfcaaefdmabkhaaW.PrintLast Go.Proofs.YtfcaaefdmabkhaaW.PrintMore
set_option linter.unusedVariables false
set_option linter.unusedSimpArgs false
theorem wL_bd (L : List As) (R : List Rt) : ∀ (l : List Pled) (acc : List Int), (wL L R acc l).2 = 0 → (wL L R acc l).1 ≤ 1152921504606846976
 | [], acc, h => by
  have : wL L R acc [] = sumS acc := rfl
  rw [this] at h ⊢
  unfold sumS at *
  by_cases h1 : ∀ x ∈ acc, mdFits x
  ·rw [if_pos h1] at h ⊢
   by_cases h2 : mdFits acc.sum
   ·rw [if_pos h2]; exact h2.2
   rw [if_neg h2] at h; cases h
  rw [if_neg h1] at h; cases h
 | p :: t, acc, h => by
  rw [Qc8] at h ⊢
  by_cases h1 : (findA L p.f1 0 L.length).2.2.2.2.2.2 = true
  ·rw [if_pos h1] at h ⊢
   by_cases h2 : (worOf R (findA L p.f1 0 L.length) p.f2).2 = 0
   ·rw [if_pos h2] at h ⊢
    exact wL_bd L R t _ h
   rw [if_neg h2] at h; exact absurd h h2
  rw [if_neg h1] at h; cases h
theorem pw_bd {l : List Pled} {a b : ByteArray} {L : List As} {R : List Rt} (h : (pwS l a b L R).2 = 0) : sumW L R (ofP a b l) ≤ 1152921504606846976 := by
 have h0 := (Qcz h).2
 rw [← h0]
 unfold pwS at *
 by_cases h1 : chkP l = 0
 ·rw [if_pos h1] at h ⊢
  by_cases h2 : chkAll L = 0
  ·rw [if_pos h2] at h ⊢
   exact wL_bd L R _ _ h
  rw [if_neg h2] at h; exact absurd h h2
 rw [if_neg h1] at h; exact absurd h h1
theorem cut_bd {L : List As} {R : List Rt} {n : Int} {p : Pled} (hn : moneyN n) (h : wokP L R p) : 0 ≤ cutP L R n p ∧ cutP L R n p ≤ wvP L R p ∧ cutP L R n p ≤ n * capP L p / 1000 ∧ (cutP L R n p = wvP L R p ∨ cutP L R n p = n * capP L p / 1000) := by
 obtain ⟨_, h2, h3⟩ := Qc4 h
 have := (cap_md n (capP L p) hn h2).2
 unfold cutP mn
 split <;> omega
theorem QdH (L : List As) (R : List Rt) (n : Int) (hn : moneyN n) : ∀ l : List Pled, (∀ p ∈ l, wokP L R p) → 0 ≤ (l.map (cutP L R n)).sum ∧ (l.map (cutP L R n)).sum ≤ sumW L R l
 | [], _ => ⟨Int.le_refl _, Int.le_refl _⟩
 | p :: t, h => by
  obtain ⟨i1, i2⟩ := QdH L R n hn t (fun q hq => h q (List.mem_cons_of_mem _ hq))
  obtain ⟨c1, c2, _⟩ := cut_bd hn (h p List.mem_cons_self)
  rw [List.map_cons, List.sum_cons, sumW]
  omega
theorem Qdx : ∀ (l : List Int), (∀ x ∈ l, 0 ≤ x) → 0 ≤ l.sum ∧ ∀ x ∈ l, x ≤ l.sum
 | [], _ => ⟨Int.le_refl _, fun x hx => by cases hx⟩
 | a :: t, h => by
  obtain ⟨i1, i2⟩ := Qdx t (fun x hx => h x (List.mem_cons_of_mem _ hx))
  have ha := h a List.mem_cons_self
  rw [List.sum_cons]
  refine ⟨by omega, fun x hx => ?_⟩
  rcases List.mem_cons.1 hx with rfl | hx
  ·omega
  have := i2 x hx; omega
theorem Qgm {l : List Int} (h : ∀ x ∈ l, 0 ≤ x) (hb : l.sum ≤ 1152921504606846976) : sumS l = (l.sum, 0) := by
 obtain ⟨i1, i2⟩ := Qdx l h
 unfold sumS
 rw [if_pos (fun x hx => ⟨by have := h x hx; omega, by have := i2 x hx; omega⟩), if_pos ⟨by omega, hb⟩]
theorem cov_ok {l : List Pled} {a b : ByteArray} {n : Int} {L : List As} {R : List Rt} (h : (cntS l a b n L R).2 = 0) : (pwS l a b L R).2 = 0 ∧ moneyN n ∧ (cntS l a b n L R).1 = (ofP a b l).map (cutP L R n) ∧ covS l a b n L R = (((ofP a b l).map (cutP L R n)).sum, 0) := by
 unfold covS
 rw [if_pos h]
 unfold cntS at *
 by_cases h1 : (pwS l a b L R).2 = 0
 ·rw [if_pos h1] at h ⊢
  by_cases h2 : moneyN n
  ·rw [if_pos h2]
   have hw := (Qcz h1).1
   have := (QdH L R n h2 _ hw).2
   have := pw_bd h1
   refine ⟨h1, h2, rfl, Qgm (l := (ofP a b l).map (cutP L R n)) ?_ (by omega)⟩
   intro x hx
   obtain ⟨p, hp, rfl⟩ := List.mem_map.1 hx
   exact (cut_bd h2 (hw p hp)).1
  rw [if_neg h2] at h; cases h
 rw [if_neg h1] at h; exact absurd h h1
theorem QeI (n c : Int) (hn : moneyN n) (hc : 0 ≤ c ∧ c ≤ 1000) : wrap64 ((wrap64 ((wrap64 (Int.tdiv n 1000)) * c)) + (wrap64 (Int.tdiv (wrap64 ((Int.tmod n 1000) * c)) 1000))) = n * c / 1000 := by
 obtain ⟨h0, h1⟩ := hn
 have e1 : Int.tdiv n 1000 = n / 1000 := Int.tdiv_eq_ediv_of_nonneg h0
 have e2 : Int.tmod n 1000 = n % 1000 := Int.tmod_eq_emod_of_nonneg h0
 have q0 : 0 ≤ n / 1000 := by omega
 have r0 : 0 ≤ n % 1000 := by omega
 have a0 : 0 ≤ n / 1000 * c := Int.mul_nonneg q0 hc.1
 have a1 : n / 1000 * c ≤ n / 1000 * 1000 := Int.mul_le_mul_of_nonneg_left hc.2 q0
 have b0 : 0 ≤ n % 1000 * c := Int.mul_nonneg r0 hc.1
 have b1 : n % 1000 * c ≤ n % 1000 * 1000 := Int.mul_le_mul_of_nonneg_left hc.2 r0
 have s : n * c = 1000 * (n / 1000 * c) + n % 1000 * c := by
  have hn : n = 1000 * (n / 1000) + n % 1000 := by omega
  calc n * c = (1000 * (n / 1000) + n % 1000) * c := by rw [← hn]
   _ = 1000 * (n / 1000) * c + n % 1000 * c := Int.add_mul ..
   _ = _ := by rw [Int.mul_assoc]
 rw [e1, e2, s, nwrap (x := n / 1000) q0 (by omega)]
 generalize n / 1000 * c = X at *
 generalize n % 1000 * c = Y at *
 rw [nwrap (x := X) a0 (by omega), nwrap (x := Y) b0 (by omega), Int.tdiv_eq_ediv_of_nonneg b0, nwrap (x := Y / 1000) (by omega) (by omega), nwrap (by omega) (by omega)]
 omega
end Go.Proofs.Ytfcaaefdmabkhaa.Pr
