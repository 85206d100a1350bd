/- Limits: how many may be taken back, by the two searches. -/
import Derived.Test.YtfcaaefdmabkhaaQ1A6LmAsset
import Derived.Test.YtfcaaefdmabkhaaQ1A6LmAssetAll
import Derived.Test.YtfcaaefdmabkhaaQ1A6LmLimit
import Derived.Test.YtfcaaefdmabkhaaQ1A6LmLimitCap
import Derived.Test.YtfcaaefdmabkhaaQ1A6LmLimitF
import Derived.Test.YtfcaaefdmabkhaaQ1A6LmPledge
import Derived.Test.YtfcaaefdmabkhaaQ1A6LmPledge2
import Derived.Test.YtfcaaefdmabkhaaQ1A6LmPledge3
import Derived.Test.YtfcaaefdmabkhaaQ1A6LmPledgeW
import Derived.Test.YtfcaaefdmabkhaaQ1A6LmRate
import Derived.Test.YtfcaaefdmabkhaaQ1A6P5
import Derived.Test.YtfcaaefdmabkhaaQ1A6P0
namespace Go.Proofs.Ytfcaaefdmabkhaa.Pr
open Go.RowKit Go.Proofs.Ytfcaaefdmabkhaa.Pr Go.Proofs.YtfcaaefdmabkhaaW.PrintWords Go.Proofs.YtfcaaefdmabkhaaW.PrintLast Go.Proofs.YtfcaaefdmabkhaaW.PrintMore
set_option linter.unusedVariables false
set_option linter.unusedSimpArgs false
def isFree (P : Int → Prop) (had v : Int) : Prop := (¬ P 0 ∧ v = 0) ∨ (P 0 ∧ 0 ≤ v ∧ v ≤ had ∧ (∀ m, 0 ≤ m → m ≤ v → P m) ∧ (∀ m, v < m → m ≤ had → ¬ P m))
def QbC (l : List Pled) (q : PK) (n : Int) (L : List As) (R : List Rt) (m : Int) : Prop := n ≤ baseC L R n q l + leftC L R n q (hadP q l - m)
instance (l : List Pled) (q : PK) (n : Int) (L : List As) (R : List Rt) (m : Int) : Decidable (QbC l q n L R m) := inferInstanceAs (Decidable (_ ≤ _))
theorem Qc9 {l : List Pled} {q : PK} {n : Int} {L : List As} {R : List Rt} (h : (pwS l q.1 q.2.1 L R).2 = 0) (hn : moneyN n) {m m' : Int} (h0 : 0 ≤ m) (h1 : m ≤ m') (h2 : m' ≤ hadP q l) (hp : QbC l q n L R m') : QbC l q n L R m := by
 have := Qfa (q := q) h hn (hadP q l - m') (hadP q l - m) ⟨by omega, by omega⟩ (by omega)
 unfold QbC at *
 omega
theorem QdT {l : List Pled} {q : PK} {n : Int} {L : List As} {R : List Rt} (h : (pwS l q.1 q.2.1 L R).2 = 0) (hn : moneyN n) (m : Int) (hm : 0 ≤ m ∧ m ≤ hadP q l) : covS (insP q (hadP q l - m) l) q.1 q.2.1 n L R = (baseC L R n q l + leftC L R n q (hadP q l - m), 0) :=
 Qf4 h hn _ ⟨by omega, by omega⟩
theorem QdU {l : List Pled} {q : PK} {n : Int} {L : List As} {R : List Rt} (h : (pwS l q.1 q.2.1 L R).2 = 0) (hn : moneyN n) : covS l q.1 q.2.1 n L R = (baseC L R n q l + leftC L R n q (hadP q l - 0), 0) := by
 have hg := (Qb5 h).1
 have := QdT (q := q) h hn 0 ⟨Int.le_refl _, (had_bd hg).1⟩
 rw [Int.sub_zero] at this ⊢
 rwa [Qga q l hg] at this
theorem mid_eq (i j : Int) (h0 : 0 ≤ i) (h1 : i ≤ j) (h2 : j ≤ 1152921504606846977) : wrap64 ((IntKind.u64.wrap (wrap64 (i + j))) / 2) = (i + j) / 2 := by
 have e : wrap64 (i + j) = i + j := IntWalk.wrap64_in _ (by omega)
 have e2 : IntKind.u64.wrap (i + j) = (i + j) % 18446744073709551616 := by simp [IntKind.wrap, IntKind.bits, IntKind.signed]
 rw [e, e2, Int.emod_eq_of_lt (by omega) (by omega), IntWalk.wrap64_in _ (by omega)]
theorem Qgg (l : List Pled) (q : PK) (n : Int) (L : List As) (R : List Rt) (h : (pwS l q.1 q.2.1 L R).2 = 0) (hn : moneyN n) : ∀ (d : Nat) (i j : Int) (k : Nat), 0 ≤ i → i ≤ j → j ≤ hadP q l + 1 → j - i ≤ (d : Int) → d + 8000 ≤ k → (∀ m, 0 ≤ m → m < i → QbC l q n L R m) → (∀ m, j ≤ m → m ≤ hadP q l → ¬ QbC l q n L R m) →
  ∃ r, QaF.l0 k i j l q.1 q.2.1 q.2.2 n L R = some (mx (r - 1) 0, 0) ∧ 0 ≤ r ∧ r ≤ hadP q l + 1 ∧ (∀ m, 0 ≤ m → m < r → QbC l q n L R m) ∧ (∀ m, r ≤ m → m ≤ hadP q l → ¬ QbC l q n L R m) := by
 intro d
 have hg := (Qb5 h).1
 have hb := had_bd (q := q) hg
 induction d with
 | zero =>
  intro i j k h0 h1 h2 h3 hk ha hz
  obtain ⟨k, rfl⟩ : ∃ m, k = m + 1 := ⟨k - 1, by omega⟩
  refine ⟨i, ?_, h0, by omega, ha, fun m hm hm2 => hz m (by omega) hm2⟩
  rw [QaF.l0, if_neg (by omega), IntWalk.wrap64_in (i - 1) (by omega)]
 | succ d ih =>
  intro i j k h0 h1 h2 h3 hk ha hz
  obtain ⟨k, rfl⟩ : ∃ m, k = m + 1 := ⟨k - 1, by omega⟩
  by_cases hij : i < j
  ·rw [QaF.l0, if_pos hij, mid_eq i j h0 h1 (by omega), IntWalk.wrap64_in ((i + j) / 2 + 1) (by omega)]
   obtain ⟨c, hc⟩ : ∃ c, c = (i + j) / 2 := ⟨_, rfl⟩
   have c1 : i ≤ c ∧ c < j := by omega
   rw [← hc]
   have up : QbC l q n L R c → ∃ r, QaF.l0 k (c + 1) j l q.1 q.2.1 q.2.2 n L R = some (mx (r - 1) 0, 0) ∧ 0 ≤ r ∧ r ≤ hadP q l + 1 ∧ (∀ m, 0 ≤ m → m < r → QbC l q n L R m) ∧ (∀ m, r ≤ m → m ≤ hadP q l → ¬ QbC l q n L R m) := fun hp =>
    ih (c + 1) j k (by omega) (by omega) h2 (by omega) (by omega) (fun m hm hm2 => Qc9 h hn hm (by omega) (by omega) hp) hz
   have down : ¬ QbC l q n L R c → ∃ r, QaF.l0 k i c l q.1 q.2.1 q.2.2 n L R = some (mx (r - 1) 0, 0) ∧ 0 ≤ r ∧ r ≤ hadP q l + 1 ∧ (∀ m, 0 ≤ m → m < r → QbC l q n L R m) ∧ (∀ m, r ≤ m → m ≤ hadP q l → ¬ QbC l q n L R m) := fun hp =>
    ih i c k h0 (by omega) (by omega) (by omega) (by omega) ha (fun m hm hm2 e => hp (Qc9 h hn (by omega) hm hm2 e))
   by_cases hc0 : c > 0
   ·rw [if_pos hc0, QfI l q c k (by omega), Option.bind_some, QfQ l q c hg ⟨by omega, by omega⟩ (by omega), if_pos rfl, QcI _ _ _ n L R k (by omega), Option.bind_some, QdT h hn c ⟨by omega, by omega⟩, if_pos rfl]
    by_cases hp : QbC l q n L R c
    ·rw [if_pos (show baseC L R n q l + leftC L R n q (hadP q l - c) ≥ n from hp)]; exact up hp
    rw [if_neg (show ¬ baseC L R n q l + leftC L R n q (hadP q l - c) ≥ n from hp)]; exact down hp
   have e0 : c = 0 := by omega
   rw [if_neg hc0, QcI _ _ _ n L R k (by omega), Option.bind_some, QdU h hn, if_pos rfl]
   rw [e0] at up down ⊢
   by_cases hp : QbC l q n L R 0
   ·rw [if_pos (show baseC L R n q l + leftC L R n q (hadP q l - 0) ≥ n from hp)]; exact up hp
   rw [if_neg (show ¬ baseC L R n q l + leftC L R n q (hadP q l - 0) ≥ n from hp)]; exact down hp
  refine ⟨i, ?_, h0, by omega, ha, fun m hm hm2 => hz m (by omega) hm2⟩
  rw [QaF.l0, if_neg hij, IntWalk.wrap64_in (i - 1) (by omega)]
def freeIs (l : List Pled) (q : PK) (n : Int) (L : List As) (R : List Rt) (v e : Int) : Prop :=
 ((covS l q.1 q.2.1 n L R).2 ≠ 0 ∧ v = 0 ∧ e = (covS l q.1 q.2.1 n L R).2) ∨ ((covS l q.1 q.2.1 n L R).2 = 0 ∧ (findA L q.2.2 0 L.length).2.2.2.2.2.2 ≠ true ∧ v = 0 ∧ e = 11) ∨ ((covS l q.1 q.2.1 n L R).2 = 0 ∧ (findA L q.2.2 0 L.length).2.2.2.2.2.2 = true ∧ e = 0 ∧ isFree (QbC l q n L R) (hadP q l) v)
theorem QcD {l : List Pled} {a b : ByteArray} {n : Int} {L : List As} {R : List Rt} (h : (covS l a b n L R).2 = 0) : (cntS l a b n L R).2 = 0 := by
 unfold covS at h
 by_cases h1 : (cntS l a b n L R).2 = 0
 ·exact h1
 rw [if_neg h1] at h; exact absurd h h1
theorem QdE (l : List Pled) (q : PK) (n : Int) (L : List As) (R : List Rt) (k : Nat) (hk : (hadP q l).toNat + 9000 ≤ k) : ∃ v e, QaF.f k l q.1 q.2.1 q.2.2 n L R = some (v, e) ∧ freeIs l q n L R v e := by
 unfold QaF.f freeIs
 rw [QcI _ _ _ n L R k (by omega), Option.bind_some]
 by_cases hc : (covS l q.1 q.2.1 n L R).2 = 0
 ·obtain ⟨h1, h2, h3, h4⟩ := cov_ok (QcD hc)
  obtain ⟨hg, hL⟩ := Qb5 h1
  have hl := hg.1
  have hb := had_bd (q := q) hg
  rw [if_pos hc, Qcl L _ (by omega) k (by omega), Option.bind_some]
  by_cases hf : (findA L q.2.2 0 L.length).2.2.2.2.2.2 = true
  ·rw [if_pos hf, Qgq q l (by omega) k (by omega), Option.bind_some, IntWalk.wrap64_in (hadP q l + 1) (by omega)]
   obtain ⟨r, r1, r2, r3, r4, r5⟩ := Qgg l q n L R h1 h2 ((hadP q l).toNat + 1) 0 (hadP q l + 1) k (Int.le_refl _) (by omega) (Int.le_refl _) (by omega) (by omega) (fun m hm hm2 => by omega) (fun m hm hm2 => by omega)
   refine ⟨_, _, r1, Or.inr (Or.inr ⟨hc, hf, rfl, ?_⟩)⟩
   have em : mx (r - 1) 0 = if r - 1 < 0 then 0 else r - 1 := rfl
   by_cases hr : r = 0
   ·exact Or.inl ⟨r5 0 (by omega) hb.1, by rw [em, if_pos (by omega)]⟩
   refine Or.inr ⟨r4 0 (Int.le_refl _) (by omega), ?_⟩
   rw [em, if_neg (by omega)]
   exact ⟨by omega, by omega, fun m hm hm2 => r4 m hm (by omega), fun m hm hm2 => r5 m (by omega) hm2⟩
  rw [if_neg hf]
  exact ⟨_, _, rfl, Or.inr (Or.inl ⟨hc, hf, rfl, rfl⟩)⟩
 rw [if_neg hc]
 exact ⟨_, _, rfl, Or.inl ⟨hc, rfl, rfl⟩⟩
end Go.Proofs.Ytfcaaefdmabkhaa.Pr
