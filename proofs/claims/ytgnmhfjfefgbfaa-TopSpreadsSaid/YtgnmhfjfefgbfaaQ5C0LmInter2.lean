/- The map of names; what a credit does; what Save answers. -/
import Derived.Test.YtgnmhfjfefgbfaaQ5C0LmCentsMd
import Derived.Test.YtgnmhfjfefgbfaaQ5C0LmInter
import Derived.Test.YtgnmhfjfefgbfaaQ5C0LmName
import Derived.Test.YtgnmhfjfefgbfaaQ5C0P0
import Derived.Test.YtgnmhfjfefgbfaaQ5C0P2
import Derived.Test.YtgnmhfjfefgbfaaQ5C0P5
import Derived.Test.YtgnmhfjfefgbfaaQ5C0P6
namespace Go.Proofs.Ytgnmhfjfefgbfaa.Pr
open Go.RowKit Go.Proofs.Ytgnmhfjfefgbfaa.Pr Go.Proofs.YtgnmhfjfefgbfaaW.PrintWords Go.Proofs.YtgnmhfjfefgbfaaW.PrintLast Go.Proofs.YtgnmhfjfefgbfaaW.PrintMore
set_option linter.unusedVariables false
set_option linter.unusedSimpArgs false
def ixI : List ByteArray → Nat → ByteArray → Option Int
 | [], _, _ => none
 | x :: t, i, z => if x = z then some (i : Int) else ixI t (i + 1) z
theorem Qdp : ∀ (l : List ByteArray) (i : Nat) (z : ByteArray) (v : Int), (∀ a b : Nat, a < l.length → b < l.length → nmI l a = nmI l b → a = b) → (ixI l i z = some v ↔ ∃ j : Nat, j < l.length ∧ v = ((i + j : Nat) : Int) ∧ nmI l j = z)
 | [], i, z, v, _ => by
  constructor
  ·intro h; cases h
  rintro ⟨j, h, _⟩; simp at h
 | x :: t, i, z, v, inj => by
  have inj' : ∀ a b : Nat, a < t.length → b < t.length → nmI t a = nmI t b → a = b := fun a b ha hb e => by
   have := inj (a + 1) (b + 1) (by simp; omega) (by simp; omega) e
   omega
  rw [ixI]
  by_cases c : x = z
  ·rw [if_pos c]
   constructor
   ·intro h
    injection h with h
    exact ⟨0, by simp, by rw [← h]; rfl, c⟩
   rintro ⟨j, hj, hv, he⟩
   have := inj j 0 hj (by simp) (by rw [he]; exact c.symm)
   rw [hv, this]; rfl
  rw [if_neg c, Qdp t (i + 1) z v inj']
  constructor
  ·rintro ⟨j, hj, hv, he⟩
   exact ⟨j + 1, by simp; omega, by rw [hv]; omega, he⟩
  rintro ⟨j, hj, hv, he⟩
  cases j with
  | zero => exact absurd he c
  | succ j => exact ⟨j, by simp at hj; omega, by rw [hv]; omega, he⟩
theorem Qgn {l : List ByteArray} {i : Nat} (h : i < l.length) : nmI l i ∈ l := by
 unfold nmI rdOf
 rw [Int.toNat_natCast, List.getD_eq_getElem?_getD, List.getElem?_eq_getElem h]
 exact List.getElem_mem h
theorem m_loop (l0 : List ByteArray) (sz : ∀ y ∈ l0, y.size ≤ 9223372036854775807) (inj : ∀ a b : Nat, a < l0.length → b < l0.length → nmI l0 a = nmI l0 b → a = b) (hl : l0.length ≤ 17592186044416) :
  ∀ n i k f, i + n = l0.length → n + 1 ≤ k → (∀ (z : ByteArray) (v : Int), f z = some v ↔ ∃ j : Nat, j < i ∧ v = (j : Int) ∧ nmI l0 j = z) →
   ∃ F, Qam.m k l0 f i (i : Int) = some F ∧ ∀ (z : ByteArray) (v : Int), F z = some v ↔ ∃ j : Nat, j < l0.length ∧ v = (j : Int) ∧ nmI l0 j = z := by
 intro n
 induction n with
 | zero =>
  intro i k f hi hk hf
  obtain ⟨k, rfl⟩ : ∃ m, k = m + 1 := ⟨k - 1, by omega⟩
  refine ⟨f, ?_, ?_⟩
  ·rw [Qam.m, if_neg (by omega)]
  rw [show l0.length = i by omega]; exact hf
 | succ n ih =>
  intro i k f hi hk hf
  obtain ⟨k, rfl⟩ : ∃ m, k = m + 1 := ⟨k - 1, by omega⟩
  have w : wrap64 ((i : Int) + 1) = ((i + 1 : Nat) : Int) := by rw [nwrap (by omega) (by omega)]; omega
  have s1 := sz _ (Qgn (l := l0) (i := i) (by omega))
  rw [Qam.m, if_pos (by omega), if_pos (by omega), if_pos ⟨by omega, s1, by omega, by omega⟩, w]
  refine ih (i + 1) k _ (by omega) (by omega) (fun z v => ?_)
  show (if z = nmI l0 i then some (i : Int) else f z) = some v ↔ _
  by_cases c : z = nmI l0 i
  ·rw [if_pos c]
   constructor
   ·intro h
    injection h with h
    exact ⟨i, by omega, h.symm, c.symm⟩
   rintro ⟨j, hj, hv, he⟩
   have := inj j i (by omega) (by omega) (he.trans c)
   rw [hv, this]
  rw [if_neg c, hf]
  constructor
  ·rintro ⟨j, hj, hv, he⟩; exact ⟨j, by omega, hv, he⟩
  rintro ⟨j, hj, hv, he⟩
  refine ⟨j, ?_, hv, he⟩
  by_cases e : j = i
  ·subst e; exact absurd he.symm c
  omega
theorem m_eq (l0 : List ByteArray) (sz : ∀ y ∈ l0, y.size ≤ 9223372036854775807) (inj : ∀ a b : Nat, a < l0.length → b < l0.length → nmI l0 a = nmI l0 b → a = b) (hl : l0.length ≤ 17592186044416) (k : Nat) (hk : l0.length + 1 ≤ k) :
  Qam.m k l0 (fun _ => none) 0 0 = some (ixI l0 0) := by
 obtain ⟨F, hF, h⟩ := m_loop l0 sz inj hl l0.length 0 k (fun _ => none) (by omega) hk (fun z v => by
  constructor
  ·intro h; cases h
  rintro ⟨j, h, _⟩; omega)
 rw [show (0 : Int) = ((0 : Nat) : Int) from rfl, hF]
 congr 1
 funext z
 apply Option.ext
 intro v
 rw [h, Qdp l0 0 z v inj]
 constructor
 ·rintro ⟨j, a, b, c⟩; exact ⟨j, a, by rw [b]; omega, c⟩
 rintro ⟨j, a, b, c⟩; exact ⟨j, a, by rw [b]; omega, c⟩
theorem Qfd (a b c : Int) (ha : 0 ≤ a) (hb : 0 ≤ b) (hc : 0 < c) : mdRes a b c 1 = if 1152921504606846976 < a * b / c then (0, 3) else (a * b / c, 0) := by
 have hB : Qbu a b c = false := by
  unfold Qbu
  rw [decide_eq_false (show ¬ a < 0 by omega), decide_eq_false (show ¬ b < 0 by omega), decide_eq_false (show ¬ c < 0 by omega)]
  rfl
 have hQ : mdQ a b c 1 = a * b / c := by
  unfold mdQ
  rw [hB, show ((a.natAbs : Nat) : Int) = a by omega, show ((b.natAbs : Nat) : Int) = b by omega, show ((c.natAbs : Nat) : Int) = c by omega]
  unfold mdAway
  simp
 unfold mdRes
 rw [hQ, hB]
 simp
theorem QcM (a b c : Int) (ha : 0 ≤ a) (hb : 0 ≤ b) (hc : 0 < c) (h : b ≤ c) : 0 ≤ a * b / c ∧ a * b / c ≤ a := by
 have h1 : 0 ≤ a * b := Int.mul_nonneg ha hb
 have h2 : a * b ≤ a * c := Int.mul_le_mul_of_nonneg_left h ha
 have h3 : a * b / c ≤ a * c / c := Int.ediv_le_ediv hc h2
 rw [Int.mul_ediv_cancel _ (by omega)] at h3
 exact ⟨Int.ediv_nonneg h1 (by omega), h3⟩
theorem md1_eq (a b c : Int) (ha : 0 ≤ a ∧ a ≤ 1152921504606846976) (hb : 0 ≤ b) (hc : 0 < c ∧ c ≤ 1152921504606846976) (h : b ≤ c) : QaK.f a b c 1 = some (a * b / c, 0) := by
 have p := QcM a b c ha.1 hb hc.1 h
 rw [md_eq, if_pos ⟨⟨by omega, by omega⟩, ⟨by omega, by omega⟩, ⟨by omega, by omega⟩, by omega, by omega⟩, if_neg (by omega), Qfd a b c ha.1 hb hc.1, if_neg (by omega)]
theorem QdW (a b c : Int) (ha : 0 ≤ a ∧ a ≤ 1152921504606846976) (hb : 0 ≤ b) (hc : 0 < c ∧ c ≤ 1152921504606846976) (h : b ≤ c) : QbA.f a b c = some (a * b / c) := by
 unfold QbA.f
 rw [md1_eq a b c ha hb hc h]; rfl
def inB40 (x : Int) : Prop := -1099511627776 ≤ x ∧ x ≤ 1099511627776
theorem Qc3 (x : Int) (h : inB40 x) : Qbo.f x = some (x.natAbs : Int) := by
 unfold inB40 at h
 unfold Qbo.f mx
 rw [IntWalk.wrap64_in (-x) (by omega)]
 congr 1
 split <;> omega
def ownI (r d t th : Int) : Int := (r * t / (d.natAbs : Int)) * th / 1000
theorem Qdq (r d t th : Int) (hr : 0 ≤ r) (hd : d ≠ 0) (ht : 0 ≤ t ∧ t ≤ (d.natAbs : Int)) (h : 0 ≤ th ∧ th ≤ 1000) : 0 ≤ ownI r d t th ∧ ownI r d t th ≤ r := by
 have p := QcM r t (d.natAbs : Int) hr ht.1 (by omega) ht.2
 have q := QcM (r * t / (d.natAbs : Int)) th 1000 p.1 h.1 (by omega) h.2
 unfold ownI
 omega
theorem QeQ (r d t th : Int) (hr : 0 ≤ r ∧ r ≤ 1152921504606846976) (hd : d ≠ 0) (hb : inB40 d) (ht : 0 ≤ t ∧ t ≤ (d.natAbs : Int)) (h : 0 ≤ th ∧ th ≤ 1000) : Qbt.f r d t th = some (ownI r d t th) := by
 have hb' := hb
 unfold inB40 at hb'
 have p := QcM r t (d.natAbs : Int) hr.1 ht.1 (by omega) ht.2
 unfold Qbt.f
 rw [Qc3 d hb, Option.bind_some, QdW r t _ hr ht.1 ⟨by omega, by omega⟩ ht.2, Option.bind_some, QdW _ th 1000 ⟨p.1, by omega⟩ h.1 ⟨by omega, by omega⟩ h.2]
 rfl
def credI (ds rs : List Int) (i : Nat) (t th : Int) (p : List Int × List Int) : List Int × List Int :=
 (p.1.set i (mn (rd p.1 (i : Int) + ownI (rd rs (i : Int)) (rd ds (i : Int)) t th) (rd rs (i : Int))), p.2.set i (if 0 < rd p.2 (i : Int) then rd p.2 (i : Int) - t else rd p.2 (i : Int) + t))
def goI (x y : Int) : Prop := x ≠ 0 ∧ y ≠ 0 ∧ decide (0 < x) ≠ decide (0 < y)
instance (x y : Int) : Decidable (goI x y) := inferInstanceAs (Decidable (_ ∧ _ ∧ _))
def cntI (x y la lb : Int) : Int := mn ((x.natAbs : Int) / (1000 * la)) ((y.natAbs : Int) / (1000 * lb))
def stepI (ds rs : List Int) (a b : Nat) (c : Crd) (p : List Int × List Int) : List Int × List Int :=
 if goI (rd p.2 (a : Int)) (rd p.2 (b : Int)) then
  credI ds rs b (cntI (rd p.2 (a : Int)) (rd p.2 (b : Int)) c.f2 c.f3 * 1000 * c.f3) c.f4 (credI ds rs a (cntI (rd p.2 (a : Int)) (rd p.2 (b : Int)) c.f2 c.f3 * 1000 * c.f2) c.f4 p)
 else p
def stI (F : ByteArray → Option Int) (ds rs : List Int) (c : Crd) (p : List Int × List Int) : List Int × List Int :=
 match F c.f0, F c.f1 with
 | some a, some b => stepI ds rs a.toNat b.toNat c p
 | _, _ => p
def runI (F : ByteArray → Option Int) (ds rs : List Int) : List Crd → List Int × List Int → List Int × List Int
 | [], p => p
 | c :: t, p => runI F ds rs t (stI F ds rs c p)
def betw (x d : Int) : Prop := (0 ≤ d → 0 ≤ x ∧ x ≤ d) ∧ (d ≤ 0 → d ≤ x ∧ x ≤ 0)
structure InvI (ds rs : List Int) (n : Nat) (p : List Int × List Int) : Prop where
 n1 : p.1.length = n
 n2 : p.2.length = n
 s : ∀ i : Nat, i < n → 0 ≤ rd p.1 (i : Int) ∧ rd p.1 (i : Int) ≤ rd rs (i : Int)
 d : ∀ i : Nat, i < n → betw (rd p.2 (i : Int)) (rd ds (i : Int))
structure DatI (ds rs : List Int) (n : Nat) : Prop where
 n1 : ds.length = n
 n2 : rs.length = n
 d : ∀ i : Nat, i < n → inB40 (rd ds (i : Int))
 r : ∀ i : Nat, i < n → 0 ≤ rd rs (i : Int) ∧ rd rs (i : Int) ≤ 1152921504606846976
theorem Qcb {x d : Int} (h : betw x d) : x.natAbs ≤ d.natAbs := by unfold betw at h; omega
theorem Qcq {x d : Int} (h : betw x d) (g : inB40 d) : inB40 x := by unfold betw inB40 at *; omega
theorem QbY (l : List Int) (a j : Nat) (v : Int) (h : a < l.length) : rd (l.set a v) (j : Int) = if j = a then v else rd l (j : Int) := by
 by_cases e : j = a
 ·subst e; rw [if_pos rfl]
  unfold rd
  rw [Int.toNat_natCast, List.getD_eq_getElem?_getD, List.getElem?_set_self h]; rfl
 rw [if_neg e]
 unfold rd
 rw [Int.toNat_natCast, List.getD_eq_getElem?_getD, List.getD_eq_getElem?_getD, List.getElem?_set_ne (fun h => e h.symm)]
theorem QdR (ds rs : List Int) (n i : Nat) (t th : Int) (p : List Int × List Int) (D : DatI ds rs n) (I : InvI ds rs n p) (hi : i < n) (h0 : rd p.2 (i : Int) ≠ 0) (ht : 0 ≤ t ∧ t ≤ ((rd p.2 (i : Int)).natAbs : Int)) (hh : 0 ≤ th ∧ th ≤ 1000) :
  Qam.new p.1 rs p.2 (i : Int) t (ownI (rd rs (i : Int)) (rd ds (i : Int)) t th) = credI ds rs i t th p := by
 have a1 := I.s i hi
 have a2 := I.d i hi
 have a3 := D.d i hi
 have a4 := D.r i hi
 have a5 := Qcb a2
 have a6 := Qcq a2 a3
 have a7 := Qdq (rd rs (i : Int)) (rd ds (i : Int)) t th a4.1 (by omega) ⟨ht.1, by omega⟩ hh
 unfold inB40 at a6 a3
 unfold Qam.new credI
 rw [Int.toNat_natCast, IntWalk.wrap64_in (rd p.1 (i : Int) + ownI (rd rs (i : Int)) (rd ds (i : Int)) t th) (by omega)]
 congr 2
 split
 ·rw [IntWalk.wrap64_in (-t) (by omega), IntWalk.wrap64_in _ (by omega)]; omega
 rw [IntWalk.wrap64_in _ (by omega)]
theorem QcZ (ds rs : List Int) (n i : Nat) (t th : Int) (p : List Int × List Int) (D : DatI ds rs n) (I : InvI ds rs n p) (hi : i < n) (h0 : rd p.2 (i : Int) ≠ 0) (ht : 0 ≤ t ∧ t ≤ ((rd p.2 (i : Int)).natAbs : Int)) (hh : 0 ≤ th ∧ th ≤ 1000) :
  InvI ds rs n (credI ds rs i t th p) := by
 have a1 := I.s i hi
 have a2 := I.d i hi
 have a3 := D.d i hi
 have a4 := D.r i hi
 have a5 := Qcb a2
 have a7 := Qdq (rd rs (i : Int)) (rd ds (i : Int)) t th a4.1 (by omega) ⟨ht.1, by omega⟩ hh
 refine ⟨by unfold credI; rw [List.length_set]; exact I.n1, by unfold credI; rw [List.length_set]; exact I.n2, fun j hj => ?_, fun j hj => ?_⟩
 ·show 0 ≤ rd (p.1.set i _) (j : Int) ∧ rd (p.1.set i _) (j : Int) ≤ _
  rw [QbY _ _ _ _ (by rw [I.n1]; exact hi)]
  by_cases e : j = i
  ·subst e; rw [if_pos rfl]; unfold mn; split <;> omega
  rw [if_neg e]; exact I.s j hj
 show betw (rd (p.2.set i _) (j : Int)) _
 rw [QbY _ _ _ _ (by rw [I.n2]; exact hi)]
 by_cases e : j = i
 ·subst e; rw [if_pos rfl]; unfold betw at *; split <;> omega
 rw [if_neg e]; exact I.d j hj
theorem Qdw (ds rs : List Int) (n i : Nat) (t th : Int) (p : List Int × List Int) (D : DatI ds rs n) (I : InvI ds rs n p) (hi : i < n) (h0 : rd p.2 (i : Int) ≠ 0) (ht : 0 ≤ t ∧ t ≤ ((rd p.2 (i : Int)).natAbs : Int)) (hh : 0 ≤ th ∧ th ≤ 1000) (j : Nat) (hj : j < n) :
  rd p.1 (j : Int) ≤ rd (credI ds rs i t th p).1 (j : Int) := by
 have a1 := I.s i hi
 have a2 := I.d i hi
 have a4 := D.r i hi
 have a5 := Qcb a2
 have a7 := Qdq (rd rs (i : Int)) (rd ds (i : Int)) t th a4.1 (by omega) ⟨ht.1, by omega⟩ hh
 show _ ≤ rd (p.1.set i _) (j : Int)
 rw [QbY _ _ _ _ (by rw [I.n1]; exact hi)]
 by_cases e : j = i
 ·subst e; rw [if_pos rfl]; unfold mn; split <;> omega
 rw [if_neg e]; exact Int.le_refl _
theorem Qez (x y la lb : Int) (hx : inB40 x) (hy : inB40 y) (ha : 1 ≤ la ∧ la ≤ 1000) (hb : 1 ≤ lb ∧ lb ≤ 1000) :
  (0 ≤ cntI x y la lb ∧ cntI x y la lb ≤ 1099511627776) ∧ (0 ≤ cntI x y la lb * 1000 * la ∧ cntI x y la lb * 1000 * la ≤ (x.natAbs : Int)) ∧ (0 ≤ cntI x y la lb * 1000 * lb ∧ cntI x y la lb * 1000 * lb ≤ (y.natAbs : Int)) := by
 unfold inB40 at hx hy
 have h1 : (x.natAbs : Int) / (1000 * la) * (1000 * la) ≤ (x.natAbs : Int) := Int.ediv_mul_le _ (by omega)
 have h2 : (y.natAbs : Int) / (1000 * lb) * (1000 * lb) ≤ (y.natAbs : Int) := Int.ediv_mul_le _ (by omega)
 have p1 : 0 ≤ (x.natAbs : Int) / (1000 * la) := Int.ediv_nonneg (by omega) (by omega)
 have p2 : 0 ≤ (y.natAbs : Int) / (1000 * lb) := Int.ediv_nonneg (by omega) (by omega)
 have p3 : (x.natAbs : Int) / (1000 * la) ≤ (x.natAbs : Int) := Int.ediv_le_self _ (by omega)
 have e1 : cntI x y la lb ≤ (x.natAbs : Int) / (1000 * la) := by unfold cntI mn; split <;> omega
 have e2 : cntI x y la lb ≤ (y.natAbs : Int) / (1000 * lb) := by unfold cntI mn; split <;> omega
 have e0 : 0 ≤ cntI x y la lb := by unfold cntI mn; split <;> omega
 have q1 : cntI x y la lb * (1000 * la) ≤ (x.natAbs : Int) / (1000 * la) * (1000 * la) := Int.mul_le_mul_of_nonneg_right e1 (by omega)
 have q2 : cntI x y la lb * (1000 * lb) ≤ (y.natAbs : Int) / (1000 * lb) * (1000 * lb) := Int.mul_le_mul_of_nonneg_right e2 (by omega)
 have r1 : 0 ≤ cntI x y la lb * (1000 * la) := Int.mul_nonneg e0 (by omega)
 have r2 : 0 ≤ cntI x y la lb * (1000 * lb) := Int.mul_nonneg e0 (by omega)
 rw [Int.mul_assoc, Int.mul_assoc]
 refine ⟨⟨e0, by omega⟩, ⟨r1, by omega⟩, r2, by omega⟩
theorem Qer (ds rs : List Int) (i j : Nat) (t th : Int) (p : List Int × List Int) (hi : i < p.2.length) (h : j ≠ i) : rd (credI ds rs i t th p).2 (j : Int) = rd p.2 (j : Int) := by
 show rd (p.2.set i _) (j : Int) = _
 rw [QbY _ _ _ _ hi, if_neg h]
structure FacI (ds rs : List Int) (n a b : Nat) (c : Crd) (p : List Int × List Int) : Prop where
 inv : InvI ds rs n (stepI ds rs a b c p)
 more : ∀ j : Nat, j < n → rd p.1 (j : Int) ≤ rd (stepI ds rs a b c p).1 (j : Int)
 oth : ∀ j : Nat, j ≠ a → j ≠ b → rd (stepI ds rs a b c p).1 (j : Int) = rd p.1 (j : Int) ∧ rd (stepI ds rs a b c p).2 (j : Int) = rd p.2 (j : Int)
theorem QfU (ds rs : List Int) (n a b : Nat) (c : Crd) (p : List Int × List Int) (D : DatI ds rs n) (I : InvI ds rs n p) (ha : a < n) (hb : b < n) (ab : a ≠ b) (ok : crOk2 c) : FacI ds rs n a b c p := by
 by_cases g : goI (rd p.2 (a : Int)) (rd p.2 (b : Int))
 ·have B := Qez (rd p.2 (a : Int)) (rd p.2 (b : Int)) c.f2 c.f3 (Qcq (I.d a ha) (D.d a ha)) (Qcq (I.d b hb) (D.d b hb)) ok.1 ok.2.1
  obtain ⟨N, hN⟩ : ∃ N, N = cntI (rd p.2 (a : Int)) (rd p.2 (b : Int)) c.f2 c.f3 := ⟨_, rfl⟩
  rw [← hN] at B
  have I1 := QcZ ds rs n a (N * 1000 * c.f2) c.f4 p D I ha g.1 B.2.1 ok.2.2
  have e1 := Qer ds rs a b (N * 1000 * c.f2) c.f4 p (by rw [I.n2]; exact ha) (fun h => ab h.symm)
  have B2 : 0 ≤ N * 1000 * c.f3 ∧ N * 1000 * c.f3 ≤ ((rd (credI ds rs a (N * 1000 * c.f2) c.f4 p).2 (b : Int)).natAbs : Int) := by rw [e1]; exact B.2.2
  have n0 : rd (credI ds rs a (N * 1000 * c.f2) c.f4 p).2 (b : Int) ≠ 0 := by rw [e1]; exact g.2.1
  have S : stepI ds rs a b c p = credI ds rs b (N * 1000 * c.f3) c.f4 (credI ds rs a (N * 1000 * c.f2) c.f4 p) := by unfold stepI; rw [if_pos g, hN]
  refine ⟨by rw [S]; exact QcZ ds rs n b _ _ _ D I1 hb n0 B2 ok.2.2, fun j hj => ?_, fun j h1 h2 => ?_⟩
  ·rw [S]
   exact Int.le_trans (Qdw ds rs n a _ _ p D I ha g.1 B.2.1 ok.2.2 j hj) (Qdw ds rs n b _ _ _ D I1 hb n0 B2 ok.2.2 j hj)
  rw [S]
  constructor
  ·show rd ((p.1.set a _).set b _) (j : Int) = _
   rw [QbY _ _ _ _ (by rw [List.length_set, I.n1]; exact hb), if_neg h2, QbY _ _ _ _ (by rw [I.n1]; exact ha), if_neg h1]
  show rd ((p.2.set a _).set b _) (j : Int) = _
  rw [QbY _ _ _ _ (by rw [List.length_set, I.n2]; exact hb), if_neg h2, QbY _ _ _ _ (by rw [I.n2]; exact ha), if_neg h1]
 have S : stepI ds rs a b c p = p := by unfold stepI; rw [if_neg g]
 exact ⟨by rw [S]; exact I, fun j _ => by rw [S]; exact Int.le_refl _, fun j _ _ => by rw [S]; exact ⟨rfl, rfl⟩⟩
structure PlI (F : ByteArray → Option Int) (n : Nat) : Prop where
 at_ : ∀ z v, F z = some v → ∃ j : Nat, j < n ∧ v = (j : Int)
 inj : ∀ y z v, F y = some v → F z = some v → y = z
theorem s_eq (F : ByteArray → Option Int) (ds rs : List Int) (n : Nat) (c : Crd) (p : List Int × List Int) (P : PlI F n) (D : DatI ds rs n) (I : InvI ds rs n p) (k1 : crOk c) (k2 : crOk2 c) (b1 : c.f0.size ≤ 9223372036854775807) (b2 : c.f1.size ≤ 9223372036854775807) :
  Qam.s F ds rs c p.1 p.2 = some (stI F ds rs c p) := by
 unfold Qam.s stI
 rw [if_pos ⟨b1, b2⟩]
 cases hA : F c.f0 with
 | none => rw [if_neg (by decide)]
 | some va =>
  rw [if_pos (show (some va).isSome = true from rfl)]
  cases hB : F c.f1 with
  | none => rw [if_neg (by decide)]
  | some vb =>
   obtain ⟨a, ha, rfl⟩ := P.at_ _ _ hA
   obtain ⟨b, hb, rfl⟩ := P.at_ _ _ hB
   have ab : a ≠ b := fun e => k1.2.2 (P.inj _ _ _ hA (by rw [e]; exact hB))
   have q1 := D.n1
   have q2 := D.n2
   have q3 := I.n1
   have q4 := I.n2
   rw [if_pos (show (some (b : Int)).isSome = true from rfl)]
   simp only [Option.getD_some, Int.toNat_natCast]
   rw [if_pos ⟨⟨by omega, by omega, by omega, by omega, by omega⟩, by omega, by omega, by omega, by omega, by omega⟩]
   obtain ⟨x, hx⟩ : ∃ x, x = rd p.2 (a : Int) := ⟨_, rfl⟩
   obtain ⟨y, hy⟩ : ∃ y, y = rd p.2 (b : Int) := ⟨_, rfl⟩
   have ix : inB40 x := by rw [hx]; exact Qcq (I.d a ha) (D.d a ha)
   have iy : inB40 y := by rw [hy]; exact Qcq (I.d b hb) (D.d b hb)
   unfold stepI
   simp only [← hx, ← hy]
   by_cases x0 : x = 0
   ·rw [if_pos x0, if_neg (fun g => g.1 x0)]
   rw [if_neg x0]
   by_cases y0 : y = 0
   ·rw [if_pos y0, if_neg (fun g => g.2.1 y0)]
   rw [if_neg y0]
   by_cases xy : decide (0 < x) = decide (0 < y)
   ·rw [if_pos xy, if_neg (fun g => g.2.2 xy)]
   have g : goI x y := ⟨x0, y0, xy⟩
   rw [if_neg xy, if_pos g]
   have o1 := k2.1
   have o2 := k2.2.1
   have B := Qez x y c.f2 c.f3 ix iy o1 o2
   have ix' := ix
   have iy' := iy
   unfold inB40 at ix' iy'
   rw [nwrap (x := 1000 * c.f2) (by omega) (by omega), nwrap (x := 1000 * c.f3) (by omega) (by omega), if_neg (by omega), if_neg (by omega), Qc3 x ix, Option.bind_some, Qc3 y iy, Option.bind_some,
    Int.tdiv_eq_ediv_of_nonneg (by omega), Int.tdiv_eq_ediv_of_nonneg (by omega)]
   have d1 : 0 ≤ (x.natAbs : Int) / (1000 * c.f2) := Int.ediv_nonneg (by omega) (by omega)
   have d2 : 0 ≤ (y.natAbs : Int) / (1000 * c.f3) := Int.ediv_nonneg (by omega) (by omega)
   have d3 : (x.natAbs : Int) / (1000 * c.f2) ≤ (x.natAbs : Int) := Int.ediv_le_self _ (by omega)
   have d4 : (y.natAbs : Int) / (1000 * c.f3) ≤ (y.natAbs : Int) := Int.ediv_le_self _ (by omega)
   rw [nwrap d1 (by omega), nwrap d2 (by omega)]
   show ((Qbt.f _ _ (wrap64 (wrap64 (cntI x y c.f2 c.f3 * 1000) * c.f2)) _).bind fun o1 => (Qbt.f _ _ (wrap64 (wrap64 (cntI x y c.f2 c.f3 * 1000) * c.f3)) _).bind fun o2 => some (Qam.new (Qam.new p.1 rs p.2 (a : Int) (wrap64 (wrap64 (cntI x y c.f2 c.f3 * 1000) * c.f2)) o1).1 rs (Qam.new p.1 rs p.2 (a : Int) (wrap64 (wrap64 (cntI x y c.f2 c.f3 * 1000) * c.f2)) o1).2 (b : Int) (wrap64 (wrap64 (cntI x y c.f2 c.f3 * 1000) * c.f3)) o2)) = some (credI ds rs b (cntI x y c.f2 c.f3 * 1000 * c.f3) c.f4 (credI ds rs a (cntI x y c.f2 c.f3 * 1000 * c.f2) c.f4 p))
   obtain ⟨N, hN⟩ : ∃ N, N = cntI x y c.f2 c.f3 := ⟨_, rfl⟩
   rw [← hN] at B ⊢
   have da := Qcb (I.d a ha)
   have db := Qcb (I.d b hb)
   have Da := D.d a ha
   have Db := D.d b hb
   rw [← hx] at da
   rw [← hy] at db
   rw [nwrap (x := N * 1000) (by omega) (by omega), nwrap B.2.1.1 (by omega), nwrap B.2.2.1 (by omega),
    QeQ _ _ _ _ (D.r a ha) (by omega) Da ⟨B.2.1.1, by omega⟩ k2.2.2, Option.bind_some, QeQ _ _ _ _ (D.r b hb) (by omega) Db ⟨B.2.2.1, by omega⟩ k2.2.2, Option.bind_some]
   have ta : 0 ≤ N * 1000 * c.f2 ∧ N * 1000 * c.f2 ≤ ((rd p.2 (a : Int)).natAbs : Int) := by rw [← hx]; exact B.2.1
   rw [QdR ds rs n a _ _ p D I ha (by omega) ta k2.2.2]
   have I1 := QcZ ds rs n a (N * 1000 * c.f2) c.f4 p D I ha (by omega) ta k2.2.2
   have e1 := Qer ds rs a b (N * 1000 * c.f2) c.f4 p (by omega) (fun h => ab h.symm)
   rw [QdR ds rs n b _ _ _ D I1 hb (by omega) ⟨B.2.2.1, by rw [e1, ← hy]; exact B.2.2.2⟩ k2.2.2]
theorem QeN (F : ByteArray → Option Int) (ds rs : List Int) (n : Nat) (c : Crd) (p : List Int × List Int) (P : PlI F n) (D : DatI ds rs n) (I : InvI ds rs n p) (k1 : crOk c) (k2 : crOk2 c) :
  InvI ds rs n (stI F ds rs c p) ∧ (∀ j : Nat, j < n → rd p.1 (j : Int) ≤ rd (stI F ds rs c p).1 (j : Int)) ∧ (∀ j : Nat, (∀ z, z = c.f0 ∨ z = c.f1 → F z ≠ some (j : Int)) → rd (stI F ds rs c p).1 (j : Int) = rd p.1 (j : Int) ∧ rd (stI F ds rs c p).2 (j : Int) = rd p.2 (j : Int)) := by
 unfold stI
 cases hA : F c.f0 with
 | none => exact ⟨I, fun j _ => Int.le_refl _, fun j _ => ⟨rfl, rfl⟩⟩
 | some va =>
  cases hB : F c.f1 with
  | none => exact ⟨I, fun j _ => Int.le_refl _, fun j _ => ⟨rfl, rfl⟩⟩
  | some vb =>
   obtain ⟨a, ha, rfl⟩ := P.at_ _ _ hA
   obtain ⟨b, hb, rfl⟩ := P.at_ _ _ hB
   have ab : a ≠ b := fun e => k1.2.2 (P.inj _ _ _ hA (by rw [e]; exact hB))
   simp only [Int.toNat_natCast]
   have f := QfU ds rs n a b c p D I ha hb ab k2
   refine ⟨f.inv, f.more, fun j hj => f.oth j (fun e => ?_) (fun e => ?_)⟩
   ·exact hj c.f0 (Or.inl rfl) (by rw [hA, e])
   exact hj c.f1 (Or.inr rfl) (by rw [hB, e])
theorem QeL (F : ByteArray → Option Int) (ds rs : List Int) (n : Nat) (P : PlI F n) (D : DatI ds rs n) : ∀ (l : List Crd) (p : List Int × List Int), InvI ds rs n p → (∀ c ∈ l, crOk c ∧ crOk2 c) →
  InvI ds rs n (runI F ds rs l p) ∧ (∀ j : Nat, j < n → rd p.1 (j : Int) ≤ rd (runI F ds rs l p).1 (j : Int)) ∧ (∀ j : Nat, (∀ c ∈ l, ∀ z, z = c.f0 ∨ z = c.f1 → F z ≠ some (j : Int)) → rd (runI F ds rs l p).1 (j : Int) = rd p.1 (j : Int) ∧ rd (runI F ds rs l p).2 (j : Int) = rd p.2 (j : Int))
 | [], p, I, _ => ⟨I, fun j _ => Int.le_refl _, fun j _ => ⟨rfl, rfl⟩⟩
 | c :: t, p, I, h => by
  obtain ⟨k1, k2⟩ := h c List.mem_cons_self
  obtain ⟨a1, a2, a3⟩ := QeN F ds rs n c p P D I k1 k2
  obtain ⟨b1, b2, b3⟩ := QeL F ds rs n P D t _ a1 (fun c hc => h c (List.mem_cons_of_mem _ hc))
  refine ⟨b1, fun j hj => Int.le_trans (a2 j hj) (b2 j hj), fun j hj => ?_⟩
  obtain ⟨e1, e2⟩ := a3 j (hj c List.mem_cons_self)
  obtain ⟨e3, e4⟩ := b3 j (fun c hc => hj c (List.mem_cons_of_mem _ hc))
  exact ⟨e3.trans e1, e4.trans e2⟩
end Go.Proofs.Ytgnmhfjfefgbfaa.Pr
