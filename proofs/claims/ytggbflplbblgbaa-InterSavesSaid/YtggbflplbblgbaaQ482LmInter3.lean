/- What Save answers, and the page's examples. -/
import Derived.Test.YtggbflplbblgbaaQ482LmInter
import Derived.Test.YtggbflplbblgbaaQ482LmInter2
import Derived.Test.YtggbflplbblgbaaQ482LmName
import Derived.Test.YtggbflplbblgbaaQ482P2
import Derived.Test.YtggbflplbblgbaaQ482P1
import Derived.Test.YtggbflplbblgbaaQ482P0
namespace Go.Proofs.Ytggbflplbblgbaa.Pr
open Go.RowKit Go.Proofs.Ytggbflplbblgbaa.Pr Go.Proofs.YtggbflplbblgbaaW.PrintWords Go.Proofs.YtggbflplbblgbaaW.PrintLast Go.Proofs.YtggbflplbblgbaaW.PrintMore
set_option linter.unusedVariables false
set_option linter.unusedSimpArgs false
def pS (l0 : List ByteArray) (l1 l2 : List Int) (l3 : List Crd) : List Int × List Int := runI (ixI l0 0) l1 l2 l3 (List.replicate l0.length 0, l1)
def saveS (l0 : List ByteArray) (l1 l2 : List Int) (l3 : List Crd) : List Int × List Int × Int := if crS l3 = 0 then (if mayS l0 l1 l2 = true then ((pS l0 l1 l2 l3).1, (pS l0 l1 l2 l3).2, 0) else ([], [], 2)) else ([], [], crS l3)
theorem may_pl {l0 : List ByteArray} {l1 l2 : List Int} (h : MayOk l0 l1 l2) : PlI (ixI l0 0) l0.length := by
 have key := fun z v => QcC l0 0 z v (fun a b ha hb e => Qds h ha hb e)
 refine ⟨fun z v hv => ?_, fun y z v hy hz => ?_⟩
 ·obtain ⟨j, hj, e, _⟩ := (key z v).1 hv
  exact ⟨j, hj, by rw [e]; omega⟩
 obtain ⟨i, hi, e1, n1⟩ := (key y v).1 hy
 obtain ⟨j, hj, e2, n2⟩ := (key z v).1 hz
 have : i = j := by omega
 rw [← n1, ← n2, this]
theorem QcD {l0 : List ByteArray} {l1 l2 : List Int} (h : MayOk l0 l1 l2) : DatI l1 l2 l0.length := ⟨h.h1, h.h2, fun i hi => h.ds i hi, fun i hi => h.rs i hi⟩
theorem rd_rep (n : Nat) (j : Nat) : rd (List.replicate n 0) (j : Int) = 0 := by
 unfold rd
 rw [Int.toNat_natCast, List.getD_eq_getElem?_getD, List.getElem?_replicate]
 split <;> rfl
theorem QcE {l0 : List ByteArray} {l1 l2 : List Int} (h : MayOk l0 l1 l2) : InvI l1 l2 l0.length (List.replicate l0.length 0, l1) := by
 refine ⟨List.length_replicate, h.h1, fun i hi => ?_, fun i hi => ?_⟩
 ·show 0 ≤ rd (List.replicate l0.length 0) (i : Int) ∧ rd (List.replicate l0.length 0) (i : Int) ≤ _
  rw [rd_rep]
  exact ⟨Int.le_refl _, (h.rs i hi).1⟩
 show betw (rd l1 (i : Int)) (rd l1 (i : Int))
 unfold betw
 omega
theorem l_loop (F : ByteArray → Option Int) (ds rs : List Int) (n : Nat) (P : PlI F n) (D : DatI ds rs n) (l3 : List Crd) (hl : l3.length ≤ 1024) (big : bigC l3) (ok : ∀ c ∈ l3, crOk c ∧ crOk2 c) :
  ∀ m i k p, i + m = l3.length → m + 1 ≤ k → InvI ds rs n p → Qag.l F ds rs l3 k (i : Int) p.1 p.2 = some (runI F ds rs (l3.drop i) p) := by
 intro m
 induction m with
 | zero =>
  intro i k p hi hk I
  obtain ⟨k, rfl⟩ : ∃ m, k = m + 1 := ⟨k - 1, by omega⟩
  rw [Qag.l, if_neg (by omega), List.drop_eq_nil_of_le (by omega)]
  rfl
 | succ m ih =>
  intro i k p hi hk I
  obtain ⟨k, rfl⟩ : ∃ m, k = m + 1 := ⟨k - 1, by omega⟩
  have w : wrap64 ((i : Int) + 1) = ((i + 1 : Nat) : Int) := by rw [nwrap (by omega) (by omega)]; omega
  have mem := cr_mem (l := l3) (i := i) (by omega)
  obtain ⟨k1, k2⟩ := ok _ mem
  have b := big _ mem
  rw [Qag.l, if_pos (by omega), if_pos (by omega), s_eq F ds rs n _ p P D I k1 k2 b.1 b.2, Option.bind_some, w,
   ih (i + 1) k _ (by omega) (by omega) (Qdv F ds rs n _ p P D I k1 k2).1, Qce l3 i (by omega)]
  rfl
theorem QcF (l0 : List ByteArray) (l1 l2 : List Int) (l3 : List Crd) (hl : l0.length < 17592186044416) (sz : ∀ y ∈ l0, y.size ≤ 9223372036854775807) (big : bigC l3) (k : Nat) (hk : 2100 + l0.length ≤ k) :
  Qag.f k l0 l1 l2 l3 = some (saveS l0 l1 l2 l3) := by
 unfold Qag.f saveS
 rw [Qdo l3 k (by omega), Option.bind_some]
 by_cases c : crS l3 = 0
 ·rw [if_pos c, if_pos c, Qeh l0 l1 l2 (by omega) k (by omega), Option.bind_some]
  by_cases m : mayS l0 l1 l2 = true
  ·have M := QbT m
   obtain ⟨c1, c2⟩ := crS_ok c
   have h1 := M.h1
   rw [if_pos m, if_pos m, if_pos ⟨hl, by omega⟩, m_eq l0 sz (fun a b ha hb e => Qds M ha hb e) (by omega) k (by omega), Option.bind_some]
   have L := l_loop (ixI l0 0) l1 l2 l0.length (may_pl M) (QcD M) l3 c1 big c2 l3.length 0 k (List.replicate l0.length 0, l1) (by omega) (by omega) (QcE M)
   rw [show ((0 : Nat) : Int) = 0 from rfl, List.drop_zero] at L
   rw [L]; rfl
  rw [if_neg m, if_neg m]
 rw [if_neg c, if_neg c]
theorem Qeg (a : List Int) (ha : a.length ≤ 1152921504606846976) : ∀ n i k : Nat, i + n = a.length → 2 * n + 2 ≤ k → Qad.l0 k a a (i : Int) = some true := by
 intro n
 induction n with
 | zero =>
  intro i k hi hk
  obtain ⟨k, rfl⟩ : ∃ m, k = m + 2 := ⟨k - 2, by omega⟩
  rw [Qad.l0, if_neg (by omega), Qad.j1, if_neg (by decide)]
  simp
 | succ n ih =>
  intro i k hi hk
  obtain ⟨k, rfl⟩ : ∃ m, k = m + 2 := ⟨k - 2, by omega⟩
  have w : wrap64 ((i : Int) + 1) = ((i + 1 : Nat) : Int) := by rw [nwrap (by omega) (by omega)]; omega
  rw [Qad.l0, if_pos (by omega), decide_eq_true (by omega), Qad.j1, if_pos rfl, if_pos (by omega), if_pos (by omega), if_pos (by omega), if_pos rfl, w]
  exact ih (i + 1) k (by omega) (by omega)
theorem Qbw (a : List Int) (ha : a.length ≤ 1152921504606846976) (k : Nat) (hk : 2 * a.length + 2 ≤ k) : Qad.f k a a = some true := by
 unfold Qad.f
 exact Qeg a ha a.length 0 k (by omega) (by omega)
theorem goes25 (k : Nat) (hk : 3000 ≤ k) : QaA.f k = some true := by
 unfold QaA.f
 have c1 : bigC [(⟨(⟨#[97]⟩ : ByteArray), (⟨#[98]⟩ : ByteArray), 1, 2, 500⟩ : Crd)] := by
  intro c hc
  obtain rfl := List.mem_singleton.1 hc
  exact ⟨by decide, by decide⟩
 have c2 : ∀ y ∈ [(⟨#[97]⟩ : ByteArray), (⟨#[98]⟩ : ByteArray)], y.size ≤ 9223372036854775807 := by
  intro y hy
  rcases List.mem_cons.1 hy with rfl | hy
  ·decide
  obtain rfl := List.mem_singleton.1 hy; decide
 have s1 : saveS [(⟨#[97]⟩ : ByteArray), (⟨#[98]⟩ : ByteArray)] [3000, -5000] [900, 1000] [(⟨(⟨#[97]⟩ : ByteArray), (⟨#[98]⟩ : ByteArray), 1, 2, 500⟩ : Crd)] = ([300, 400], [1000, -1000], 0) := by decide +kernel
 have s2 : saveS [(⟨#[97]⟩ : ByteArray), (⟨#[98]⟩ : ByteArray)] [3000, 5000] [900, 1000] [(⟨(⟨#[97]⟩ : ByteArray), (⟨#[98]⟩ : ByteArray), 1, 2, 500⟩ : Crd)] = ([0, 0], [3000, 5000], 0) := by decide +kernel
 rw [Option.bind_some, QcF _ _ _ _ (by decide) c2 c1 k (by simp; omega), s1, Option.bind_some, QcF _ _ _ _ (by decide) c2 c1 k (by simp; omega), s2, Option.bind_some, Qbw _ (by decide) k (by simp; omega), Option.bind_some, if_pos rfl,
  Qbw _ (by decide) k (by simp; omega), Option.bind_some, if_pos rfl, if_pos rfl, Qbw _ (by decide) k (by simp; omega), Option.bind_some, if_pos rfl]
 rfl
end Go.Proofs.Ytggbflplbblgbaa.Pr
