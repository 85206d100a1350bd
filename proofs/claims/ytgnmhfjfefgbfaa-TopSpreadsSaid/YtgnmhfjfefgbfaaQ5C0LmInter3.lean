/- What Save answers, and the page's examples. -/
import Derived.Test.YtgnmhfjfefgbfaaQ5C0LmInter
import Derived.Test.YtgnmhfjfefgbfaaQ5C0LmInter2
import Derived.Test.YtgnmhfjfefgbfaaQ5C0LmName
import Derived.Test.YtgnmhfjfefgbfaaQ5C0P6
import Derived.Test.YtgnmhfjfefgbfaaQ5C0P0
namespace Go.Proofs.Ytgnmhfjfefgbfaa.Pr
open Go.RowKit Go.Proofs.Ytgnmhfjfefgbfaa.Pr Go.Proofs.YtgnmhfjfefgbfaaW.PrintWords Go.Proofs.YtgnmhfjfefgbfaaW.PrintLast Go.Proofs.YtgnmhfjfefgbfaaW.PrintMore
set_option linter.unusedVariables false
set_option linter.unusedSimpArgs false
def pS (l0 : List ByteArray) (l1 l2 : List Int) (l3 : List Crd) : List Int × List Int := runI (ixI l0 0) l1 l2 l3 (List.replicate l0.length 0, l1)
def saveS (l0 : List ByteArray) (l1 l2 : List Int) (l3 : List Crd) : List Int × List Int × Int := if crS l3 = 0 then (if mayS l0 l1 l2 = true then ((pS l0 l1 l2 l3).1, (pS l0 l1 l2 l3).2, 0) else ([], [], 2)) else ([], [], crS l3)
theorem may_pl {l0 : List ByteArray} {l1 l2 : List Int} (h : MayOk l0 l1 l2) : PlI (ixI l0 0) l0.length := by
 have key := fun z v => Qdp l0 0 z v (fun a b ha hb e => QeG h ha hb e)
 refine ⟨fun z v hv => ?_, fun y z v hy hz => ?_⟩
 ·obtain ⟨j, hj, e, _⟩ := (key z v).1 hv
  exact ⟨j, hj, by rw [e]; omega⟩
 obtain ⟨i, hi, e1, n1⟩ := (key y v).1 hy
 obtain ⟨j, hj, e2, n2⟩ := (key z v).1 hz
 have : i = j := by omega
 rw [← n1, ← n2, this]
theorem QeF {l0 : List ByteArray} {l1 l2 : List Int} (h : MayOk l0 l1 l2) : DatI l1 l2 l0.length := ⟨h.h1, h.h2, fun i hi => h.ds i hi, fun i hi => h.rs i hi⟩
theorem rd_rep (n : Nat) (j : Nat) : rd (List.replicate n 0) (j : Int) = 0 := by
 unfold rd
 rw [Int.toNat_natCast, List.getD_eq_getElem?_getD, List.getElem?_replicate]
 split <;> rfl
theorem QeH {l0 : List ByteArray} {l1 l2 : List Int} (h : MayOk l0 l1 l2) : InvI l1 l2 l0.length (List.replicate l0.length 0, l1) := by
 refine ⟨List.length_replicate, h.h1, fun i hi => ?_, fun i hi => ?_⟩
 ·show 0 ≤ rd (List.replicate l0.length 0) (i : Int) ∧ rd (List.replicate l0.length 0) (i : Int) ≤ _
  rw [rd_rep]
  exact ⟨Int.le_refl _, (h.rs i hi).1⟩
 show betw (rd l1 (i : Int)) (rd l1 (i : Int))
 unfold betw
 omega
theorem l_loop (F : ByteArray → Option Int) (ds rs : List Int) (n : Nat) (P : PlI F n) (D : DatI ds rs n) (l3 : List Crd) (hl : l3.length ≤ 1024) (big : bigC l3) (ok : ∀ c ∈ l3, crOk c ∧ crOk2 c) :
  ∀ m i k p, i + m = l3.length → m + 1 ≤ k → InvI ds rs n p → Qam.l F ds rs l3 k (i : Int) p.1 p.2 = some (runI F ds rs (l3.drop i) p) := by
 intro m
 induction m with
 | zero =>
  intro i k p hi hk I
  obtain ⟨k, rfl⟩ : ∃ m, k = m + 1 := ⟨k - 1, by omega⟩
  rw [Qam.l, if_neg (by omega), List.drop_eq_nil_of_le (by omega)]
  rfl
 | succ m ih =>
  intro i k p hi hk I
  obtain ⟨k, rfl⟩ : ∃ m, k = m + 1 := ⟨k - 1, by omega⟩
  have w : wrap64 ((i : Int) + 1) = ((i + 1 : Nat) : Int) := by rw [nwrap (by omega) (by omega)]; omega
  have mem := cr_mem (l := l3) (i := i) (by omega)
  obtain ⟨k1, k2⟩ := ok _ mem
  have b := big _ mem
  rw [Qam.l, if_pos (by omega), if_pos (by omega), s_eq F ds rs n _ p P D I k1 k2 b.1 b.2, Option.bind_some, w,
   ih (i + 1) k _ (by omega) (by omega) (QeN F ds rs n _ p P D I k1 k2).1, Qeq l3 i (by omega)]
  rfl
theorem Qgw (l0 : List ByteArray) (l1 l2 : List Int) (l3 : List Crd) (hl : l0.length < 17592186044416) (sz : ∀ y ∈ l0, y.size ≤ 9223372036854775807) (big : bigC l3) (k : Nat) (hk : 2100 + l0.length ≤ k) :
  Qam.f k l0 l1 l2 l3 = some (saveS l0 l1 l2 l3) := by
 unfold Qam.f saveS
 rw [Qgf l3 k (by omega), Option.bind_some]
 by_cases c : crS l3 = 0
 ·rw [if_pos c, if_pos c, Qgg l0 l1 l2 (by omega) k (by omega), Option.bind_some]
  by_cases m : mayS l0 l1 l2 = true
  ·have M := QeE m
   obtain ⟨c1, c2⟩ := crS_ok c
   have h1 := M.h1
   rw [if_pos m, if_pos m, if_pos ⟨hl, by omega⟩, m_eq l0 sz (fun a b ha hb e => QeG M ha hb e) (by omega) k (by omega), Option.bind_some]
   have L := l_loop (ixI l0 0) l1 l2 l0.length (may_pl M) (QeF M) l3 c1 big c2 l3.length 0 k (List.replicate l0.length 0, l1) (by omega) (by omega) (QeH M)
   rw [show ((0 : Nat) : Int) = 0 from rfl, List.drop_zero] at L
   rw [L]; rfl
  rw [if_neg m, if_neg m]
 rw [if_neg c, if_neg c]
end Go.Proofs.Ytgnmhfjfefgbfaa.Pr
