/- TopLots: what a lot loses, and its delta. -/
import Derived.Test.YtgnmhfjfefgbfaaQ10ELmLotS
import Derived.Test.YtgnmhfjfefgbfaaQ10ELmPos
import Derived.Test.YtgnmhfjfefgbfaaQ10ELmScan
import Derived.Test.YtgnmhfjfefgbfaaQ10ELmScanR
import Derived.Test.YtgnmhfjfefgbfaaQ10ELmSums
import Derived.Test.YtgnmhfjfefgbfaaQ10ELmTier
import Derived.Test.YtgnmhfjfefgbfaaQ10EP0
import Derived.Test.YtgnmhfjfefgbfaaQ10EP2
namespace Go.Proofs.Ytgnmhfjfefgbfaa.Pr
open Go.RowKit Go.Proofs.Ytgnmhfjfefgbfaa.Pr Go.Proofs.YtgnmhfjfefgbfaaW.PrintWords Go.Proofs.YtgnmhfjfefgbfaaW.PrintLast Go.Proofs.YtgnmhfjfefgbfaaW.PrintMore
set_option linter.unusedVariables false
set_option linter.unusedSimpArgs false
def gentA (arr : List Arr) : Prop := ∀ a ∈ arr, ∀ x ∈ a.f1, -100000 ≤ x ∧ x ≤ 100000
theorem colv_w (c : Nat) (p : Posn) (a : Arr) (hp : lotsOk p) (hx : -100000 ≤ rd a.f1 (c : Int) ∧ rd a.f1 (c : Int) ≤ 100000) : colvS c p a = (p.f1 - p.f2) * rd a.f1 (c : Int) ∧ -104857600000 ≤ colvS c p a ∧ colvS c p a ≤ 104857600000 := by
 obtain ⟨a1, a2, _⟩ := hp
 unfold colvS
 rw [IntWalk.wrap64_in (p.f1 - p.f2) (by omega)]
 have b : -104857600000 ≤ (p.f1 - p.f2) * rd a.f1 (c : Int) ∧ (p.f1 - p.f2) * rd a.f1 (c : Int) ≤ 104857600000 := by
  have h := Int.natAbs_mul (p.f1 - p.f2) (rd a.f1 (c : Int))
  have h2 : (p.f1 - p.f2).natAbs * (rd a.f1 (c : Int)).natAbs ≤ 1048576 * 100000 := Nat.mul_le_mul (by omega) (by omega)
  omega
 rw [IntWalk.wrap64_in _ (by omega)]
 exact ⟨rfl, b⟩
theorem sum_bd (B : Int) : ∀ l : List Int, (∀ x ∈ l, -B ≤ x ∧ x ≤ B) → -(l.length * B) ≤ l.sum ∧ l.sum ≤ l.length * B
 | [], _ => by simp
 | x :: l, h => by
  have ih := sum_bd B l (fun y hy => h y (List.mem_cons_of_mem _ hy))
  obtain ⟨a, b⟩ := h x (by simp)
  simp only [List.sum_cons, List.length_cons]
  push_cast
  rw [Int.add_mul]
  omega
theorem ls_ok (L : List Posn) (o : List Arr) (m : Nat) (hm : m ≤ 32) (hL : L.length ≤ 128) (ho : o.length = L.length) (hu : ∀ a ∈ o, a.f1.length = m) (hf : ∀ c : Nat, c < m → ∀ x ∈ colS c L o, -104857600000 ≤ x ∧ x ≤ 104857600000) : ∀ n c k : Nat, c + n = m → 300 * n + 300 ≤ k → ∀ acc : List Int, acc.length = c →
  Qaq.l0 k L acc o (m : Int) (c : Int) = some (acc ++ (List.range' c n).map (fun q => (colS q L o).sum), 0) := by
 intro n
 induction n with
 | zero =>
  intro c k hc hk acc ha
  obtain ⟨k, rfl⟩ : ∃ q, k = q + 1 := ⟨k - 1, by omega⟩
  rw [Qaq.l0, if_neg (show ¬ (c : Int) < (m : Int) by omega)]
  simp
 | succ n ih =>
  intro c k hc hk acc ha
  obtain ⟨k, rfl⟩ : ∃ q, k = q + 1 := ⟨k - 1, by omega⟩
  rw [Qaq.l0, if_pos (show (c : Int) < (m : Int) by omega)]
  obtain ⟨k', h1, h2⟩ := ls_in L o acc c m hm (by omega) hL ho hu L.length 0 k (by omega) (by omega) [] rfl
  rw [show ((0 : Nat) : Int) = 0 from rfl, List.nil_append, List.drop_zero] at h2
  have hcl : (colS c L o).length = L.length := by unfold colS; rw [List.length_zipWith]; omega
  rw [h2, sum_eq (colS c L o) (by omega) k' (by omega), Option.bind_some]
  have F := hf c (by omega)
  have S := sum_bd 104857600000 (colS c L o) F
  rw [hcl] at S
  have g1 : ∀ x ∈ colS c L o, mdFits x := fun x hx => by have := F x hx; unfold mdFits; omega
  have g2 : mdFits (colS c L o).sum := by unfold mdFits; omega
  unfold sumS
  rw [if_pos g1, if_pos g2, if_pos rfl, if_pos (by omega), smW1 (by omega), ih (c + 1) k' (by omega) (by omega) (acc ++ [(colS c L o).sum]) (by simp [ha]), List.range'_succ, List.map_cons, List.append_assoc]
  rfl
theorem QdQ (arr : List Arr) (L : List Posn) (h : hasA arr L) (p : Posn) (hp : p ∈ L) : arA arr p.f0 ∈ arr := by
 obtain ⟨a, ha⟩ := Option.isSome_iff_exists.1 (h p hp)
 have e : arr.find? (eqA ⟨p.f0, 0, 0⟩) = some a := ha
 unfold arA
 rw [e]
 exact List.mem_of_find?_eq_some ha
theorem QcN (arr : List Arr) (L : List Posn) (h : hasA arr L) (hg : ∀ p ∈ L, lotsOk p) (hb : gentA arr) (c : Nat) (hc : ∀ a ∈ arr, c < a.f1.length) : (colS c L (L.map (fun p => arA arr p.f0))).sum = wgt (fun s => rd (arA arr s).f1 (c : Int)) L ∧ ∀ x ∈ colS c L (L.map (fun p => arA arr p.f0)), -104857600000 ≤ x ∧ x ≤ 104857600000 := by
 unfold colS
 rw [QcX]
 have hx : ∀ p ∈ L, -100000 ≤ rd (arA arr p.f0).f1 (c : Int) ∧ rd (arA arr p.f0).f1 (c : Int) ≤ 100000 := fun p hp => by
  have hm := QdQ arr L h p hp
  exact hb _ hm _ (by rw [rd_at _ c (hc _ hm)]; exact List.getElem_mem _)
 refine ⟨?_, fun x hx' => ?_⟩
 ·unfold wgt
  congr 1
  apply List.map_congr_left
  intro p hp
  exact (colv_w c p _ (hg p hp) (hx p hp)).1
 obtain ⟨p, hp, rfl⟩ := List.mem_map.1 hx'
 exact (colv_w c p _ (hg p hp) (hx p hp)).2
theorem QdI : ∀ l : List Int, wrap64 (l.map wrap64).sum = wrap64 l.sum
 | [] => rfl
 | x :: l => by
  rw [List.map_cons, List.sum_cons, List.sum_cons, addW, ← addW2 x, QdI l, addW2]
theorem fndL (arr : List Arr) (L : List Posn) (hL : QaY L) (h : hasA arr L) : fndS 0 L arr = (L.map (fun p => arA arr p.f0), 0) := by
 unfold fndS
 rw [if_pos rfl, if_pos ((Qbp L).2 hL), QeZ arr L h]
def losW (arr : List Arr) (L : List Posn) : List Int := (List.range' 0 (widS arr)).map (fun c : Nat => wgt (fun s => rd (arA arr s).f1 (c : Int)) L)
theorem losL (arr : List Arr) (L : List Posn) (hl : arr.length ≤ 130) (hc : ∀ k, 6000 ≤ k → Qan.f k arr = some 0) (hu : uniS arr 0) (hb : gentA arr) (hL : QaY L) (h : hasA arr L) (k : Nat) (hk : 40000 ≤ k) :
  Qaq.f k L arr = some (losW arr L, 0) ∧ Qaw.f k L arr = some (wrap64 (wgt (fun s => (arA arr s).f2) L), 0) := by
 have F := fndL arr L hL h
 constructor
 ·unfold Qaq.f
  rw [fnd_eq 0 arr L hl hc k (by omega), Option.bind_some, F, if_pos rfl]
  obtain ⟨k, rfl⟩ : ∃ q, k = q + 1 := ⟨k - 1, by omega⟩
  by_cases h0 : arr.length = 0
  ·rw [Qaq.j0, if_pos (by rw [h0]; rfl)]
   unfold losW widS
   rw [if_pos h0]; rfl
  have wd : ∀ a ∈ arr, a.f1.length = widS arr := fun a ha => by rw [widS, if_neg h0]; exact (Qcg hu ha).1
  have w32 : widS arr ≤ 32 := by rw [widS, if_neg h0]; exact (Qcg hu (QcK (l := arr) (i := 0) (by omega))).2
  rw [Qaq.j0, if_neg (by simp; intro h'; exact h0 (by rw [h']; rfl)), if_pos (by omega)]
  have e : (((Qaa arr 0).f1.length : Nat) : Int) = (widS arr : Int) := by rw [widS, if_neg h0]
  rw [e]
  have := ls_ok L (L.map (fun p => arA arr p.f0)) (widS arr) w32 hL.1 (by simp) (fun a ha => by
   obtain ⟨p, hp, rfl⟩ := List.mem_map.1 ha
   exact wd _ (QdQ arr L h p hp)) (fun c hc => (QcN arr L h hL.2.2 hb c (fun a ha => by rw [wd a ha]; exact hc)).2) (widS arr) 0 k (by omega) (by omega) [] rfl
  rw [show ((0 : Nat) : Int) = 0 from rfl] at this
  rw [this, List.nil_append]
  congr 2
  unfold losW
  apply List.map_congr_left
  intro c hc
  have hc' : c < widS arr := by
   have := List.mem_range'_1.1 hc
   omega
  exact (QcN arr L h hL.2.2 hb c (fun a ha => by rw [wd a ha]; exact hc')).1
 rw [QeP 0 arr L hl hc k (by omega), F]
 congr 2
 rw [QcX]
 have : L.map (fun p => dltS p (arA arr p.f0)) = (L.map (fun p => (p.f1 - p.f2) * (arA arr p.f0).f2)).map wrap64 := by
  rw [List.map_map]
  apply List.map_congr_left
  intro p hp
  obtain ⟨a1, a2, _⟩ := hL.2.2 p hp
  unfold dltS
  rw [IntWalk.wrap64_in (p.f1 - p.f2) (by omega)]
  rfl
 rw [this, QdI]
 rfl
end Go.Proofs.Ytgnmhfjfefgbfaa.Pr
