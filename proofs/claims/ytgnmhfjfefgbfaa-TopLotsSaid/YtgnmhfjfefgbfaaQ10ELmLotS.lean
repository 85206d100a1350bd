/- TopLots: what lots lose together. -/
import Derived.Test.YtgnmhfjfefgbfaaQ10ELmLotJ
import Derived.Test.YtgnmhfjfefgbfaaQ10ELmPos
import Derived.Test.YtgnmhfjfefgbfaaQ10ELmScan
import Derived.Test.YtgnmhfjfefgbfaaQ10EP0
import Derived.Test.YtgnmhfjfefgbfaaQ10EP7
namespace Go.Proofs.Ytgnmhfjfefgbfaa.Pr
open Go.RowKit Go.Proofs.Ytgnmhfjfefgbfaa.Pr Go.Proofs.YtgnmhfjfefgbfaaW.PrintWords Go.Proofs.YtgnmhfjfefgbfaaW.PrintLast Go.Proofs.YtgnmhfjfefgbfaaW.PrintMore
set_option linter.unusedVariables false
set_option linter.unusedSimpArgs false
theorem same15 (L : List Posn) (hl : L.length ≤ 1000) : ∀ n i k : Nat, i + n = L.length → 2 * n + 2 ≤ k → Qat.l0 k L L (i : Int) = some true := by
 intro n
 induction n with
 | zero =>
  intro i k hi hk
  obtain ⟨k, rfl⟩ : ∃ z, k = z + 2 := ⟨k - 2, by omega⟩
  rw [Qat.l0, if_neg (by omega), Qat.j1, if_neg (by decide)]
  simp
 | succ n ih =>
  intro i k hi hk
  obtain ⟨k, rfl⟩ : ∃ z, k = z + 2 := ⟨k - 2, by omega⟩
  rw [Qat.l0, if_pos (by omega), Qat.j1, if_pos (decide_eq_true (by omega)), if_pos (by omega), if_pos (by omega), if_pos (by omega), if_neg (by simp), IntWalk.wrap64_in _ (by omega)]
  exact ih (i + 1) k (by omega) (by omega)
theorem QeE (L : List Posn) (hl : L.length ≤ 1000) (k : Nat) (hk : 3000 ≤ k) : Qat.f k L L = some true := same15 L hl L.length 0 k (by omega) (by omega)
theorem same23 (a : List Int) (hl : a.length ≤ 1000) : ∀ n i k : Nat, i + n = a.length → n + 1 ≤ k → Qay.l0 k a a (i : Int) = some true := by
 intro n
 induction n with
 | zero =>
  intro i k hi hk
  obtain ⟨k, rfl⟩ : ∃ z, k = z + 1 := ⟨k - 1, by omega⟩
  rw [Qay.l0, if_neg (by omega)]
 | succ n ih =>
  intro i k hi hk
  obtain ⟨k, rfl⟩ : ∃ z, k = z + 1 := ⟨k - 1, by omega⟩
  rw [Qay.l0, if_pos (by omega), if_pos (by omega), if_pos (by omega), if_pos rfl, IntWalk.wrap64_in _ (by omega)]
  exact ih (i + 1) k (by omega) (by omega)
theorem QeF (a : List Int) (hl : a.length ≤ 1000) (k : Nat) (hk : 3000 ≤ k) : Qay.f k a a = some true := by
 unfold Qay.f
 rw [if_pos rfl]
 exact same23 a hl a.length 0 k (by omega) (by omega)
def hasA (arr : List Arr) (L : List Posn) : Prop := ∀ p ∈ L, (arr.find? (eqA p)).isSome = true
theorem Qc5 (arr : List Arr) : ∀ (L : List Posn), hasA arr L → ownM arr L = some (L.map (fun p => (arr.find? (eqA p)).getD z128))
 | [], _ => rfl
 | p :: L, h => by
  rw [ownM, Qc5 arr L (fun q hq => h q (List.mem_cons_of_mem _ hq))]
  obtain ⟨a, ha⟩ := Option.isSome_iff_exists.1 (h p (by simp))
  rw [ha]
  simp [ha]
theorem Qck (arr : List Arr) : ∀ (L : List Posn) (o : List Arr), ownM arr L = some o → hasA arr L
 | [], _, _ => by intro p hp; simp at hp
 | p :: L, o, h => by
  rw [ownM] at h
  obtain ⟨a, ha, h⟩ := Option.bind_eq_some_iff.1 h
  obtain ⟨r, hr, _⟩ := Option.map_eq_some_iff.1 h
  intro q hq
  rcases List.mem_cons.1 hq with rfl | hq
  ·rw [ha]; rfl
  exact Qck arr L r hr q hq
def arA (arr : List Arr) (s : Ser) : Arr := (arr.find? (eqA ⟨s, 0, 0⟩)).getD z128
theorem QeZ (arr : List Arr) (L : List Posn) (h : hasA arr L) : ownM arr L = some (L.map (fun p => arA arr p.f0)) := by
 rw [Qc5 arr L h]
 rfl
theorem QcX {γ : Type} (f : Posn → Arr → γ) (g : Posn → Arr) : ∀ L : List Posn, List.zipWith f L (L.map g) = L.map (fun p => f p (g p))
 | [] => rfl
 | p :: L => by rw [List.map_cons, List.zipWith_cons_cons, QcX f g L, List.map_cons]
def wgt (v : Ser → Int) (l : List Posn) : Int := (l.map (fun p => (p.f1 - p.f2) * v p.f0)).sum
theorem Qfd (v : Ser → Int) (p : Posn) (l : List Posn) : wgt v (p :: l) = (p.f1 - p.f2) * v p.f0 + wgt v l := by simp [wgt]
theorem QcT (v : Ser → Int) (a b : List Posn) : wgt v (a ++ b) = wgt v a + wgt v b := by simp [wgt]
theorem Qd8 (s : Ser) (p : Posn) (l : List Posn) : sL s (p :: l) = (if p.f0 = s then p.f1 else 0) + sL s l ∧ sS s (p :: l) = (if p.f0 = s then p.f2 else 0) + sS s l := by
 unfold sL sS
 by_cases c : p.f0 = s <;> simp [c]
theorem QcB {γ : Type} (f : γ → Int) : ∀ l : List γ, (∀ x ∈ l, f x = 0) → (l.map f).sum = 0
 | [], _ => rfl
 | x :: l, h => by rw [List.map_cons, List.sum_cons, h x (by simp), QcB f l (fun y hy => h y (List.mem_cons_of_mem _ hy))]; rfl
theorem QdB (v : Ser → Int) (q : Posn) : ∀ (L : List Posn), (L.map (·.f0)).Nodup → (∃ p ∈ L, p.f0 = q.f0) → (L.map (fun p => ((if q.f0 = p.f0 then q.f1 else 0) - (if q.f0 = p.f0 then q.f2 else 0)) * v p.f0)).sum = (q.f1 - q.f2) * v q.f0
 | [], _, h => by obtain ⟨p, hp, _⟩ := h; simp at hp
 | p :: L, hn, h => by
  rw [List.map_cons, List.nodup_cons] at hn
  rw [List.map_cons, List.sum_cons]
  by_cases c : q.f0 = p.f0
  ·rw [if_pos c, if_pos c, QcB _ L (fun x hx => ?_), c]
   ·omega
   have : ¬ q.f0 = x.f0 := fun e => hn.1 (by rw [← c, e]; exact List.mem_map_of_mem hx)
   rw [if_neg this, if_neg this]; simp
  rw [if_neg c, if_neg c]
  obtain ⟨x, hx, e⟩ := h
  have hx' : x ∈ L := by
   rcases List.mem_cons.1 hx with rfl | hx
   ·exact absurd e.symm c
   exact hx
  rw [QdB v q L hn.2 ⟨x, hx', e⟩]; simp
theorem QdA {γ : Type} (f g : γ → Int) : ∀ l : List γ, (l.map (fun x => f x + g x)).sum = (l.map f).sum + (l.map g).sum
 | [] => rfl
 | x :: l => by simp only [List.map_cons, List.sum_cons, QdA f g l]; omega
theorem Qda (v : Ser → Int) (L : List Posn) (hn : (L.map (·.f0)).Nodup) : ∀ all : List Posn, (∀ q ∈ all, ∃ p ∈ L, p.f0 = q.f0) → wgt v all = (L.map (fun p => (sL p.f0 all - sS p.f0 all) * v p.f0)).sum
 | [], _ => by
  rw [QcB _ L (fun x _ => by simp [sL, sS])]; rfl
 | q :: all, h => by
  rw [Qfd, Qda v L hn all (fun x hx => h x (List.mem_cons_of_mem _ hx)), ← QdB v q L hn (h q (by simp)), ← QdA]
  congr 1
  apply List.map_congr_left
  intro p _
  obtain ⟨e1, e2⟩ := Qd8 p.f0 q all
  rw [e1, e2, ← Int.add_mul]
  congr 1
  omega
theorem Qca (v : Ser → Int) {L all : List Posn} (hL : QaY L) (hW : Whole L all) : wgt v all = wgt v L := by
 rw [Qda v L (QbZ hL) all hW.2]
 unfold wgt
 congr 1
 apply List.map_congr_left
 intro p hp
 obtain ⟨a, b, _⟩ := hW.1 p hp
 rw [a, b]
end Go.Proofs.Ytgnmhfjfefgbfaa.Pr
