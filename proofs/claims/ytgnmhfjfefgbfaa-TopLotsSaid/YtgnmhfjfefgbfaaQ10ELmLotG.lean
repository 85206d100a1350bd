/- TopLots: gentle arrays, small inputs. -/
import Derived.Test.YtgnmhfjfefgbfaaQ10ELmLotR
import Derived.Test.YtgnmhfjfefgbfaaQ10ELmLotS
import Derived.Test.YtgnmhfjfefgbfaaQ10ELmPos
import Derived.Test.YtgnmhfjfefgbfaaQ10ELmScan
import Derived.Test.YtgnmhfjfefgbfaaQ10ELmScanR
import Derived.Test.YtgnmhfjfefgbfaaQ10EP0
import Derived.Test.YtgnmhfjfefgbfaaQ10EP3
import Derived.Test.YtgnmhfjfefgbfaaQ10EP1
import Derived.Test.YtgnmhfjfefgbfaaQ10EP2
namespace Go.Proofs.Ytgnmhfjfefgbfaa.Pr
open Go.RowKit Go.Proofs.Ytgnmhfjfefgbfaa.Pr Go.Proofs.YtgnmhfjfefgbfaaW.PrintWords Go.Proofs.YtgnmhfjfefgbfaaW.PrintLast Go.Proofs.YtgnmhfjfefgbfaaW.PrintMore
set_option linter.unusedVariables false
set_option linter.unusedSimpArgs false
theorem Qd5 {γ : Type} (t : γ → γ) (l : List γ) (j : Nat) (h : j < l.length) (v : γ) (hv : v = t l[j]) : ((l.take j).map t ++ l.drop j).set j v = (l.take (j + 1)).map t ++ l.drop (j + 1) := by
 have e : ((l.take j).map t).length = j := by rw [List.length_map, List.length_take]; omega
 rw [List.set_append_right _ _ (by omega), e, Nat.sub_self, List.drop_eq_getElem_cons h, List.set_cons_zero, List.take_succ_eq_append_getElem h, List.map_append, List.append_assoc, hv]
 rfl
theorem Qd3 {γ : Type} (t : γ → γ) (l : List γ) (j : Nat) (h : j < l.length) (d : γ) : ((l.take j).map t ++ l.drop j).getD j d = l[j] := by
 have e : ((l.take j).map t).length = j := by rw [List.length_map, List.length_take]; omega
 rw [List.getD_eq_getElem?_getD, List.getElem?_append_right (by omega), e, Nat.sub_self, List.drop_eq_getElem_cons h]
 rfl
theorem Qd4 {γ : Type} (t : γ → γ) (l : List γ) (j : Nat) (h : j ≤ l.length) : ((l.take j).map t ++ l.drop j).length = l.length := by
 rw [List.length_append, List.length_map, List.length_take, List.length_drop]; omega
def gnt (a : Arr) : Arr := ⟨a.f0, a.f1.map (fun x => Int.tmod x 100000), a.f2⟩
theorem gnt_in (x3 : List Arr) (i : Nat) (hi : i < x3.length) (f : List Int) (hf : f.length * 8 ≤ 140737488351232) (x11 : Int) : ∀ c j k : Nat, j + c = f.length → c + 1 ≤ k →
  Qao.l1 k x3 (i : Int) ((f.take j).map (fun x => Int.tmod x 100000) ++ f.drop j) x11 (i : Int) (f.length : Int) (j : Int) = Qao.l0 (k - c - 1) (x3.set i ⟨(Qaa x3 (i : Int)).f0, f.map (fun x => Int.tmod x 100000), (Qaa x3 (i : Int)).f2⟩) x11 (wrap64 ((i : Int) + 1)) := by
 intro c
 induction c with
 | zero =>
  intro j k hj hk
  obtain ⟨k, rfl⟩ : ∃ z, k = z + 1 := ⟨k - 1, by omega⟩
  obtain rfl : j = f.length := by omega
  rw [Qao.l1, if_neg (by omega), if_pos (by omega), if_pos (by omega), List.take_length, List.drop_length, List.append_nil, Int.toNat_natCast]
  rfl
 | succ c ih =>
  intro j k hj hk
  obtain ⟨k, rfl⟩ : ∃ z, k = z + 1 := ⟨k - 1, by omega⟩
  have g : rd ((f.take j).map (fun x => Int.tmod x 100000) ++ f.drop j) (j : Int) = f[j]'(by omega) := by
   unfold rd
   rw [Int.toNat_natCast]
   exact Qd3 _ f j (by omega) _
  rw [Qao.l1, if_pos (by omega), if_pos (by omega), if_pos (by rw [Qd4 _ f j (by omega)]; omega), g, Int.toNat_natCast, Qd5 (fun x => Int.tmod x 100000) f j (by omega) _ rfl, IntWalk.wrap64_in ((j : Int) + 1) (by omega), show k + 1 - (c + 1) - 1 = k - c - 1 by omega]
  exact ih (j + 1) k (by omega) (by omega)
def fuelG (l : List Arr) : Nat := 1 + (l.map (fun a => a.f1.length + 2)).sum
theorem Qfq (l : List Arr) (hl : l.length ≤ 1000) (hf : ∀ a ∈ l, a.f1.length * 8 ≤ 140737488351232) : ∀ c i k : Nat, i + c = l.length → fuelG (l.drop i) ≤ k →
  Qao.l0 k ((l.take i).map gnt ++ l.drop i) (l.length : Int) (i : Int) = some (l.map gnt) := by
 intro c
 induction c with
 | zero =>
  intro i k hi hk
  unfold fuelG at hk
  obtain ⟨k, rfl⟩ : ∃ z, k = z + 1 := ⟨k - 1, by omega⟩
  obtain rfl : i = l.length := by omega
  rw [Qao.l0, if_neg (by omega), List.take_length, List.drop_length, List.append_nil]
 | succ c ih =>
  intro i k hi hk
  have hlt : i < l.length := by omega
  have hk' : fuelG (l.drop (i + 1)) + l[i].f1.length + 2 ≤ k := by
   rw [List.drop_eq_getElem_cons hlt] at hk
   unfold fuelG at hk ⊢
   rw [List.map_cons, List.sum_cons] at hk
   omega
  obtain ⟨k, rfl⟩ : ∃ z, k = z + 1 := ⟨k - 1, by omega⟩
  have g : Qaa ((l.take i).map gnt ++ l.drop i) (i : Int) = l[i] := by
   unfold Qaa
   rw [Int.toNat_natCast]
   exact Qd3 _ l i hlt _
  have hb := hf _ (List.getElem_mem hlt)
  have ml := Qd4 gnt l i (by omega)
  rw [Qao.l0, if_pos (by omega), Option.bind_some, if_pos (by omega), if_pos (by omega), g, if_pos (by simp; omega), Option.bind_some, List.nil_append]
  have := gnt_in ((l.take i).map gnt ++ l.drop i) i (by omega) l[i].f1 hb (l.length : Int) l[i].f1.length 0 k (by omega) (by omega)
  rw [show ((0 : Nat) : Int) = 0 from rfl, List.take_zero, List.map_nil, List.nil_append, List.drop_zero, g, Qd5 gnt l i hlt ⟨l[i].f0, l[i].f1.map (fun x => Int.tmod x 100000), l[i].f2⟩ rfl, IntWalk.wrap64_in ((i : Int) + 1) (by omega)] at this
  rw [this]
  have r := ih (i + 1) (k - l[i].f1.length - 1) (by omega) (by omega)
  rw [show ((i + 1 : Nat) : Int) = (i : Int) + 1 by omega] at r
  exact r
theorem gnt_eq (l : List Arr) (hl : l.length ≤ 1000) (hf : ∀ a ∈ l, a.f1.length * 8 ≤ 140737488351232) (k : Nat) (hk : fuelG l ≤ k) : Qao.f k l = some (l.map gnt) := by
 unfold Qao.f
 rw [Option.bind_some, if_pos (by simp; omega), Option.bind_some, List.nil_append]
 have := Qfq l hl hf l.length 0 k (by omega) (by rw [List.drop_zero]; exact hk)
 rw [show ((0 : Nat) : Int) = 0 from rfl, List.take_zero, List.map_nil, List.nil_append, List.drop_zero] at this
 exact this
theorem QeR (l : List Arr) : gentA (l.map gnt) := by
 intro a ha x hx
 obtain ⟨b, hb, rfl⟩ := List.mem_map.1 ha
 obtain ⟨y, hy, rfl⟩ := List.mem_map.1 hx
 have h1 := Int.tmod_lt_of_pos y (b := 100000) (by decide)
 have h2 := Int.lt_tmod_of_pos y (b := 100000) (by decide)
 omega
theorem QeL (L : List Posn) (l : List Arr) (hl : l.length ≤ 9223372036854775807) (h72 : l.length * 72 ≤ 140737488351232) : ∀ c i k : Nat, i + c = l.length → c + 1 ≤ k → ∀ x5 : Int, ∃ b, Qax.l0 k L l x5 (l.length : Int) (i : Int) = some b ∧ (b = true → L.length ≤ 150 ∧ l.length ≤ 150) := by
 intro c
 induction c with
 | zero =>
  intro i k hi hk x5
  obtain ⟨k, rfl⟩ : ∃ z, k = z + 1 := ⟨k - 1, by omega⟩
  rw [Qax.l0, if_neg (by omega)]
  by_cases c1 : (L.length : Int) ≤ 150
  ·rw [if_pos c1]
   by_cases c2 : (l.length : Int) ≤ 150
   ·rw [if_pos c2]; exact ⟨_, rfl, fun _ => by omega⟩
   rw [if_neg c2]; exact ⟨_, rfl, fun h => by cases h⟩
  rw [if_neg c1]; exact ⟨_, rfl, fun h => by cases h⟩
 | succ c ih =>
  intro i k hi hk x5
  obtain ⟨k, rfl⟩ : ∃ z, k = z + 1 := ⟨k - 1, by omega⟩
  rw [Qax.l0, if_pos (by omega), if_pos (by omega), if_pos (by omega), IntWalk.wrap64_in ((i : Int) + 1) (by omega)]
  exact ih (i + 1) k (by omega) (by omega) _
theorem fnd_ce (ce : Int) (h : ce ≠ 0) (arr : List Arr) (L : List Posn) (hc : ∀ k, 6000 ≤ k → Qan.f k arr = some ce) (k : Nat) (hk : 20000 ≤ k) : QaA.f k L arr = some ([], ce) := by
 unfold QaA.f Qa0.f
 rw [hc k (by omega), Option.bind_some, if_neg h, Option.bind_some, if_neg h]
theorem ld_bad (o : List Arr) (e : Int) (he : e ≠ 0) (ho : o = []) (arr : List Arr) (L : List Posn) (k : Nat) (hk : 1 ≤ k) (hf : QaA.f k L arr = some (o, e)) : Qaq.f k L arr = some ([], e) ∧ Qaw.f k L arr = some (0, e) := by
 obtain ⟨k, rfl⟩ : ∃ z, k = z + 1 := ⟨k - 1, by omega⟩
 constructor
 ·unfold Qaq.f
  rw [hf, Option.bind_some, if_neg he, Qaq.j0, if_pos rfl]
 unfold Qaw.f
 rw [hf, Option.bind_some, Qaw.l0, if_neg (by rw [ho]; simp)]
theorem QeY (arr : List Arr) (L : List Posn) : (∃ e, e ≠ 0 ∧ ∀ k, 40000 ≤ k → Qaq.f k L arr = some ([], e) ∧ Qaw.f k L arr = some (0, e)) ∨ ((∀ k, 6000 ≤ k → Qan.f k arr = some 0) ∧ arr.length ≤ 128 ∧ uniS arr 0 ∧ QaY L ∧ hasA arr L) := by
 obtain ⟨ce, hc, hu⟩ := sck_eq arr
 by_cases h : ce = 0
 ·subst h
  obtain ⟨h1, h2⟩ := hu rfl
  by_cases g : (fndS 0 L arr).2 = 0
  ·obtain ⟨_, g2, o, g3, g4⟩ := fnd_ok g
   exact .inr ⟨hc, h1, h2, (Qbp L).1 g2, Qck arr L o g3⟩
  refine .inl ⟨(fndS 0 L arr).2, g, fun k hk => ld_bad (fndS 0 L arr).1 _ g (QdY g) arr L k (by omega) ?_⟩
  exact fnd_eq 0 arr L (by omega) hc k (by omega)
 exact .inl ⟨ce, h, fun k hk => ld_bad [] ce h rfl arr L k (by omega) (fnd_ce ce h arr L hc k (by omega))⟩
end Go.Proofs.Ytgnmhfjfefgbfaa.Pr
