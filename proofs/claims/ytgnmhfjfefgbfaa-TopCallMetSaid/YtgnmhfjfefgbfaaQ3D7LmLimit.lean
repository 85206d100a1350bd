/- Limits: how much of each pledge counts, and all together, by the program and by the reference. -/
import Derived.Test.YtgnmhfjfefgbfaaQ3D7LmAsset
import Derived.Test.YtgnmhfjfefgbfaaQ3D7LmAssetAll
import Derived.Test.YtgnmhfjfefgbfaaQ3D7LmAssetMath
import Derived.Test.YtgnmhfjfefgbfaaQ3D7LmCentsMd
import Derived.Test.YtgnmhfjfefgbfaaQ3D7LmName
import Derived.Test.YtgnmhfjfefgbfaaQ3D7LmPledge
import Derived.Test.YtgnmhfjfefgbfaaQ3D7LmPledge2
import Derived.Test.YtgnmhfjfefgbfaaQ3D7LmPledgeOf
import Derived.Test.YtgnmhfjfefgbfaaQ3D7LmPledgeTop
import Derived.Test.YtgnmhfjfefgbfaaQ3D7LmPledgeW
import Derived.Test.YtgnmhfjfefgbfaaQ3D7LmRate
import Derived.Test.YtgnmhfjfefgbfaaQ3D7LmSums
import Derived.Test.YtgnmhfjfefgbfaaQ3D7P0
import Derived.Test.YtgnmhfjfefgbfaaQ3D7P6
import Derived.Test.YtgnmhfjfefgbfaaQ3D7P7
import Derived.Test.YtgnmhfjfefgbfaaQ3D7P2
namespace Go.Proofs.Ytgnmhfjfefgbfaa.Pr
open Go.RowKit Go.Proofs.Ytgnmhfjfefgbfaa.Pr Go.Proofs.YtgnmhfjfefgbfaaW.PrintWords Go.Proofs.YtgnmhfjfefgbfaaW.PrintLast Go.Proofs.YtgnmhfjfefgbfaaW.PrintMore
set_option linter.unusedVariables false
set_option linter.unusedSimpArgs false
theorem Qf6 (s : ByteArray) (kd cu un hc cp : Int) (h : chkA s kd cu un hc cp = 0) : (1 ≤ kd ∧ kd ≤ 3) ∧ (0 ≤ cp ∧ cp ≤ 1000) := by
 unfold chkA prt at h
 (repeat' split at h) <;> first | (cases h; done) | omega
theorem QeS (l : List Pled) (a b : ByteArray) (L : List As) (R : List Rt) (k : Nat) (hk : 7000 ≤ k) : QaS.f k l a b L R = some (pwS l a b L R) := by
 by_cases h : chkP l = 0
 ·by_cases h2 : chkAll L = 0
  ·have h3 := ((QdT l).1 h).1
   have h4 : L.length ≤ 1024 := by
    unfold chkAll at h2
    by_cases h5 : (L.length : Int) > 1024
    ·rw [if_pos h5] at h2; cases h2
    omega
   exact Qft l a b L R (by omega) (by omega) k hk
  unfold QaS.f pwS
  rw [Qc3 l k (by omega), Option.bind_some, if_pos h, if_pos h, Qdi L k (by omega), Option.bind_some, if_neg h2, if_neg h2]
 unfold QaS.f pwS
 rw [Qc3 l k (by omega), Option.bind_some, if_neg h, if_neg h]
theorem QeC {l : List Pled} {a b : ByteArray} {L : List As} {R : List Rt} (h : (pwS l a b L R).2 = 0) : goodP l ∧ L.length ≤ 1024 := by
 unfold pwS at h
 by_cases h1 : chkP l = 0
 ·rw [if_pos h1] at h
  by_cases h2 : chkAll L = 0
  ·refine ⟨(QdT l).1 h1, ?_⟩
   unfold chkAll at h2
   by_cases h5 : (L.length : Int) > 1024
   ·rw [if_pos h5] at h2; cases h2
   omega
  rw [if_neg h2] at h; exact absurd h h2
 rw [if_neg h1] at h; exact absurd h h1
def capP (L : List As) (p : Pled) : Int := (findA L p.f1 0 L.length).2.2.2.2.2.1
def kindP (L : List As) (p : Pled) : Int := (findA L p.f1 0 L.length).2.1
theorem Qd2 {L : List As} {R : List Rt} {p : Pled} (h : wokP L R p) : (1 ≤ kindP L p ∧ kindP L p ≤ 3) ∧ (0 ≤ capP L p ∧ capP L p ≤ 1000) ∧ (0 ≤ wvP L R p ∧ wvP L R p ≤ 1152921504606846976) := by
 unfold wokP at h
 unfold wvP capP kindP
 generalize findA L p.f1 0 L.length = a at *
 obtain ⟨_, h⟩ := h
 unfold worOf at *
 have hv : chkA a.1 a.2.1 a.2.2.1 a.2.2.2.1 a.2.2.2.2.1 a.2.2.2.2.2.1 = 0 := by
  unfold worS at h
  by_cases h1 : (valS (chkA a.1 a.2.1 a.2.2.1 a.2.2.2.1 a.2.2.2.2.1 a.2.2.2.2.2.1) a.2.2.2.1 p.f2).2 = 0
  ·exact (Qdv h1).1
  rw [if_neg h1] at h; exact absurd h h1
 obtain ⟨_, hun, hh⟩ := Qda _ _ _ _ _ _ hv
 obtain ⟨hk, hc⟩ := Qf6 _ _ _ _ _ _ hv
 rw [hv] at h ⊢
 exact ⟨hk, hc, wor_bd hun hh h⟩
def moneyN (n : Int) : Prop := 0 ≤ n ∧ n ≤ 1152921504606846976
instance (n : Int) : Decidable (moneyN n) := inferInstanceAs (Decidable (_ ∧ _))
theorem cap_md (n c : Int) (h : moneyN n) (hc : 0 ≤ c ∧ c ≤ 1000) : QaU.f n c 1000 3 = some (n * c / 1000, 0) ∧ (0 ≤ n * c / 1000 ∧ n * c / 1000 ≤ n) := by
 obtain ⟨h0, h1⟩ := h
 have e1 : 0 ≤ n * c := Int.mul_nonneg h0 hc.1
 have e2 : n * c ≤ n * 1000 := Int.mul_le_mul_of_nonneg_left hc.2 h0
 have e3 : 0 ≤ n * c / 1000 ∧ n * c / 1000 ≤ n := by omega
 refine ⟨?_, e3⟩
 rw [md_eq, if_pos ⟨⟨by omega, by omega⟩, ⟨by omega, by omega⟩, ⟨by omega, by omega⟩, by omega, by omega⟩, if_neg (by omega), Qdu n c 1000 h0 hc.1 (by omega), if_neg (by omega)]
def cutP (L : List As) (R : List Rt) (n : Int) (p : Pled) : Int := mn (wvP L R p) (n * capP L p / 1000)
theorem QfV (xs : List Int) (i : Nat) (v : Int) (h : i < xs.length) : (xs.set i v).take (i + 1) = xs.take i ++ [v] := by
 rw [List.take_add_one, List.take_set_of_le (by omega), List.getElem?_set_self h]
 rfl
theorem QfU (xs : List Int) (i : Nat) (v : Int) : (xs.set i v).drop (i + 1) = xs.drop (i + 1) := List.drop_set_of_lt (by omega)
theorem lc_l0 (n : Int) (hn : moneyN n) (ys : List Int) (hy : ∀ y ∈ ys, 0 ≤ y ∧ y ≤ 1000) (hl : ys.length ≤ 2000) : ∀ d i k : Nat, i + d = ys.length → d + 1 ≤ k → ∀ xs : List Int, xs.length = ys.length →
  Qaw.l0 k n (xs.length : Int) (i : Int) xs ys = some (xs.take i ++ List.zipWith (fun x y => mn x (n * y / 1000)) (xs.drop i) (ys.drop i), 0) := by
 intro d
 induction d with
 | zero =>
  intro i k hi hk xs hx
  obtain ⟨k, rfl⟩ : ∃ m, k = m + 1 := ⟨k - 1, by omega⟩
  rw [Qaw.l0, if_neg (by omega), List.take_of_length_le (by omega), List.drop_eq_nil_of_le (show xs.length ≤ i by omega)]
  simp
 | succ d ih =>
  intro i k hi hk xs hx
  obtain ⟨k, rfl⟩ : ∃ m, k = m + 1 := ⟨k - 1, by omega⟩
  have hm : rd ys (i : Int) ∈ ys := by
   have := Qdf ys i (by omega)
   exact List.mem_of_mem_drop (this ▸ List.mem_cons_self)
  obtain ⟨e1, e2⟩ := cap_md n (rd ys (i : Int)) hn (hy _ hm)
  rw [Qaw.l0, if_pos (by omega), if_pos (by omega), if_pos (by omega), e1, Option.bind_some, if_pos rfl, if_pos (by omega), nwrap (x := (i : Int) + 1) (by omega) (by omega), show ((i : Int) + 1) = ((i + 1 : Nat) : Int) by omega]
  have := ih (i + 1) k (by omega) (by omega) (xs.set i (mn (rd xs (i : Int)) (n * rd ys (i : Int) / 1000))) (by simp [hx])
  rw [List.length_set] at this
  rw [show ((i : Int)).toNat = i from rfl]
  rw [this, QfV _ _ _ (by omega), QfU, Qdf xs i (by omega), Qdf ys i (by omega), List.zipWith_cons_cons, List.append_assoc]
  rfl
theorem lc_l1 (L : List As) (R : List Rt) (n : Int) (l : List Pled) (hL : L.length ≤ 2000) (hl : l.length ≤ 1024) (hw : ∀ p ∈ l, wokP L R p) : ∀ d i k : Nat, i + d = l.length → d + 4200 ≤ k → ∀ xs ys : List Int, xs.length = i → ys.length = i → (∀ y ∈ ys, 0 ≤ y ∧ y ≤ 1000) →
  Qaw.l1 k n L R l (l.length : Int) (i : Int) xs ys = some (if moneyN n then (List.zipWith (fun x y => mn x (n * y / 1000)) (xs ++ (l.drop i).map (wvP L R)) (ys ++ (l.drop i).map (capP L)), 0) else ([], 2)) := by
 intro d
 induction d with
 | zero =>
  intro i k hi hk xs ys hx hy hc
  obtain ⟨k, rfl⟩ : ∃ m, k = m + 2 := ⟨k - 2, by omega⟩
  rw [Qaw.l1, if_neg (by omega), List.drop_eq_nil_of_le (by omega)]
  by_cases h1 : n < 0
  ·rw [if_pos h1, Qaw.j1, if_pos rfl, if_neg (by unfold moneyN; omega)]
  rw [if_neg h1]
  by_cases h2 : n > 1152921504606846976
  ·rw [decide_eq_true h2, Qaw.j1, if_pos rfl, if_neg (by unfold moneyN; omega)]
  rw [decide_eq_false h2, Qaw.j1, if_neg (by simp), if_pos ⟨by omega, by omega⟩, show (0 : Int) = ((0 : Nat) : Int) from rfl, lc_l0 n ⟨by omega, by omega⟩ ys hc (by omega) ys.length 0 k (by omega) (by omega) xs (by omega)]
  simp
 | succ d ih =>
  intro i k hi hk xs ys hx hy hc
  obtain ⟨k, rfl⟩ : ∃ m, k = m + 1 := ⟨k - 1, by omega⟩
  have hd := Qde l i (by omega)
  have hm : Qaj l (i : Int) ∈ l := List.mem_of_mem_drop (hd ▸ List.mem_cons_self)
  have hp := hw _ hm
  obtain ⟨_, ha, _⟩ := Qd2 hp
  have hz : (worOf R (findA L (Qaj l (i : Int)).f1 0 L.length) (Qaj l (i : Int)).f2).2 = 0 := hp.2
  rw [Qaw.l1, if_pos (by omega), if_pos (by omega), if_pos (by omega), QcN L _ (by omega) k (by omega), Option.bind_some, QcA _ _ _ _ _ _ _ R k (by omega), Option.bind_some]
  show (if (worOf R (findA L (Qaj l (i : Int)).f1 0 L.length) (Qaj l (i : Int)).f2).2 = 0 then _ else _) = _
  rw [if_pos hz, Option.bind_some, if_pos (by simp; omega), Option.bind_some, if_pos (by simp; omega), nwrap (x := (i : Int) + 1) (by omega) (by omega), show ((i : Int) + 1) = ((i + 1 : Nat) : Int) by omega]
  rw [ih (i + 1) k (by omega) (by omega) _ _ (by simp; omega) (by simp; omega) (fun y hy => by
   rcases List.mem_append.1 hy with h | h
   ·exact hc y h
   rw [List.mem_singleton.1 h]; exact ha), hd, List.map_cons, List.map_cons, List.append_assoc, List.append_assoc]
  rfl
def cntS (l : List Pled) (a b : ByteArray) (n : Int) (L : List As) (R : List Rt) : List Int × Int := if (pwS l a b L R).2 = 0 then (if moneyN n then ((ofP a b l).map (cutP L R n), 0) else ([], 2)) else ([], (pwS l a b L R).2)
theorem QeG (L : List As) (R : List Rt) (n : Int) : ∀ l : List Pled, List.zipWith (fun x y => mn x (n * y / 1000)) (l.map (wvP L R)) (l.map (capP L)) = l.map (cutP L R n)
 | [] => rfl
 | p :: t => by rw [List.map_cons, List.map_cons, List.map_cons, List.zipWith_cons_cons, QeG L R n t]; rfl
theorem QeL (l : List Pled) (a b : ByteArray) (n : Int) (L : List As) (R : List Rt) (k : Nat) (hk : 7000 ≤ k) : Qaw.f k l a b n L R = some (cntS l a b n L R) := by
 unfold Qaw.f cntS
 have hln := QdN a b l
 rw [QeS l a b L R k hk, Option.bind_some]
 by_cases h : (pwS l a b L R).2 = 0
 ·obtain ⟨hg, hL⟩ := QeC h
  have h3 := hg.1
  rw [if_pos h, if_pos h, of_eq a b l (by omega) k (by omega), Option.bind_some, show (0 : Int) = ((0 : Nat) : Int) from rfl, lc_l1 L R n (ofP a b l) (by omega) (by omega) (QcU h).1 (ofP a b l).length 0 k (by omega) (by omega) [] [] rfl rfl (fun y hy => by cases hy), List.drop_zero, List.nil_append, List.nil_append, QeG]
  rfl
 rw [if_neg h, if_neg h]
def covS (l : List Pled) (a b : ByteArray) (n : Int) (L : List As) (R : List Rt) : Int × Int := if (cntS l a b n L R).2 = 0 then sumS (cntS l a b n L R).1 else (0, (cntS l a b n L R).2)
theorem Qf7 (l : List Pled) (a b : ByteArray) (n : Int) (L : List As) (R : List Rt) : (cntS l a b n L R).1.length ≤ 1024 := by
 unfold cntS
 by_cases h : (pwS l a b L R).2 = 0
 ·rw [if_pos h]
  have hln := QdN a b l
  have := (QeC h).1.1
  split
  ·rw [List.length_map]; omega
  exact Nat.zero_le _
 rw [if_neg h]; exact Nat.zero_le _
theorem QfB (l : List Pled) (a b : ByteArray) (n : Int) (L : List As) (R : List Rt) (k : Nat) (hk : 7000 ≤ k) : Qbx.f k l a b n L R = some (covS l a b n L R) := by
 unfold Qbx.f covS
 have := Qf7 l a b n L R
 rw [QeL l a b n L R k hk, Option.bind_some]
 by_cases h : (cntS l a b n L R).2 = 0
 ·rw [if_pos h, if_pos h, sum_eq _ (by omega) k (by omega)]; rfl
 rw [if_neg h, if_neg h]
end Go.Proofs.Ytgnmhfjfefgbfaa.Pr
