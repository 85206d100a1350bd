/- Limits: what an account's pledges are worth by kinds. -/
import Derived.Test.YtfcaaefdmabkhaaQ283LmAsset
import Derived.Test.YtfcaaefdmabkhaaQ283LmAssetAll
import Derived.Test.YtfcaaefdmabkhaaQ283LmLimit
import Derived.Test.YtfcaaefdmabkhaaQ283LmLimitCap
import Derived.Test.YtfcaaefdmabkhaaQ283LmName
import Derived.Test.YtfcaaefdmabkhaaQ283LmPledge
import Derived.Test.YtfcaaefdmabkhaaQ283LmPledgeOf
import Derived.Test.YtfcaaefdmabkhaaQ283LmPledgeTop
import Derived.Test.YtfcaaefdmabkhaaQ283LmPledgeW
import Derived.Test.YtfcaaefdmabkhaaQ283LmRate
import Derived.Test.YtfcaaefdmabkhaaQ283P0
import Derived.Test.YtfcaaefdmabkhaaQ283P5
import Derived.Test.YtfcaaefdmabkhaaQ283P7
namespace Go.Proofs.Ytfcaaefdmabkhaa.Pr
open Go.RowKit Go.Proofs.Ytfcaaefdmabkhaa.Pr Go.Proofs.YtfcaaefdmabkhaaW.PrintWords Go.Proofs.YtfcaaefdmabkhaaW.PrintLast Go.Proofs.YtfcaaefdmabkhaaW.PrintMore
set_option linter.unusedVariables false
set_option linter.unusedSimpArgs false
def kS (L : List As) (R : List Rt) : Int → Int → Int → List Pled → Int × Int × Int
 | x, y, z, [] => (x, y, z)
 | x, y, z, p :: t => if kindP L p = 1 then kS L R (x + wvP L R p) y z t else if kindP L p = 2 then kS L R x (y + wvP L R p) z t else kS L R x y (z + wvP L R p) t
theorem QdC (L : List As) (R : List Rt) (x y z : Int) (p : Pled) (t : List Pled) : kS L R x y z (p :: t) = if kindP L p = 1 then kS L R (x + wvP L R p) y z t else if kindP L p = 2 then kS L R x (y + wvP L R p) z t else kS L R x y (z + wvP L R p) t := rfl
theorem kS_sum (L : List As) (R : List Rt) : ∀ (l : List Pled) (x y z : Int), (kS L R x y z l).1 + (kS L R x y z l).2.1 + (kS L R x y z l).2.2 = x + y + z + sumW L R l
 | [], x, y, z => by show x + y + z = _ + (0 : Int); omega
 | p :: t, x, y, z => by
  rw [QdC, sumW]
  split
  ·rw [kS_sum L R t]; omega
  split
  ·rw [kS_sum L R t]; omega
  rw [kS_sum L R t]; omega
theorem Qc6 (L : List As) (R : List Rt) : ∀ l : List Pled, (∀ p ∈ l, wokP L R p) → 0 ≤ sumW L R l
 | [], _ => Int.le_refl _
 | p :: t, h => by
  have := Qc6 L R t (fun q hq => h q (List.mem_cons_of_mem _ hq))
  have := (Qc1 (h p List.mem_cons_self)).2.2
  rw [sumW]; omega
theorem Qf0 (L : List As) (R : List Rt) (l : List Pled) (hL : L.length ≤ 2000) (hl : l.length ≤ 1024) (hw : ∀ p ∈ l, wokP L R p) : ∀ d i k : Nat, i + d = l.length → d + 4200 ≤ k → ∀ x y z : Int, 0 ≤ x → 0 ≤ y → 0 ≤ z → x + y + z + sumW L R (l.drop i) ≤ 1152921504606846976 →
  QaN.l0 k L R l (l.length : Int) (i : Int) 0 x y z = some (0, (kS L R x y z (l.drop i)).1, (kS L R x y z (l.drop i)).2.1, (kS L R x y z (l.drop i)).2.2, 0) := by
 intro d
 induction d with
 | zero =>
  intro i k hi hk x y z hx hy hz hb
  obtain ⟨k, rfl⟩ : ∃ m, k = m + 1 := ⟨k - 1, by omega⟩
  rw [QaN.l0, if_neg (by omega), List.drop_eq_nil_of_le (by omega)]
  rfl
 | succ d ih =>
  intro i k hi hk x y z hx hy hz hb
  obtain ⟨k, rfl⟩ : ∃ m, k = m + 1 := ⟨k - 1, by omega⟩
  have hd := Qch l i (by omega)
  have hp := hw _ (List.mem_of_mem_drop (hd ▸ List.mem_cons_self) : rd_T46 l (i : Int) ∈ l)
  have hn := Qc6 L R (l.drop (i + 1)) (fun q hq => hw q (List.mem_of_mem_drop hq))
  obtain ⟨ka, _, wa⟩ := Qc1 hp
  have hz' : (worOf R (findA L (rd_T46 l (i : Int)).f1 0 L.length) (rd_T46 l (i : Int)).f2).2 = 0 := hp.2
  rw [hd, sumW] at hb
  rw [QaN.l0, if_pos (by omega), if_pos (by omega), if_pos (by omega), QdY L _ (by omega) k (by omega), Option.bind_some, Qed _ _ _ _ _ _ _ R k (by omega), Option.bind_some]
  show (if (worOf R (findA L (rd_T46 l (i : Int)).f1 0 L.length) (rd_T46 l (i : Int)).f2).2 = 0 then (if kindP L (rd_T46 l (i : Int)) = 0 then QaN.l0 k L R l (l.length : Int) (wrap64 ((i : Int) + 1)) (wrap64 (0 + wvP L R (rd_T46 l (i : Int)))) x y z else if kindP L (rd_T46 l (i : Int)) = 1 then QaN.l0 k L R l (l.length : Int) (wrap64 ((i : Int) + 1)) 0 (wrap64 (x + wvP L R (rd_T46 l (i : Int)))) y z else if kindP L (rd_T46 l (i : Int)) = 2 then QaN.l0 k L R l (l.length : Int) (wrap64 ((i : Int) + 1)) 0 x (wrap64 (y + wvP L R (rd_T46 l (i : Int)))) z else if kindP L (rd_T46 l (i : Int)) = 3 then QaN.l0 k L R l (l.length : Int) (wrap64 ((i : Int) + 1)) 0 x y (wrap64 (z + wvP L R (rd_T46 l (i : Int)))) else none) else _) = _
  rw [if_pos hz', hd, QdC, nwrap (x := (i : Int) + 1) (by omega) (by omega), show ((i : Int) + 1) = ((i + 1 : Nat) : Int) by omega, if_neg (by omega)]
  generalize rd_T46 l (i : Int) = p at *
  by_cases h1 : kindP L p = 1
  ·rw [if_pos h1, if_pos h1, nwrap (by omega) (by omega), ih (i + 1) k (by omega) (by omega) _ _ _ (by omega) (by omega) (by omega) (by omega)]
  rw [if_neg h1, if_neg h1]
  by_cases h2 : kindP L p = 2
  ·rw [if_pos h2, if_pos h2, nwrap (by omega) (by omega), ih (i + 1) k (by omega) (by omega) _ _ _ (by omega) (by omega) (by omega) (by omega)]
  rw [if_neg h2, if_neg h2, if_pos (by omega), nwrap (by omega) (by omega), ih (i + 1) k (by omega) (by omega) _ _ _ (by omega) (by omega) (by omega) (by omega)]
theorem Qge (L : List As) (R : List Rt) (l : List Pled) (hL : L.length ≤ 2000) (hl : l.length ≤ 1024) (hw : ∀ p ∈ l, wokP L R p) (hb : ∀ a ∈ L, a.f0.size ≤ 9223372036854775807) (hr : ∀ r ∈ R, r.f0.size ≤ 9223372036854775807) : ∀ d i k : Nat, i + d = l.length → d + 4200 + szA L + szR R ≤ k → ∀ x y z : Int, 0 ≤ x → 0 ≤ y → 0 ≤ z → x + y + z + sumW L R (l.drop i) ≤ 1152921504606846976 →
  Qaz.l0 k L R l (i : Int) 0 x y z = some (0, (kS L R x y z (l.drop i)).1, (kS L R x y z (l.drop i)).2.1, (kS L R x y z (l.drop i)).2.2, 0) := by
 intro d
 induction d with
 | zero =>
  intro i k hi hk x y z hx hy hz hb
  obtain ⟨k, rfl⟩ : ∃ m, k = m + 1 := ⟨k - 1, by omega⟩
  rw [Qaz.l0, if_neg (by omega), List.drop_eq_nil_of_le (by omega)]
  rfl
 | succ d ih =>
  intro i k hi hk x y z hx hy hz hbd
  obtain ⟨k, rfl⟩ : ∃ m, k = m + 1 := ⟨k - 1, by omega⟩
  have hd := Qch l i (by omega)
  have hp := hw _ (List.mem_of_mem_drop (hd ▸ List.mem_cons_self) : rd_T46 l (i : Int) ∈ l)
  have hn := Qc6 L R (l.drop (i + 1)) (fun q hq => hw q (List.mem_of_mem_drop hq))
  obtain ⟨ka, _, wa⟩ := Qc1 hp
  have hnm := Qdq L (rd_T46 l (i : Int)).f1 hb L.length 0 (by omega)
  rw [hd, sumW] at hbd
  rw [Qaz.l0, if_pos (by omega), if_pos (by omega), QdR L _ (by omega) k (by omega), Option.bind_some, QdT _ hnm.1 _ _ _ _ _ _ R hr k (by omega), Option.bind_some]
  show (if kindP L (rd_T46 l (i : Int)) = 0 then Qaz.l0 k L R l (wrap64 ((i : Int) + 1)) (wrap64 (0 + wvP L R (rd_T46 l (i : Int)))) x y z else if kindP L (rd_T46 l (i : Int)) = 1 then Qaz.l0 k L R l (wrap64 ((i : Int) + 1)) 0 (wrap64 (x + wvP L R (rd_T46 l (i : Int)))) y z else if kindP L (rd_T46 l (i : Int)) = 2 then Qaz.l0 k L R l (wrap64 ((i : Int) + 1)) 0 x (wrap64 (y + wvP L R (rd_T46 l (i : Int)))) z else if kindP L (rd_T46 l (i : Int)) = 3 then Qaz.l0 k L R l (wrap64 ((i : Int) + 1)) 0 x y (wrap64 (z + wvP L R (rd_T46 l (i : Int)))) else none) = _
  rw [hd, QdC, nwrap (x := (i : Int) + 1) (by omega) (by omega), show ((i : Int) + 1) = ((i + 1 : Nat) : Int) by omega, if_neg (by omega)]
  generalize rd_T46 l (i : Int) = p at *
  by_cases h1 : kindP L p = 1
  ·rw [if_pos h1, if_pos h1, nwrap (by omega) (by omega), ih (i + 1) k (by omega) (by omega) _ _ _ (by omega) (by omega) (by omega) (by omega)]
  rw [if_neg h1, if_neg h1]
  by_cases h2 : kindP L p = 2
  ·rw [if_pos h2, if_pos h2, nwrap (by omega) (by omega), ih (i + 1) k (by omega) (by omega) _ _ _ (by omega) (by omega) (by omega) (by omega)]
  rw [if_neg h2, if_neg h2, if_pos (by omega), nwrap (by omega) (by omega), ih (i + 1) k (by omega) (by omega) _ _ _ (by omega) (by omega) (by omega) (by omega)]
def kindS (l : List Pled) (a b : ByteArray) (L : List As) (R : List Rt) : Int × Int × Int × Int × Int := if (pwS l a b L R).2 = 0 then (0, (kS L R 0 0 0 (ofP a b l)).1, (kS L R 0 0 0 (ofP a b l)).2.1, (kS L R 0 0 0 (ofP a b l)).2.2, 0) else (0, 0, 0, 0, (pwS l a b L R).2)
theorem Qft (l : List Pled) (a b : ByteArray) (L : List As) (R : List Rt) (k : Nat) (hk : 7000 ≤ k) : QaN.f k l a b L R = some (kindS l a b L R) := by
 unfold QaN.f kindS
 have hln := Qc4 a b l
 rw [QeF l a b L R k hk, Option.bind_some]
 by_cases h : (pwS l a b L R).2 = 0
 ·obtain ⟨hg, hL⟩ := Qep h
  have h3 := hg.1
  have hb := pw_bd h
  rw [if_pos h, if_pos h, of_eq a b l (by omega) k (by omega), Option.bind_some, show QaN.l0 k L R (ofP a b l) ((ofP a b l).length : Int) 0 0 0 0 0 = QaN.l0 k L R (ofP a b l) ((ofP a b l).length : Int) ((0 : Nat) : Int) 0 0 0 0 from rfl, Qf0 L R (ofP a b l) (by omega) (by omega) (Qcz h).1 (ofP a b l).length 0 k (by omega) (by omega) 0 0 0 (by omega) (by omega) (by omega) (by rw [List.drop_zero]; omega), List.drop_zero]
 rw [if_neg h, if_neg h]
theorem Qe8 (l : List Pled) (hbl : ∀ p ∈ l, bigOk p) (a b : ByteArray) (L : List As) (R : List Rt) (hb : ∀ a ∈ L, a.f0.size ≤ 9223372036854775807) (hr : ∀ r ∈ R, r.f0.size ≤ 9223372036854775807) (k : Nat) (hk : 7001 + szsP l + szA L + szR R ≤ k) : Qaz.f k l a b L R = some (kindS l a b L R) := by
 unfold Qaz.f kindS
 have hln := Qc4 a b l
 rw [Qdf l hbl a b L R hb hr k (by omega), Option.bind_some]
 by_cases h : (pwS l a b L R).2 = 0
 ·obtain ⟨hg, hL⟩ := Qep h
  have h3 := hg.1
  have hbd := pw_bd h
  rw [if_pos h, if_pos h, rof_eq a b l (by omega) k (by omega), Option.bind_some, show Qaz.l0 k L R (ofP a b l) 0 0 0 0 0 = Qaz.l0 k L R (ofP a b l) ((0 : Nat) : Int) 0 0 0 0 from rfl, Qge L R (ofP a b l) (by omega) (by omega) (Qcz h).1 hb hr (ofP a b l).length 0 k (by omega) (by omega) 0 0 0 (by omega) (by omega) (by omega) (by rw [List.drop_zero]; omega), List.drop_zero]
 rw [if_neg h, if_neg h]
end Go.Proofs.Ytfcaaefdmabkhaa.Pr
