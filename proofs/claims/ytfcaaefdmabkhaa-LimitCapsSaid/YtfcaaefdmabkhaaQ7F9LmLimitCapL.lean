/- Limits: the law's loop over what counts. -/
import Derived.Test.YtfcaaefdmabkhaaQ7F9LmAsset
import Derived.Test.YtfcaaefdmabkhaaQ7F9LmAssetAll
import Derived.Test.YtfcaaefdmabkhaaQ7F9LmLimit
import Derived.Test.YtfcaaefdmabkhaaQ7F9LmLimitCap
import Derived.Test.YtfcaaefdmabkhaaQ7F9LmName
import Derived.Test.YtfcaaefdmabkhaaQ7F9LmPledge
import Derived.Test.YtfcaaefdmabkhaaQ7F9LmPledgeTop
import Derived.Test.YtfcaaefdmabkhaaQ7F9LmPledgeW
import Derived.Test.YtfcaaefdmabkhaaQ7F9LmRate
import Derived.Test.YtfcaaefdmabkhaaQ7F9P0
import Derived.Test.YtfcaaefdmabkhaaQ7F9P9
namespace Go.Proofs.Ytfcaaefdmabkhaa.Pr
open Go.RowKit Go.Proofs.Ytfcaaefdmabkhaa.Pr Go.Proofs.YtfcaaefdmabkhaaW.PrintWords Go.Proofs.YtfcaaefdmabkhaaW.PrintLast Go.Proofs.YtfcaaefdmabkhaaW.PrintMore
set_option linter.unusedVariables false
set_option linter.unusedSimpArgs false
theorem rd_map (f : Pled → Int) (l : List Pled) (i : Nat) (h : i < l.length) : rd (l.map f) (i : Int) = f (rd_T46 l (i : Int)) := by
 rw [pl_rd l i h]
 unfold rd
 rw [Int.toNat_natCast, List.getD_eq_getElem?_getD, List.getElem?_eq_getElem (by simpa using h), List.getElem_map]
 rfl
theorem QeT (a b : ByteArray) (q : List Pled) (L : List As) (R : List Rt) (n : Int) (hn : moneyN n) (l : List Pled) (hL : L.length ≤ 2000) (hl : l.length ≤ 1024) (hw : ∀ p ∈ l, wokP L R p) (hb : ∀ a ∈ L, a.f0.size ≤ 9223372036854775807) (hr : ∀ r ∈ R, r.f0.size ≤ 9223372036854775807) : ∀ d i k : Nat, i + d = l.length → d + 8200 + szA L + szR R ≤ k →
  contangolaw33_LimitCaps.l0 k (l.map (cutP L R n)) l (i : Int) q a b n L R = some true := by
 intro d
 induction d with
 | zero =>
  intro i k hi hk
  obtain ⟨k, rfl⟩ : ∃ m, k = m + 1 := ⟨k - 1, by omega⟩
  rw [contangolaw33_LimitCaps.l0, List.length_map, if_neg (by omega), goes33 k (by omega)]
  rfl
 | succ d ih =>
  intro i k hi hk
  obtain ⟨k, rfl⟩ : ∃ m, k = m + 1 := ⟨k - 1, by omega⟩
  have hd := Qci l i (by omega)
  have hm : rd_T46 l (i : Int) ∈ l := List.mem_of_mem_drop (hd ▸ List.mem_cons_self)
  have hp := hw _ hm
  obtain ⟨_, ha, _⟩ := Qc4 hp
  obtain ⟨c1, c2, c3, c4⟩ := cut_bd hn hp
  have hnm := Qds L (rd_T46 l (i : Int)).f1 hb L.length 0 (by omega)
  rw [contangolaw33_LimitCaps.l0, List.length_map, if_pos (by omega), if_pos (by omega), if_pos (by omega), QdV L _ (by omega) k (by omega), Option.bind_some, QdX _ hnm.1 _ _ _ _ _ _ R hr k (by omega), Option.bind_some, rd_map _ l i (by omega), show (findA L (rd_T46 l (i : Int)).f1 0 L.length).2.2.2.2.2.1 = capP L (rd_T46 l (i : Int)) from rfl, QeI n _ hn ha, nwrap (x := (i : Int) + 1) (by omega) (by omega), show ((i : Int) + 1) = ((i + 1 : Nat) : Int) by omega, ih (i + 1) k (by omega) (by omega)]
  show (if cutP L R n (rd_T46 l (i : Int)) < 0 then some false else if cutP L R n (rd_T46 l (i : Int)) > n * capP L (rd_T46 l (i : Int)) / 1000 then some false else if cutP L R n (rd_T46 l (i : Int)) > wvP L R (rd_T46 l (i : Int)) then some false else if cutP L R n (rd_T46 l (i : Int)) < n * capP L (rd_T46 l (i : Int)) / 1000 then (if cutP L R n (rd_T46 l (i : Int)) < wvP L R (rd_T46 l (i : Int)) then some false else some true) else some true) = some true
  rw [if_neg (by omega), if_neg (by omega), if_neg (by omega)]
  split
  ·rw [if_neg (by omega)]
  rfl
end Go.Proofs.Ytfcaaefdmabkhaa.Pr
