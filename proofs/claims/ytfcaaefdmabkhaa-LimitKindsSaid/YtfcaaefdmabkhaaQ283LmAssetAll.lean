/- Assets: CheckAll and Find, by the program and by the reference. -/
import Derived.Test.YtfcaaefdmabkhaaQ283LmAsset
import Derived.Test.YtfcaaefdmabkhaaQ283LmName
import Derived.Test.YtfcaaefdmabkhaaQ283P0
import Derived.Test.YtfcaaefdmabkhaaQ283P4
import Derived.Test.YtfcaaefdmabkhaaQ283P2
import Derived.Test.YtfcaaefdmabkhaaQ283P3
import Derived.Test.YtfcaaefdmabkhaaQ283PrxRd
namespace Go.Proofs.Ytfcaaefdmabkhaa.Pr
open Go.RowKit Go.Proofs.Ytfcaaefdmabkhaa.Pr Go.Proofs.YtfcaaefdmabkhaaW.PrintWords Go.Proofs.YtfcaaefdmabkhaaW.PrintLast Go.Proofs.YtfcaaefdmabkhaaW.PrintMore
set_option linter.unusedVariables false
set_option linter.unusedSimpArgs false
theorem as_mem (l : List As) (i : Nat) (h : i < l.length) : rd_T84 l (i : Int) ∈ l := by
 unfold rd_T84
 rw [Int.toNat_natCast, List.getD_eq_getElem?_getD, List.getElem?_eq_getElem h]
 exact List.getElem_mem h
def chkOf (a : As) : Int := chkA a.f0 a.f1 a.f2 a.f3 a.f4 a.f5
def allA (l : List As) : Nat → Nat → Int
 | _, 0 => 0
 | i, n + 1 => if chkOf (rd_T84 l (i : Int)) = 0 then (if 0 < i ∧ (Op.bytesLess ((rd_T84 l (i : Int)).f0.toList) ((rd_T84 l ((i : Int) - 1)).f0.toList) = true ∨ (rd_T84 l (i : Int)).f0.toList = (rd_T84 l ((i : Int) - 1)).f0.toList) then 12 else allA l (i + 1) n) else chkOf (rd_T84 l (i : Int))
theorem QdK (l : List As) (i n : Nat) : allA l i (n + 1) = if chkOf (rd_T84 l (i : Int)) = 0 then (if 0 < i ∧ (Op.bytesLess ((rd_T84 l (i : Int)).f0.toList) ((rd_T84 l ((i : Int) - 1)).f0.toList) = true ∨ (rd_T84 l (i : Int)).f0.toList = (rd_T84 l ((i : Int) - 1)).f0.toList) then 12 else allA l (i + 1) n) else chkOf (rd_T84 l (i : Int)) := rfl
def szA : List As → Nat
 | [] => 0
 | r :: t => r.f0.size + szA t
theorem QdE : ∀ {l : List As} {r : As}, r ∈ l → r.f0.size ≤ szA l
 | q :: t, r, h => by
  rcases List.mem_cons.1 h with rfl | h
  ·unfold szA; omega
  have := QdE h
  unfold szA; omega
theorem Qfg (l : List As) (hl : l.length ≤ 1024) : ∀ n i k : Nat, i + n = l.length → n + 40 ≤ k → Qa5.l0 k l l (l.length : Int) (i : Int) = some (allA l i n) := by
 intro n
 induction n with
 | zero =>
  intro i k hi hk
  obtain ⟨k, rfl⟩ : ∃ m, k = m + 1 := ⟨k - 1, by omega⟩
  rw [Qa5.l0, if_neg (by omega)]
  rfl
 | succ n ih =>
  intro i k hi hk
  obtain ⟨k, rfl⟩ : ∃ m, k = m + 1 := ⟨k - 1, by omega⟩
  rw [Qa5.l0, if_pos (by omega), if_pos (by omega), if_pos (by omega), QdI _ _ _ _ _ _ k (by omega), Option.bind_some, QdK, nwrap (x := (i : Int) + 1) (by omega) (by omega), show ((i : Int) + 1) = ((i + 1 : Nat) : Int) by omega, ih (i + 1) k (by omega) (by omega)]
  show (if chkOf (rd_T84 l (i : Int)) = 0 then _ else _) = _
  by_cases h : chkOf (rd_T84 l (i : Int)) = 0
  ·rw [if_pos h, if_pos h]
   by_cases h0 : i = 0
   ·rw [if_neg (show ¬ (i : Int) > 0 by omega), if_neg (fun z => by omega)]
   rw [if_pos (show (i : Int) > 0 by omega), nwrap (x := (i : Int) - 1) (by omega) (by omega), if_pos (show 0 ≤ (i : Int) - 1 by omega), if_pos (show (i : Int) - 1 < (l.length : Int) by omega)]
   by_cases h1 : Op.bytesLess ((rd_T84 l (i : Int)).f0.toList) ((rd_T84 l ((i : Int) - 1)).f0.toList) = true
   ·rw [if_pos h1, if_pos ⟨by omega, Or.inl h1⟩]
   rw [if_neg h1]
   by_cases h2 : (rd_T84 l (i : Int)).f0.toList = (rd_T84 l ((i : Int) - 1)).f0.toList
   ·rw [if_pos h2, if_pos ⟨by omega, Or.inr h2⟩]
   rw [if_neg h2, if_neg (fun z => by rcases z.2 with z | z <;> contradiction)]
  rw [if_neg h, if_neg h]
  rfl
theorem Qe6 (l : List As) (hl : l.length ≤ 1024) (hb : ∀ a ∈ l, a.f0.size ≤ 9223372036854775807) : ∀ n i k : Nat, i + n = l.length → n + 40 + szA l ≤ k → QaG.l0 k l (i : Int) = some (allA l i n) := by
 intro n
 induction n with
 | zero =>
  intro i k hi hk
  obtain ⟨k, rfl⟩ : ∃ m, k = m + 1 := ⟨k - 1, by omega⟩
  rw [QaG.l0, if_neg (by omega)]
  rfl
 | succ n ih =>
  intro i k hi hk
  obtain ⟨k, rfl⟩ : ∃ m, k = m + 1 := ⟨k - 1, by omega⟩
  have hm := as_mem l i (by omega)
  have hz := QdE hm
  rw [QaG.l0, if_pos (by omega), if_pos (by omega), Qds _ (hb _ hm) _ _ _ _ _ k (by omega), Option.bind_some, QdK, nwrap (x := (i : Int) + 1) (by omega) (by omega), show ((i : Int) + 1) = ((i + 1 : Nat) : Int) by omega, ih (i + 1) k (by omega) (by omega)]
  show (if chkOf (rd_T84 l (i : Int)) = 0 then _ else _) = _
  by_cases h : chkOf (rd_T84 l (i : Int)) = 0
  ·rw [if_pos h, if_pos h]
   by_cases h0 : i = 0
   ·rw [if_neg (show ¬ (i : Int) > 0 by omega), if_neg (fun z => by omega)]
   rw [if_pos (show (i : Int) > 0 by omega), nwrap (x := (i : Int) - 1) (by omega) (by omega), if_pos (show 0 ≤ (i : Int) - 1 by omega), if_pos (show (i : Int) - 1 < (l.length : Int) by omega)]
   by_cases h1 : Op.bytesLess ((rd_T84 l (i : Int)).f0.toList) ((rd_T84 l ((i : Int) - 1)).f0.toList) = true
   ·rw [if_pos h1, if_pos ⟨by omega, Or.inl h1⟩]
   rw [if_neg h1]
   by_cases h2 : (rd_T84 l (i : Int)).f0.toList = (rd_T84 l ((i : Int) - 1)).f0.toList
   ·rw [if_pos h2, if_pos ⟨by omega, Or.inr h2⟩]
   rw [if_neg h2, if_neg (fun z => by rcases z.2 with z | z <;> contradiction)]
  rw [if_neg h, if_neg h]
  rfl
def chkAll (l : List As) : Int := if (l.length : Int) > 1024 then 8 else allA l 0 l.length
theorem Qc8 (l : List As) (k : Nat) (hk : 1100 ≤ k) : Qa5.f k l = some (chkAll l) := by
 unfold Qa5.f chkAll
 split
 ·rfl
 exact Qfg l (by omega) l.length 0 k (by omega) (by omega)
theorem QcZ (l : List As) (hb : ∀ a ∈ l, a.f0.size ≤ 9223372036854775807) (k : Nat) (hk : 1100 + szA l ≤ k) : QaG.f k l = some (chkAll l) := by
 unfold QaG.f chkAll
 split
 ·rfl
 exact Qe6 l (by omega) hb l.length 0 k (by omega) (by omega)
abbrev FR := ByteArray × Int × Int × Int × Int × Int × Bool
def findA (l : List As) (s : ByteArray) : Nat → Nat → FR
 | _, 0 => (⟨#[]⟩, 0, 0, 0, 0, 0, false)
 | i, n + 1 => if (rd_T84 l (i : Int)).f0.toList = s.toList then ((rd_T84 l (i : Int)).f0, (rd_T84 l (i : Int)).f1, (rd_T84 l (i : Int)).f2, (rd_T84 l (i : Int)).f3, (rd_T84 l (i : Int)).f4, (rd_T84 l (i : Int)).f5, true) else findA l s (i + 1) n
theorem QcM (l : List As) (s : ByteArray) (i n : Nat) : findA l s i (n + 1) = if (rd_T84 l (i : Int)).f0.toList = s.toList then ((rd_T84 l (i : Int)).f0, (rd_T84 l (i : Int)).f1, (rd_T84 l (i : Int)).f2, (rd_T84 l (i : Int)).f3, (rd_T84 l (i : Int)).f4, (rd_T84 l (i : Int)).f5, true) else findA l s (i + 1) n := rfl
theorem QeZ (l : List As) (s : ByteArray) (hl : l.length ≤ 4611686018427387904) : ∀ n i k : Nat, i + n = l.length → n + 1 ≤ k → QaR.l0 k s l (l.length : Int) (i : Int) = some (findA l s i n) := by
 intro n
 induction n with
 | zero =>
  intro i k hi hk
  obtain ⟨k, rfl⟩ : ∃ m, k = m + 1 := ⟨k - 1, by omega⟩
  rw [QaR.l0, if_neg (by omega)]
  rfl
 | succ n ih =>
  intro i k hi hk
  obtain ⟨k, rfl⟩ : ∃ m, k = m + 1 := ⟨k - 1, by omega⟩
  rw [QaR.l0, if_pos (by omega), if_pos (by omega), if_pos (by omega), IntWalk.wrap64_in ((i : Int) + 1) (by omega), show ((i : Int) + 1) = ((i + 1 : Nat) : Int) by omega, ih (i + 1) k (by omega) (by omega), QcM]
  unfold Qca.f
  rw [Option.bind_some]
  split <;> rfl
theorem Qe7 (l : List As) (s : ByteArray) (hl : l.length ≤ 4611686018427387904) : ∀ n i k : Nat, i + n = l.length → n + 1 ≤ k → QaP.l0 k l s (i : Int) = some (findA l s i n) := by
 intro n
 induction n with
 | zero =>
  intro i k hi hk
  obtain ⟨k, rfl⟩ : ∃ m, k = m + 1 := ⟨k - 1, by omega⟩
  rw [QaP.l0, if_neg (by omega)]
  rfl
 | succ n ih =>
  intro i k hi hk
  obtain ⟨k, rfl⟩ : ∃ m, k = m + 1 := ⟨k - 1, by omega⟩
  rw [QaP.l0, if_pos (by omega), if_pos (by omega), IntWalk.wrap64_in ((i : Int) + 1) (by omega), show ((i : Int) + 1) = ((i + 1 : Nat) : Int) by omega, ih (i + 1) k (by omega) (by omega), QcM]
  split <;> rfl
theorem QdY (l : List As) (s : ByteArray) (hl : l.length ≤ 4611686018427387904) (k : Nat) (hk : l.length + 1 ≤ k) : Qbe.f k l s = some (findA l s 0 l.length) := by
 unfold Qbe.f QaR.f
 rw [show (0 : Int) = ((0 : Nat) : Int) from rfl, QeZ l s hl l.length 0 k (by omega) hk]
 rfl
theorem QdR (l : List As) (s : ByteArray) (hl : l.length ≤ 4611686018427387904) (k : Nat) (hk : l.length + 1 ≤ k) : QaP.f k l s = some (findA l s 0 l.length) := by
 unfold QaP.f
 rw [show (0 : Int) = ((0 : Nat) : Int) from rfl, Qe7 l s hl l.length 0 k (by omega) hk]
theorem as_big {l : List As} (h : ∀ r ∈ l, ok84 r) : ∀ r ∈ l, r.f0.size ≤ 9223372036854775807 := fun r hr => (h r hr).1
end Go.Proofs.Ytfcaaefdmabkhaa.Pr
