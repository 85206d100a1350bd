/- Assets: CheckAll and Find, by the program and by the reference. -/
import Derived.Test.YtgnmhfjfefgbfaaQ3D7LmAsset
import Derived.Test.YtgnmhfjfefgbfaaQ3D7LmName
import Derived.Test.YtgnmhfjfefgbfaaQ3D7P0
import Derived.Test.YtgnmhfjfefgbfaaQ3D7P2
import Derived.Test.YtgnmhfjfefgbfaaQ3D7P6
import Derived.Test.YtgnmhfjfefgbfaaQ3D7PrxRd
namespace Go.Proofs.Ytgnmhfjfefgbfaa.Pr
open Go.RowKit Go.Proofs.Ytgnmhfjfefgbfaa.Pr Go.Proofs.YtgnmhfjfefgbfaaW.PrintWords Go.Proofs.YtgnmhfjfefgbfaaW.PrintLast Go.Proofs.YtgnmhfjfefgbfaaW.PrintMore
set_option linter.unusedVariables false
set_option linter.unusedSimpArgs false
def chkOf (a : As) : Int := chkA a.f0 a.f1 a.f2 a.f3 a.f4 a.f5
def allA (l : List As) : Nat → Nat → Int
 | _, 0 => 0
 | i, n + 1 => if chkOf (Qaq l (i : Int)) = 0 then (if 0 < i ∧ (Op.bytesLess ((Qaq l (i : Int)).f0.toList) ((Qaq l ((i : Int) - 1)).f0.toList) = true ∨ (Qaq l (i : Int)).f0.toList = (Qaq l ((i : Int) - 1)).f0.toList) then 12 else allA l (i + 1) n) else chkOf (Qaq l (i : Int))
theorem QeW (l : List As) (i n : Nat) : allA l i (n + 1) = if chkOf (Qaq l (i : Int)) = 0 then (if 0 < i ∧ (Op.bytesLess ((Qaq l (i : Int)).f0.toList) ((Qaq l ((i : Int) - 1)).f0.toList) = true ∨ (Qaq l (i : Int)).f0.toList = (Qaq l ((i : Int) - 1)).f0.toList) then 12 else allA l (i + 1) n) else chkOf (Qaq l (i : Int)) := rfl
theorem Qfx (l : List As) (hl : l.length ≤ 1024) : ∀ n i k : Nat, i + n = l.length → n + 40 ≤ k → QaV.l0 k l l (l.length : Int) (i : Int) = some (allA l i n) := by
 intro n
 induction n with
 | zero =>
  intro i k hi hk
  obtain ⟨k, rfl⟩ : ∃ m, k = m + 1 := ⟨k - 1, by omega⟩
  rw [QaV.l0, if_neg (by omega)]
  rfl
 | succ n ih =>
  intro i k hi hk
  obtain ⟨k, rfl⟩ : ∃ m, k = m + 1 := ⟨k - 1, by omega⟩
  rw [QaV.l0, if_pos (by omega), if_pos (by omega), if_pos (by omega), QcZ _ _ _ _ _ _ k (by omega), Option.bind_some, QeW, nwrap (x := (i : Int) + 1) (by omega) (by omega), show ((i : Int) + 1) = ((i + 1 : Nat) : Int) by omega, ih (i + 1) k (by omega) (by omega)]
  show (if chkOf (Qaq l (i : Int)) = 0 then _ else _) = _
  by_cases h : chkOf (Qaq l (i : Int)) = 0
  ·rw [if_pos h, if_pos h]
   by_cases h0 : i = 0
   ·rw [if_neg (show ¬ (i : Int) > 0 by omega), if_neg (fun z => by omega)]
   rw [if_pos (show (i : Int) > 0 by omega), nwrap (x := (i : Int) - 1) (by omega) (by omega), if_pos (show 0 ≤ (i : Int) - 1 by omega), if_pos (show (i : Int) - 1 < (l.length : Int) by omega)]
   by_cases h1 : Op.bytesLess ((Qaq l (i : Int)).f0.toList) ((Qaq l ((i : Int) - 1)).f0.toList) = true
   ·rw [if_pos h1, if_pos ⟨by omega, Or.inl h1⟩]
   rw [if_neg h1]
   by_cases h2 : (Qaq l (i : Int)).f0.toList = (Qaq l ((i : Int) - 1)).f0.toList
   ·rw [if_pos h2, if_pos ⟨by omega, Or.inr h2⟩]
   rw [if_neg h2, if_neg (fun z => by rcases z.2 with z | z <;> contradiction)]
  rw [if_neg h, if_neg h]
  rfl
def chkAll (l : List As) : Int := if (l.length : Int) > 1024 then 8 else allA l 0 l.length
theorem Qdi (l : List As) (k : Nat) (hk : 1100 ≤ k) : QaV.f k l = some (chkAll l) := by
 unfold QaV.f chkAll
 split
 ·rfl
 exact Qfx l (by omega) l.length 0 k (by omega) (by omega)
abbrev FR := ByteArray × Int × Int × Int × Int × Int × Bool
def findA (l : List As) (s : ByteArray) : Nat → Nat → FR
 | _, 0 => (⟨#[]⟩, 0, 0, 0, 0, 0, false)
 | i, n + 1 => if (Qaq l (i : Int)).f0.toList = s.toList then ((Qaq l (i : Int)).f0, (Qaq l (i : Int)).f1, (Qaq l (i : Int)).f2, (Qaq l (i : Int)).f3, (Qaq l (i : Int)).f4, (Qaq l (i : Int)).f5, true) else findA l s (i + 1) n
theorem QeO (l : List As) (s : ByteArray) (i n : Nat) : findA l s i (n + 1) = if (Qaq l (i : Int)).f0.toList = s.toList then ((Qaq l (i : Int)).f0, (Qaq l (i : Int)).f1, (Qaq l (i : Int)).f2, (Qaq l (i : Int)).f3, (Qaq l (i : Int)).f4, (Qaq l (i : Int)).f5, true) else findA l s (i + 1) n := rfl
theorem Qfn (l : List As) (s : ByteArray) (hl : l.length ≤ 4611686018427387904) : ∀ n i k : Nat, i + n = l.length → n + 1 ≤ k → QaJ.l0 k s l (l.length : Int) (i : Int) = some (findA l s i n) := by
 intro n
 induction n with
 | zero =>
  intro i k hi hk
  obtain ⟨k, rfl⟩ : ∃ m, k = m + 1 := ⟨k - 1, by omega⟩
  rw [QaJ.l0, if_neg (by omega)]
  rfl
 | succ n ih =>
  intro i k hi hk
  obtain ⟨k, rfl⟩ : ∃ m, k = m + 1 := ⟨k - 1, by omega⟩
  rw [QaJ.l0, if_pos (by omega), if_pos (by omega), if_pos (by omega), IntWalk.wrap64_in ((i : Int) + 1) (by omega), show ((i : Int) + 1) = ((i + 1 : Nat) : Int) by omega, ih (i + 1) k (by omega) (by omega), QeO]
  unfold Qb5.f
  rw [Option.bind_some]
  split <;> rfl
theorem QcN (l : List As) (s : ByteArray) (hl : l.length ≤ 4611686018427387904) (k : Nat) (hk : l.length + 1 ≤ k) : Qbb.f k l s = some (findA l s 0 l.length) := by
 unfold Qbb.f QaJ.f
 rw [show (0 : Int) = ((0 : Nat) : Int) from rfl, Qfn l s hl l.length 0 k (by omega) hk]
 rfl
end Go.Proofs.Ytgnmhfjfefgbfaa.Pr
