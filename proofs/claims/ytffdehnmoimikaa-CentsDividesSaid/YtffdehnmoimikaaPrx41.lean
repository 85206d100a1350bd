-- printed by xprint.py, a program of this session (wip/tool), which drives the print. Lean checks it.
import Derived.Test.YtffdehnmoimikaaPrx0
namespace Go.Proofs.Ytffdehnmoimikaa.Pr
open Go.RowKit Go.Proofs.YtffdehnmoimikaaW.PrintWords Go.Proofs.YtffdehnmoimikaaW.PrintLast Go.Proofs.YtffdehnmoimikaaW.PrintMore
attribute [local go_sem] max2_int min2_int max_two min_two max_three min_three max_four min_four   -- for this text's walks alone
set_option linter.unusedVariables false
set_option linter.unusedSimpArgs false

/-! ### bits_Len64: function 63 -/
def bits_Len64.f (a0 : Int) : Option Int := if 0 ≤ a0 ∧ a0 ≤ 18446744073709551615 then some (Lib.bitLen a0.toNat : Int) else none
theorem bits_Len64.tab (n : Nat) (h : n < Lib.len8tab.size) (hn : n ≤ 255) : ((Lib.len8tab[n]'h).toNat : Int) = (Lib.bitLen n : Int) ∧ Lib.bitLen n ≤ 8 := by
  have e := Lib.len8_of (n : Int) (by omega) (by omega)
  have l := Lib.bitLen_le8' (n : Int) (by omega) (by omega)
  rw [Int.toNat_natCast] at e l
  refine ⟨?_, l⟩
  rw [← e]
  unfold Lib.len8
  rw [Int.toNat_natCast, getElem?_pos Lib.len8tab n h]
  rfl
theorem bits_Len64.close (x m n k : Nat) (h : n < Lib.len8tab.size) (hn : n ≤ 255) (hx : Lib.bitLen x = k + Lib.bitLen m) (hm : n = m) (hk : k ≤ 56) :
    wrap64 ((k : Int) + wrap64 ((Lib.len8tab[n]'h).toNat : Int)) = (Lib.bitLen x : Int) := by
  obtain ⟨a, b⟩ := bits_Len64.tab n h hn
  subst hm
  rw [a]
  unfold wrap64
  omega
theorem bits_Len64.close0 (x n : Nat) (h : n < Lib.len8tab.size) (hn : n ≤ 255) (hm : n = x) :
    wrap64 (wrap64 ((Lib.len8tab[n]'h).toNat : Int)) = (Lib.bitLen x : Int) := by
  obtain ⟨a, b⟩ := bits_Len64.tab n h hn
  subst hm
  rw [a]
  unfold wrap64
  omega
set_option maxHeartbeats 4000000 in
set_option maxRecDepth 100000 in
theorem bits_Len64.walk (x : Int) (w : World) (h0 : 0 ≤ x) (h1 : x ≤ 18446744073709551615) :
    Calls Try.prog 63 #[.int .u64 x] w fun e w' => e = .returned (.int .i64 (Lib.bitLen x.toNat)) ∧ w' = w := by
  have u9 := Try.underlying9
  have u5 := Try.underlying5
  have u65 := Try.underlying65
  have u3 := Try.underlying3
  have u42 := Try.underlying42
  go_enter Try.func63, Try.ntmps63
  go_wp2
  all_goals (first | (exfalso; have := Lib.len8tab_size; omega) | skip)
  all_goals (go_ret; refine ⟨congrArg Ending.returned (congrArg (Value.int IntKind.i64) ?_), rfl⟩)
  all_goals go_light
  · exact bits_Len64.close x.toNat (x.toNat / 72057594037927936) _ 56 _ (by omega) (Lib.bitLen_shift56 x.toNat (by omega) (by omega)) (by omega) (by omega)
  · exact bits_Len64.close x.toNat (x.toNat / 281474976710656) _ 48 _ (by omega) (Lib.bitLen_shift48 x.toNat (by omega) (by omega)) (by omega) (by omega)
  · exact bits_Len64.close x.toNat (x.toNat / 1099511627776) _ 40 _ (by omega) (Lib.bitLen_shift40 x.toNat (by omega) (by omega)) (by omega) (by omega)
  · exact bits_Len64.close x.toNat (x.toNat / 4294967296) _ 32 _ (by omega) (Lib.bitLen_shift32 x.toNat (by omega) (by omega)) (by omega) (by omega)
  · exact bits_Len64.close x.toNat (x.toNat / 16777216) _ 24 _ (by omega) (Lib.bitLen_shift24 x.toNat (by omega) (by omega)) (by omega) (by omega)
  · exact bits_Len64.close x.toNat (x.toNat / 65536) _ 16 _ (by omega) (Lib.bitLen_shift16 x.toNat (by omega) (by omega)) (by omega) (by omega)
  · exact bits_Len64.close x.toNat (x.toNat / 256) _ 8 _ (by omega) (Lib.bitLen_shift8 x.toNat (by omega) (by omega)) (by omega) (by omega)
  · exact bits_Len64.close0 x.toNat _ _ (by omega) rfl
theorem bits_Len64.calls (a0 r : Int) (w : World) (h : bits_Len64.f a0 = some r) :
    Calls Try.prog 63 #[.int .u64 a0] w fun e w' => e = .returned (.int .i64 r) ∧ Drawn0 w w' := by
  unfold bits_Len64.f at h
  by_cases c : 0 ≤ a0 ∧ a0 ≤ 18446744073709551615
  · rw [if_pos c] at h
    obtain rfl := Option.some.inj h
    refine (bits_Len64.walk a0 w c.1 c.2).mono ?_
    rintro e w' ⟨rfl, rfl⟩
    exact ⟨rfl, Drawn0.refl _⟩
  · rw [if_neg c] at h
    cases h

end Go.Proofs.Ytffdehnmoimikaa.Pr
