/- Functions' values and contracts, as the print wrote them. -/
import Derived.Test.YtffdehnmoimikaaProg
import Derived.Below
import Derived.Deep.Draws
import Derived.Deep.AppendLies
import Derived.Maps.AppendAt
import Derived.OwnWalk
import Derived.Laws.BytesArg
import Derived.Laws.MakeOwn
import Derived.Laws.OwnMore
import Derived.Deep.OwnRows
import Derived.Tactics
import Derived.Lib.ConvBytes
import Derived.Laws.Slices
import Derived.WalkKit
import Derived.KernelRfl
import Derived.RowKit3
import Derived.Deep.LoopGhost
import Derived.Deep.QuietTactic
import Derived.BigQuiet
import Derived.WideLaws
import Derived.Deep.DeepCutAuto
import Derived.Deep.CutBlock
import Derived.Deep.RegionHeld3
import Derived.Laws.Rows
import Derived.Lib.AppendStr
import Derived.ArgAppend
import Derived.Laws.IdiomCopy
import Derived.OrdersHeld
import Derived.Laws.BitsLemmas
import Derived.RowKit
import Derived.Laws.Cover1
import Derived.Lib.BitFns
import Derived.Lib.ItoaNum
import Derived.Deep.Light
import Derived.Lib.LazyBuf
import Derived.Lib.Mul64
import Derived.Laws.Bits64b
import Derived.Lib.Small
import Derived.Lib.Walk
import Derived.Lib.Strings
import Derived.Lib.Slices
import Derived.Test.YtffdehnmoimikaaQC29WWords
import Derived.Test.YtffdehnmoimikaaQC29WLast
import Derived.Test.YtffdehnmoimikaaQC29WTab
import Derived.Test.YtffdehnmoimikaaQC29WApart
import Derived.Test.YtffdehnmoimikaaQC29WFoot
import Derived.Test.YtffdehnmoimikaaQC29WKept
import Derived.Test.YtffdehnmoimikaaQC29WShare
import Derived.Test.YtffdehnmoimikaaQC29WN
import Derived.Laws.StructEq
import Derived.Test.YtffdehnmoimikaaQC29WRepsOne
import Derived.Test.YtffdehnmoimikaaQC29WMore
namespace Go.Proofs.Ytffdehnmoimikaa.Pr
open Go.RowKit Go.Proofs.YtffdehnmoimikaaW.PrintWords Go.Proofs.YtffdehnmoimikaaW.PrintLast Go.Proofs.YtffdehnmoimikaaW.PrintMore
attribute [local go_sem] max2_int min2_int max_two min_two max_three min_three max_four min_four   -- for this text's walks alone
set_option linter.unusedVariables false
set_option linter.unusedSimpArgs false
def errW : Option Int → Value
  | none => .nilIface
  | some c => .iface 0 (.int .i64 c)
theorem errW_none : errW none = .nilIface := rfl
theorem errW_some (c : Int) : errW (some c) = .iface 0 (.int .i64 c) := rfl
def mdFits (n : Int) : Prop := -1152921504606846976 ≤ n ∧ n ≤ 1152921504606846976
instance (n : Int) : Decidable (mdFits n) := inferInstanceAs (Decidable (_ ∧ _))
structure S38 where
  f0 : ByteArray
  f1 : Int
  f2 : Int
  f3 : Int
def z38 : S38 := ⟨(⟨#[]⟩ : ByteArray), (0 : Int), (0 : Int), (0 : Int)⟩
def k38 : Kd S38 := Kd.iso (Kd.pair Kd.string (Kd.pair (Kd.int .i64) (Kd.pair (Kd.int .i64) (Kd.int .i64)))) (fun x : S38 => (x.f0, x.f1, x.f2, x.f3))
theorem k38_open {w : World} {x : S38} {cs : List Value} (h : k38.K w x cs) : cs = [.string x.f0, .int .i64 x.f1, .int .i64 x.f2, .int .i64 x.f3] := by
  obtain ⟨_, _, rfl, rfl, ⟨_, _, rfl, rfl, ⟨_, _, rfl, rfl, rfl⟩⟩⟩ := h
  exact rfl
theorem k38_mkM (w : World) (base : Nat) (ok : Nat → Prop) (x : S38)  : k38.M w base ok x [.string x.f0, .int .i64 x.f1, .int .i64 x.f2, .int .i64 x.f3] := ⟨[.string x.f0], [.int .i64 x.f1, .int .i64 x.f2, .int .i64 x.f3], rfl, rfl, ⟨[.int .i64 x.f1], [.int .i64 x.f2, .int .i64 x.f3], rfl, rfl, ⟨[.int .i64 x.f2], [.int .i64 x.f3], rfl, rfl, rfl⟩⟩⟩
structure S40 where
  f0 : S38
  f1 : Int
  f2 : Int
def z40 : S40 := ⟨z38, (0 : Int), (0 : Int)⟩
def k40 : Kd S40 := Kd.iso (Kd.pair k38 (Kd.pair (Kd.int .i64) (Kd.int .i64))) (fun x : S40 => (x.f0, x.f1, x.f2))
theorem k40_open {w : World} {x : S40} {cs : List Value} (h : k40.K w x cs) : cs = [.string x.f0.f0, .int .i64 x.f0.f1, .int .i64 x.f0.f2, .int .i64 x.f0.f3, .int .i64 x.f1, .int .i64 x.f2] := by
  obtain ⟨_, _, rfl, s0, ⟨_, _, rfl, rfl, rfl⟩⟩ := h
  obtain rfl := k38_open s0
  exact rfl
theorem k40_mkM (w : World) (base : Nat) (ok : Nat → Prop) (x : S40)  : k40.M w base ok x [.string x.f0.f0, .int .i64 x.f0.f1, .int .i64 x.f0.f2, .int .i64 x.f0.f3, .int .i64 x.f1, .int .i64 x.f2] := ⟨[.string x.f0.f0, .int .i64 x.f0.f1, .int .i64 x.f0.f2, .int .i64 x.f0.f3], [.int .i64 x.f1, .int .i64 x.f2], rfl, (k38_mkM w base ok x.f0 ), ⟨[.int .i64 x.f1], [.int .i64 x.f2], rfl, rfl, rfl⟩⟩
def rd_T40 (xs : List S40) (i : Int) : S40 := xs.getD i.toNat z40
theorem at_T40 {w : World} {A : Option Addr} {n : Nat} {xs : List S40} (h : Kd.C k40 w A n xs) (i : Int) (h0 : 0 ≤ i) (h1 : i < n) : ∃ ad , A = some ad ∧ w.cell? (ad.add (i.toNat * 6)) = some (.string (rd_T40 xs i).f0.f0) ∧ w.cell? ⟨(ad.add (i.toNat * 6)).block, (ad.add (i.toNat * 6)).off + 1, none⟩ = some (.int .i64 (rd_T40 xs i).f0.f1) ∧ w.cell? ⟨(ad.add (i.toNat * 6)).block, (ad.add (i.toNat * 6)).off + 2, none⟩ = some (.int .i64 (rd_T40 xs i).f0.f2) ∧ w.cell? ⟨(ad.add (i.toNat * 6)).block, (ad.add (i.toNat * 6)).off + 3, none⟩ = some (.int .i64 (rd_T40 xs i).f0.f3) ∧ w.cell? ⟨(ad.add (i.toNat * 6)).block, (ad.add (i.toNat * 6)).off + 4, none⟩ = some (.int .i64 (rd_T40 xs i).f1) ∧ w.cell? ⟨(ad.add (i.toNat * 6)).block, (ad.add (i.toNat * 6)).off + 5, none⟩ = some (.int .i64 (rd_T40 xs i).f2) := by
  obtain ⟨ad, c, e, _, hK, hc0⟩ := Kd.C_get h z40 i h0 h1
  have hc : ∀ j u, c[j]? = some u → w.cell? (ad.add (i.toNat * 6 + j)) = some u := hc0
  obtain rfl := k40_open hK
  exact ⟨ad, e, hc 0 _ rfl, by rw [← add_field _ _ 1 (by omega)]; exact hc 1 _ rfl, by rw [← add_field _ _ 2 (by omega)]; exact hc 2 _ rfl, by rw [← add_field _ _ 3 (by omega)]; exact hc 3 _ rfl, by rw [← add_field _ _ 4 (by omega)]; exact hc 4 _ rfl, by rw [← add_field _ _ 5 (by omega)]; exact hc 5 _ rfl⟩
structure S34 where
  f0 : Int
  f1 : Int
  f2 : Int
def k34 : Kd S34 := Kd.iso (Kd.pair (Kd.int .i64) (Kd.pair (Kd.int .i64) (Kd.int .i64))) (fun x : S34 => (x.f0, x.f1, x.f2))
theorem k34_open {w : World} {x : S34} {cs : List Value} (h : k34.K w x cs) : cs = [.int .i64 x.f0, .int .i64 x.f1, .int .i64 x.f2] := by
  obtain ⟨_, _, rfl, rfl, ⟨_, _, rfl, rfl, rfl⟩⟩ := h
  exact rfl
def series_Compare.f (a0_0 : ByteArray) (a0_1 a0_2 a0_3 : Int) (a1_0 : ByteArray) (a1_1 a1_2 a1_3 : Int) : Option Int :=
  if a0_0.toList = a1_0.toList then
    if a0_2 = a1_2 then
      if a0_1 = a1_1 then
        if a0_3 = a1_3 then some 0 else if a0_3 < a1_3 then some (-1) else some 1
      else if a0_1 < a1_1 then some (-1) else some 1
    else if a0_2 < a1_2 then some (-1) else some 1
  else if Op.bytesLess a0_0.toList a1_0.toList = true then some (-1) else some 1
set_option maxHeartbeats 4000000 in
set_option maxRecDepth 100000 in
theorem series_Compare.calls (a0_0 : ByteArray) (a0_1 : Int) (a0_2 : Int) (a0_3 : Int) (a1_0 : ByteArray) (a1_1 : Int) (a1_2 : Int) (a1_3 : Int) (r : Int) (w : World) (h : series_Compare.f a0_0 a0_1 a0_2 a0_3 a1_0 a1_1 a1_2 a1_3 = some r) :
    Calls Try.prog 60 #[.agg #[.string a0_0, .int .i64 a0_1, .int .i64 a0_2, .int .i64 a0_3], .agg #[.string a1_0, .int .i64 a1_1, .int .i64 a1_2, .int .i64 a1_3]] w fun e w' => e = .returned (.int .i64 r) ∧ Below w.heap.size w w' := by
  have hu38 := Try.underlying38
  have HH := Aside0.mk h
  clear h
  go_enter Try.func60, Try.ntmps60
  go_wp2
  all_goals go_ret
  all_goals refine ⟨congrArg Ending.returned (congrArg (Value.int IntKind.i64) ?_), by repeat (first | exact Below.refl _ _ | apply below_alloc | apply pw_below_drewN | apply below_drew)⟩
  all_goals (go_light; have H := HH.out; clear HH; unfold series_Compare.f at H)
  all_goals ((repeat' split at H) <;> (first | exact (Option.some.inj H) | (exfalso; omega) | (exfalso; simp_all; done) | (exfalso; simp_all; omega)))
def position_lots.f (a0 : Int) : Option (Bool) := if a0 ≥ 0 then (some (decide (a0 ≤ 1048576))) else (some false)
set_option maxHeartbeats 8000000 in
set_option maxRecDepth 100000 in
theorem position_lots.calls (a0 : Int) (r : Bool) (w : World) (h : position_lots.f a0 = some r) :
    Calls Try.prog 61 #[.int .i64 a0] w fun e w' => e = .returned (.bool r) ∧ Drawn0 w w' := by
  have H : (if a0 ≥ 0 then (some (decide (a0 ≤ 1048576))) else (some false)) = some r := h
  clear h
  by_cases c2 : a0 ≥ 0
  · rw [if_pos c2] at H
    have c2b0 : decide (0 ≤ a0) = true := decide_eq_true c2
    clear c2
    obtain rfl := Option.some.inj H
    go_enter Try.func61, Try.ntmps61
    go_wp2
    go_ret
    exact ⟨by first | rfl | (simp; done) | (simp [*]; done), by repeat (first | exact Drawn0.refl _ | apply Drawn0.step)⟩
  · rw [if_neg c2] at H
    have c2b0 : decide (0 ≤ a0) = false := decide_eq_false c2
    clear c2
    obtain rfl := Option.some.inj H
    go_enter Try.func61, Try.ntmps61
    go_wp2
    go_ret
    exact ⟨by first | rfl | (simp; done) | (simp [*]; done), by repeat (first | exact Drawn0.refl _ | apply Drawn0.step)⟩
mutual
def position_Check.l0 : Nat → List (S40) → List (S40) → Int → Int → Option (Int)
  | 0, _, _, _, _ => none
  | k + 1, x0, x8, x9, x10 => if x10 < x9 then (if 0 ≤ x10 then (if x10 < (x8.length : Int) then (if x10 > 0 then (if 0 ≤ (wrap64 (x10 - 1)) then (if (wrap64 (x10 - 1)) < (x0.length : Int) then ((series_Compare.f ((rd_T40 x0 (wrap64 (x10 - 1))).f0.f0) ((rd_T40 x0 (wrap64 (x10 - 1))).f0.f1) ((rd_T40 x0 (wrap64 (x10 - 1))).f0.f2) ((rd_T40 x0 (wrap64 (x10 - 1))).f0.f3) ((rd_T40 x8 x10).f0.f0) ((rd_T40 x8 x10).f0.f1) ((rd_T40 x8 x10).f0.f2) ((rd_T40 x8 x10).f0.f3)).bind fun t108 => (position_Check.j1 k x0 x8 x9 x10 (decide (t108 ≥ 0)) ((rd_T40 x8 x10).f0.f0) ((rd_T40 x8 x10).f0.f1) ((rd_T40 x8 x10).f0.f2) ((rd_T40 x8 x10).f0.f3) ((rd_T40 x8 x10).f1) ((rd_T40 x8 x10).f2))) else (none)) else (none)) else (position_Check.j1 k x0 x8 x9 x10 false ((rd_T40 x8 x10).f0.f0) ((rd_T40 x8 x10).f0.f1) ((rd_T40 x8 x10).f0.f2) ((rd_T40 x8 x10).f0.f3) ((rd_T40 x8 x10).f1) ((rd_T40 x8 x10).f2))) else (none)) else (none)) else (some 0)
def position_Check.j1 : Nat → List (S40) → List (S40) → Int → Int → Bool → ByteArray → Int → Int → Int → Int → Int → Option (Int)
  | 0, _, _, _, _, _, _, _, _, _, _, _ => none
  | k + 1, x0, x8, x9, x10, x28, x107000, x107001, x107002, x107003, x107004, x107005 => if x28 = true then (some 19) else ((position_lots.f x107004).bind fun t109 => (if t109 = true then ((position_lots.f x107005).bind fun t110 => (if t110 = true then (if x107004 = 0 then (if x107005 = 0 then (some 18) else (position_Check.l0 k x0 x8 x9 (wrap64 (x10 + 1)))) else (position_Check.l0 k x0 x8 x9 (wrap64 (x10 + 1)))) else (some 18))) else (some 18)))
end
def position_Check.f (k : Nat) (l0 : List (S40)) : Option (Int) := if (l0.length : Int) > 128 then (some 8) else (position_Check.l0 k l0 l0 (l0.length : Int) 0)
theorem position_Check.mono_l : ∀ k, (∀ y0 y1 y2 y3, LeO (position_Check.l0 k y0 y1 y2 y3) (position_Check.l0 (k + 1) y0 y1 y2 y3)) ∧ (∀ y0 y1 y2 y3 y4 y5 y6 y7 y8 y9 y10, LeO (position_Check.j1 k y0 y1 y2 y3 y4 y5 y6 y7 y8 y9 y10) (position_Check.j1 (k + 1) y0 y1 y2 y3 y4 y5 y6 y7 y8 y9 y10))
  | 0 => ⟨fun _ _ _ _ r h => by simp [position_Check.l0] at h, fun _ _ _ _ _ _ _ _ _ _ _ r h => by simp [position_Check.j1] at h⟩
  | k + 1 => by
    obtain ⟨ih0, ih1⟩ := position_Check.mono_l k
    refine ⟨?_, ?_⟩
    · intro y0 y1 y2 y3
      unfold position_Check.l0
      repeat' first
      | (with_reducible exact ih0 _ _ _ _)
      | (with_reducible exact ih1 _ _ _ _ _ _ _ _ _ _ _)
      | (with_reducible exact LeO.refl _)
      | (with_reducible exact LeO.none _)
      | (with_reducible refine LeO.ite ?_ ?_)
      | (with_reducible refine LeO.bind ?_ (fun _ => ?_))
      | exact ih0 _ _ _ _
      | exact ih1 _ _ _ _ _ _ _ _ _ _ _
      | exact LeO.none _
      | refine LeO.ite ?_ ?_
      | refine LeO.bind ?_ (fun _ => ?_)
    · intro y0 y1 y2 y3 y4 y5 y6 y7 y8 y9 y10
      unfold position_Check.j1
      repeat' first
      | (with_reducible exact ih0 _ _ _ _)
      | (with_reducible exact ih1 _ _ _ _ _ _ _ _ _ _ _)
      | (with_reducible exact LeO.refl _)
      | (with_reducible exact LeO.none _)
      | (with_reducible refine LeO.ite ?_ ?_)
      | (with_reducible refine LeO.bind ?_ (fun _ => ?_))
      | exact ih0 _ _ _ _
      | exact ih1 _ _ _ _ _ _ _ _ _ _ _
      | exact LeO.none _
      | refine LeO.ite ?_ ?_
      | refine LeO.bind ?_ (fun _ => ?_)
theorem position_Check.mono : ∀ a0 k, LeO (position_Check.f k a0) (position_Check.f (k + 1) a0) := by
  intro a0 k
  obtain ⟨ih0, ih1⟩ := position_Check.mono_l k
  unfold position_Check.f
  repeat' first
      | (with_reducible exact ih0 _ _ _ _)
      | (with_reducible exact ih1 _ _ _ _ _ _ _ _ _ _ _)
      | (with_reducible exact LeO.refl _)
      | (with_reducible exact LeO.none _)
      | (with_reducible refine LeO.ite ?_ ?_)
      | (with_reducible refine LeO.bind ?_ (fun _ => ?_))
      | exact ih0 _ _ _ _
      | exact ih1 _ _ _ _ _ _ _ _ _ _ _
      | exact LeO.none _
      | refine LeO.ite ?_ ?_
      | refine LeO.bind ?_ (fun _ => ?_)
def position_Check.T6 : Bool × List (List Nat × List Nat) := (true, [([], []), ([0], [0]), ([1], [1]), ([2], [2]), ([2], [2]), ([4, 2], [2, 4]), ([3, 5, 2], [2, 3, 5]), ([6, 2], [2, 6]), ([7, 2], [2, 7]), ([2], [2]), ([9, 2], [2, 9]), ([8, 10, 2, 2], [2, 8, 10]), ([11, 2], [2, 11]), ([2, 12], [2, 12])])
def position_Check.B6 : List Nat := [0, 1, 3, 7, 7, 23, 63, 127, 255, 7, 519, 2047, 4095, 8191]
theorem position_Check.tab6 : rtab .any (opsOf Try.f55 6) = position_Check.T6 := by kernel_rfl
theorem position_Check.bits6 : waitsOk position_Check.T6.2 position_Check.B6 = true := by kernel_rfl
set_option maxHeartbeats 8000000 in
set_option maxRecDepth 100000 in
theorem position_Check.calls (k : Nat) (A0 : Option Addr) (c0 : Nat) (l0 : List (S40)) (r : Int) (w : World) (hr0 : Kd.C k40 w A0 l0.length l0) (hc0 : l0.length ≤ c0) (h : position_Check.f k l0 = some r) :
    Calls Try.prog 55 #[.slice A0 l0.length c0] w fun e w' => e = .returned (.int .i64 r) ∧ Below w.heap.size w w' := by
  have hu40 := Try.underlying40
  have hu38 := Try.underlying38
  have HR0 := Aside0.mk hr0
  have HC0 := Aside0.mk hc0
  clear hr0 hc0
  have HB := Aside0.mk (Below.refl w.heap.size w)
  have H : (if (l0.length : Int) > 128 then (some 8) else (position_Check.l0 k l0 l0 (l0.length : Int) 0)) = some r := h
  clear h
  by_cases c2 : (l0.length : Int) > 128
  · rw [if_pos c2] at H
    have c2b0 : decide (128 < (l0.length : Int)) = true := decide_eq_true c2
    have c2b1 : decide (128 < l0.length) = true := decide_eq_true (by omega)
    clear c2
    obtain rfl := Option.some.inj H
    go_enter Try.func55, Try.ntmps55
    go_wp2
    go_ret
    exact ⟨by first | rfl | (simp [errW_none, errW_some] <;> rfl) | (simp [*, errW_none, errW_some] <;> rfl), by repeat (first | (with_reducible first | exact HB.out | apply below_alloc | apply pw_below_drewN | apply below_drew1) | exact HB.out)⟩
  · rw [if_neg c2] at H
    have c2b0 : decide (128 < (l0.length : Int)) = false := decide_eq_false c2
    have c2b1 : decide (128 < l0.length) = false := decide_eq_false (by omega)
    clear c2
    have H' := Aside0.mk H
    clear H
    go_enter Try.func55, Try.ntmps55
    go_wp2
    go_loopg [10] k (fun kq v10 w' => ∃ (x10_1 : Int), v10 = .int .i64 x10_1 ∧ Aside0 (position_Check.l0 kq l0 l0 (l0.length : Int) x10_1 = some r) ∧ Aside0 (kq ≤ k) ∧ Aside0 (Below w.heap.size w w'))
    case atStart => exact ⟨(0), (by first | rfl | (simp; done) | (simp [*]; done)), H', ⟨Nat.le_refl _⟩, ⟨by repeat (first | (with_reducible first | exact HB.out | apply below_alloc | apply pw_below_drewN | apply below_drew1) | exact HB.out)⟩⟩
    case round =>
      clear H'
      try clear c2
      try clear c2b0
      try clear c2b1
      try clear p2
      obtain ⟨x10_1, rfl, HA, HK1, HB⟩ := hrel
      cases gk with
      | zero => exact absurd HA.out (by simp [position_Check.l0])
      | succ k1 =>
        have H := HA.out
        clear HA
        simp only [position_Check.l0] at H
        by_cases c3 : x10_1 < (l0.length : Int)
        · rw [if_pos c3] at H
          have c3b0 : decide (x10_1 < (l0.length : Int)) = true := decide_eq_true c3
          clear c3
          by_cases c4 : 0 ≤ x10_1
          · rw [if_pos c4] at H
            have c4b0 : decide (0 ≤ x10_1) = true := decide_eq_true c4
            clear c4
            by_cases c5 : x10_1 < (l0.length : Int)
            · rw [if_pos c5] at H
              have c5b0 : decide (x10_1 < (l0.length : Int)) = true := decide_eq_true c5
              clear c5
              have HC6 := Aside0.mk H
              clear H
              have p105 : 0 ≤ (x10_1 : Int) := of_decide_eq_true (by first | (with_reducible assumption) | assumption)
              have q105 : x10_1 < (l0.length : Int) := of_decide_eq_true (by first | (with_reducible assumption) | assumption)
              obtain ⟨ad105, e105, hx105_0, hx105_1, hx105_2, hx105_3, hx105_4, hx105_5⟩ := at_T40 HR0.out x10_1 p105 q105
              cases e105
              replace hx105_0 := (HB.out.cell (World.block_lt_of_cell? w _ hx105_0)).trans hx105_0
              replace hx105_1 := (HB.out.cell (World.block_lt_of_cell? w _ hx105_1)).trans hx105_1
              replace hx105_2 := (HB.out.cell (World.block_lt_of_cell? w _ hx105_2)).trans hx105_2
              replace hx105_3 := (HB.out.cell (World.block_lt_of_cell? w _ hx105_3)).trans hx105_3
              replace hx105_4 := (HB.out.cell (World.block_lt_of_cell? w _ hx105_4)).trans hx105_4
              replace hx105_5 := (HB.out.cell (World.block_lt_of_cell? w _ hx105_5)).trans hx105_5
              replace p105 := eq_true p105
              replace q105 := eq_true q105
              go_upto_region 6 with (first | ((with_reducible refine gate_dst (N := 4) rfl ?_); refine box_event ?hg (N := 4) ?hd (cs := #[.string (⟨#[]⟩ : ByteArray), .int .i64 0, .int .i64 0, .int .i64 0, .int .i64 0, .int .i64 0]) (t := 40) ?hr ?_; (case hd => rfl); (case hg => rfl); (case hr => first | (go_simp; done) | (go_simp; rfl)); intro gb106 hg w7 hbox hb; have n0_ := Aside0.mk (below_step (by repeat (first | (with_reducible first | exact HB.out | apply below_alloc | apply pw_below_drewN | apply below_drew1) | exact HB.out)) hb); have n1_ := Aside0.mk (hbox); have n2_ := Aside0.mk ((by rw [hg]; exact (below_size (by repeat (first | (with_reducible first | exact HB.out | apply below_alloc | apply pw_below_drewN | apply below_drew1) | exact HB.out))) : w.heap.size ≤ gb106)); have n3_ := Aside0.mk ((by rw [hg]; exact (below_size (by repeat (first | (with_reducible first | exact HB.out | apply below_alloc | apply pw_below_drewN | apply below_drew1) | exact HB.out))) : w.heap.size ≤ gb106)); clear HB; have HB := n0_; have BK106 := n1_; have GW106 := n2_; have GE106 := n3_; clear n0_ n1_ n2_ n3_; clear hb hbox hg; have hcz8_0 : w7.cell? ⟨gb106, 0, none⟩ = some (.string (⟨#[]⟩ : ByteArray)) := (blk_cell BK106.out 0).trans rfl; have hcz8_1 : w7.cell? ⟨gb106, 1, none⟩ = some (.int .i64 0) := (blk_cell BK106.out 1).trans rfl; have hcz8_2 : w7.cell? ⟨gb106, 2, none⟩ = some (.int .i64 0) := (blk_cell BK106.out 2).trans rfl; have hcz8_3 : w7.cell? ⟨gb106, 3, none⟩ = some (.int .i64 0) := (blk_cell BK106.out 3).trans rfl; have hcz8_4 : w7.cell? ⟨gb106, 4, none⟩ = some (.int .i64 0) := (blk_cell BK106.out 4).trans rfl; have hcz8_5 : w7.cell? ⟨gb106, 5, none⟩ = some (.int .i64 0) := (blk_cell BK106.out 5).trans rfl; have hfz8_0 := blk_frozen BK106.out 0; have hfz8_1 := blk_frozen BK106.out 1; have hfz8_2 := blk_frozen BK106.out 2; have hfz8_3 := blk_frozen BK106.out 3; have hfz8_4 := blk_frozen BK106.out 4; have hfz8_5 := blk_frozen BK106.out 5))
              (try simp only [Act.put, List.setIfInBounds_toArray, List.set_cons_zero, List.set_cons_succ])
              go_cut [28] (fun v28 wc => ∃ (kq : Nat) (x28_5 : Bool), v28 = .bool x28_5 ∧ Aside0 (position_Check.j1 kq l0 l0 (l0.length : Int) x10_1 x28_5 ((rd_T40 l0 x10_1).f0.f0) ((rd_T40 l0 x10_1).f0.f1) ((rd_T40 l0 x10_1).f0.f2) ((rd_T40 l0 x10_1).f0.f3) ((rd_T40 l0 x10_1).f1) ((rd_T40 l0 x10_1).f2) = some r) ∧ Aside0 (kq ≤ k1) ∧ Aside0 (wc.heap[gb106]? = some (.cells #[.string ((rd_T40 l0 x10_1).f0.f0), .int .i64 ((rd_T40 l0 x10_1).f0.f1), .int .i64 ((rd_T40 l0 x10_1).f0.f2), .int .i64 ((rd_T40 l0 x10_1).f0.f3), .int .i64 ((rd_T40 l0 x10_1).f1), .int .i64 ((rd_T40 l0 x10_1).f2)] 40 (0, 0))) ∧ Aside0 (Below w.heap.size w wc))
              case first =>
                have H := HC6.out
                clear HC6
                by_cases c9 : x10_1 > 0
                · rw [if_pos c9] at H
                  have c9b0 : decide (0 < x10_1) = true := decide_eq_true c9
                  clear c9
                  (first | rw [c9b0] | (simp only [i64_w, i32_w]; rw [c9b0]) | skip)
                  obtain ⟨ji10, hji10⟩ : ∃ j_ : Int, (wrap64 (x10_1 - 1)) = j_ := ⟨_, rfl⟩
                  replace H : (if 0 ≤ (ji10) then (if (ji10) < (l0.length : Int) then ((series_Compare.f ((rd_T40 l0 (ji10)).f0.f0) ((rd_T40 l0 (ji10)).f0.f1) ((rd_T40 l0 (ji10)).f0.f2) ((rd_T40 l0 (ji10)).f0.f3) ((rd_T40 l0 x10_1).f0.f0) ((rd_T40 l0 x10_1).f0.f1) ((rd_T40 l0 x10_1).f0.f2) ((rd_T40 l0 x10_1).f0.f3)).bind fun t108 => (position_Check.j1 k1 l0 l0 (l0.length : Int) x10_1 (decide (t108 ≥ 0)) ((rd_T40 l0 x10_1).f0.f0) ((rd_T40 l0 x10_1).f0.f1) ((rd_T40 l0 x10_1).f0.f2) ((rd_T40 l0 x10_1).f0.f3) ((rd_T40 l0 x10_1).f1) ((rd_T40 l0 x10_1).f2))) else (none)) else (none)) = some r := by first | (rw [hji10] at H; exact H) | (simp only [hji10] at H ⊢; exact H)
                  have hji10w : (IntKind.i64.wrap (x10_1 - 1)) = ji10 := (i64_w _).trans hji10
                  by_cases c11 : 0 ≤ (ji10)
                  · rw [if_pos c11] at H
                    have c11b0 : decide (0 ≤ (ji10)) = true := decide_eq_true c11
                    clear c11
                    by_cases c12 : (ji10) < (l0.length : Int)
                    · rw [if_pos c12] at H
                      have c12b0 : decide ((ji10) < (l0.length : Int)) = true := decide_eq_true c12
                      clear c12
                      replace H := Option.bind_eq_some_iff.mp H
                      obtain ⟨t108, A130, H⟩ := H
                      replace H : (position_Check.j1 k1 l0 l0 (l0.length : Int) x10_1 (decide (t108 ≥ 0)) ((rd_T40 l0 x10_1).f0.f0) ((rd_T40 l0 x10_1).f0.f1) ((rd_T40 l0 x10_1).f0.f2) ((rd_T40 l0 x10_1).f0.f3) ((rd_T40 l0 x10_1).f1) ((rd_T40 l0 x10_1).f2)) = some r := H
                      have A13 := Aside0.mk A130
                      clear A130
                      have H' := Aside0.mk H
                      clear H
                      try go_wp2
                      have n0_ : Aside0 (((((((w7.setCell ⟨gb106, 0, none⟩ (.string ((rd_T40 l0 x10_1).f0.f0))).setCell ⟨gb106, 1, none⟩ (.int .i64 ((rd_T40 l0 x10_1).f0.f1))).setCell ⟨gb106, 2, none⟩ (.int .i64 ((rd_T40 l0 x10_1).f0.f2))).setCell ⟨gb106, 3, none⟩ (.int .i64 ((rd_T40 l0 x10_1).f0.f3))).setCell ⟨gb106, 4, none⟩ (.int .i64 ((rd_T40 l0 x10_1).f1))).setCell ⟨gb106, 5, none⟩ (.int .i64 ((rd_T40 l0 x10_1).f2))).heap[gb106]? = some (.cells #[.string ((rd_T40 l0 x10_1).f0.f0), .int .i64 ((rd_T40 l0 x10_1).f0.f1), .int .i64 ((rd_T40 l0 x10_1).f0.f2), .int .i64 ((rd_T40 l0 x10_1).f0.f3), .int .i64 ((rd_T40 l0 x10_1).f1), .int .i64 ((rd_T40 l0 x10_1).f2)] 40 (0, 0))) := ⟨by (with_reducible repeat (first | refine blk_drewN ?_ _ | refine blk_drew ?_ | refine blk_alloc ?_ _)); refine blk_put (cs := #[.string ((rd_T40 l0 x10_1).f0.f0), .int .i64 ((rd_T40 l0 x10_1).f0.f1), .int .i64 ((rd_T40 l0 x10_1).f0.f2), .int .i64 ((rd_T40 l0 x10_1).f0.f3), .int .i64 ((rd_T40 l0 x10_1).f1), .int .i64 0]) ?_ 5 _ rfl; (with_reducible repeat (first | refine blk_drewN ?_ _ | refine blk_drew ?_ | refine blk_alloc ?_ _)); refine blk_put (cs := #[.string ((rd_T40 l0 x10_1).f0.f0), .int .i64 ((rd_T40 l0 x10_1).f0.f1), .int .i64 ((rd_T40 l0 x10_1).f0.f2), .int .i64 ((rd_T40 l0 x10_1).f0.f3), .int .i64 0, .int .i64 0]) ?_ 4 _ rfl; (with_reducible repeat (first | refine blk_drewN ?_ _ | refine blk_drew ?_ | refine blk_alloc ?_ _)); refine blk_put (cs := #[.string ((rd_T40 l0 x10_1).f0.f0), .int .i64 ((rd_T40 l0 x10_1).f0.f1), .int .i64 ((rd_T40 l0 x10_1).f0.f2), .int .i64 0, .int .i64 0, .int .i64 0]) ?_ 3 _ rfl; (with_reducible repeat (first | refine blk_drewN ?_ _ | refine blk_drew ?_ | refine blk_alloc ?_ _)); refine blk_put (cs := #[.string ((rd_T40 l0 x10_1).f0.f0), .int .i64 ((rd_T40 l0 x10_1).f0.f1), .int .i64 0, .int .i64 0, .int .i64 0, .int .i64 0]) ?_ 2 _ rfl; (with_reducible repeat (first | refine blk_drewN ?_ _ | refine blk_drew ?_ | refine blk_alloc ?_ _)); refine blk_put (cs := #[.string ((rd_T40 l0 x10_1).f0.f0), .int .i64 0, .int .i64 0, .int .i64 0, .int .i64 0, .int .i64 0]) ?_ 1 _ rfl; (with_reducible repeat (first | refine blk_drewN ?_ _ | refine blk_drew ?_ | refine blk_alloc ?_ _)); refine blk_put (cs := #[.string (⟨#[]⟩ : ByteArray), .int .i64 0, .int .i64 0, .int .i64 0, .int .i64 0, .int .i64 0]) ?_ 0 _ rfl; (with_reducible repeat (first | refine blk_drewN ?_ _ | refine blk_drew ?_ | refine blk_alloc ?_ _)); exact BK106.out⟩
                      have n1_ : Aside0 (Below w.heap.size w ((((((w7.setCell ⟨gb106, 0, none⟩ (.string ((rd_T40 l0 x10_1).f0.f0))).setCell ⟨gb106, 1, none⟩ (.int .i64 ((rd_T40 l0 x10_1).f0.f1))).setCell ⟨gb106, 2, none⟩ (.int .i64 ((rd_T40 l0 x10_1).f0.f2))).setCell ⟨gb106, 3, none⟩ (.int .i64 ((rd_T40 l0 x10_1).f0.f3))).setCell ⟨gb106, 4, none⟩ (.int .i64 ((rd_T40 l0 x10_1).f1))).setCell ⟨gb106, 5, none⟩ (.int .i64 ((rd_T40 l0 x10_1).f2)))) := ⟨by repeat (first | (with_reducible first | exact HB.out | apply below_alloc | apply pw_below_drewN | apply below_drew1 | refine below_set ?_ GE106.out) | exact HB.out)⟩
                      (try clear BK106)
                      (try clear HB)
                      generalize ((((((w7.setCell ⟨gb106, 0, none⟩ (.string ((rd_T40 l0 x10_1).f0.f0))).setCell ⟨gb106, 1, none⟩ (.int .i64 ((rd_T40 l0 x10_1).f0.f1))).setCell ⟨gb106, 2, none⟩ (.int .i64 ((rd_T40 l0 x10_1).f0.f2))).setCell ⟨gb106, 3, none⟩ (.int .i64 ((rd_T40 l0 x10_1).f0.f3))).setCell ⟨gb106, 4, none⟩ (.int .i64 ((rd_T40 l0 x10_1).f1))).setCell ⟨gb106, 5, none⟩ (.int .i64 ((rd_T40 l0 x10_1).f2))) = w14 at n0_ n1_ ⊢
                      have BK106 := n0_
                      have HB := n1_
                      clear n0_ n1_
                      have n0_ := Aside0.mk (blk_drew BK106.out)
                      have n1_ := Aside0.mk (below_drew1 HB.out)
                      clear BK106
                      clear HB
                      have BK106 := n0_
                      have HB := n1_
                      clear n0_ n1_
                      have p107 : 0 ≤ ((ji10) : Int) := of_decide_eq_true (by first | (with_reducible assumption) | assumption)
                      have q107 : (ji10) < (l0.length : Int) := of_decide_eq_true (by first | (with_reducible assumption) | assumption)
                      obtain ⟨ad107, e107, hx107_0, hx107_1, hx107_2, hx107_3, hx107_4, hx107_5⟩ := at_T40 HR0.out (ji10) p107 q107
                      have hw107_5 := hx107_5
                      have hw107_4 := hx107_4
                      have hw107_3 := hx107_3
                      have hw107_2 := hx107_2
                      have hw107_1 := hx107_1
                      have hw107_0 := hx107_0
                      obtain rfl : ad105 = ad107 := (by injection e107)
                      replace hx107_0 := (HB.out.cell (World.block_lt_of_cell? w _ hx107_0)).trans hx107_0
                      replace hx107_1 := (HB.out.cell (World.block_lt_of_cell? w _ hx107_1)).trans hx107_1
                      replace hx107_2 := (HB.out.cell (World.block_lt_of_cell? w _ hx107_2)).trans hx107_2
                      replace hx107_3 := (HB.out.cell (World.block_lt_of_cell? w _ hx107_3)).trans hx107_3
                      replace hx107_4 := (HB.out.cell (World.block_lt_of_cell? w _ hx107_4)).trans hx107_4
                      replace hx107_5 := (HB.out.cell (World.block_lt_of_cell? w _ hx107_5)).trans hx107_5
                      replace p107 := eq_true p107
                      replace q107 := eq_true q107
                      refine start_ (n := 14) (S := fun w' => w'.cell? ⟨gb106, 0, none⟩ = some (.string ((rd_T40 l0 x10_1).f0.f0)) ∧ w'.cell? ⟨gb106, 1, none⟩ = some (.int .i64 ((rd_T40 l0 x10_1).f0.f1)) ∧ w'.cell? ⟨gb106, 2, none⟩ = some (.int .i64 ((rd_T40 l0 x10_1).f0.f2)) ∧ w'.cell? ⟨gb106, 3, none⟩ = some (.int .i64 ((rd_T40 l0 x10_1).f0.f3)) ∧ w'.cell? ⟨gb106, 4, none⟩ = some (.int .i64 ((rd_T40 l0 x10_1).f1)) ∧ w'.cell? ⟨gb106, 5, none⟩ = some (.int .i64 ((rd_T40 l0 x10_1).f2)) ∧ w'.cell? (ad105.add (((ji10)).toNat * 6)) = some (.string ((rd_T40 l0 (ji10)).f0.f0)) ∧ w'.cell? ⟨(ad105.add (((ji10)).toNat * 6)).block, (ad105.add (((ji10)).toNat * 6)).off + 1, none⟩ = some (.int .i64 ((rd_T40 l0 (ji10)).f0.f1)) ∧ w'.cell? ⟨(ad105.add (((ji10)).toNat * 6)).block, (ad105.add (((ji10)).toNat * 6)).off + 2, none⟩ = some (.int .i64 ((rd_T40 l0 (ji10)).f0.f2)) ∧ w'.cell? ⟨(ad105.add (((ji10)).toNat * 6)).block, (ad105.add (((ji10)).toNat * 6)).off + 3, none⟩ = some (.int .i64 ((rd_T40 l0 (ji10)).f0.f3)) ∧ w'.cell? ⟨(ad105.add (((ji10)).toNat * 6)).block, (ad105.add (((ji10)).toNat * 6)).off + 4, none⟩ = some (.int .i64 ((rd_T40 l0 (ji10)).f1)) ∧ w'.cell? ⟨(ad105.add (((ji10)).toNat * 6)).block, (ad105.add (((ji10)).toNat * 6)).off + 5, none⟩ = some (.int .i64 ((rd_T40 l0 (ji10)).f2))) (ds := []) #[false, false, false, false, false, false, false, false, false, false, false, false, false, false] (by kernel_rfl) rfl rfl ⟨(blk_cell BK106.out 0).trans rfl, (blk_cell BK106.out 1).trans rfl, (blk_cell BK106.out 2).trans rfl, (blk_cell BK106.out 3).trans rfl, (blk_cell BK106.out 4).trans rfl, (blk_cell BK106.out 5).trans rfl, ((HB.out.cell (World.block_lt_of_cell? w _ hw107_0)).trans hw107_0), ((HB.out.cell (World.block_lt_of_cell? w _ hw107_1)).trans hw107_1), ((HB.out.cell (World.block_lt_of_cell? w _ hw107_2)).trans hw107_2), ((HB.out.cell (World.block_lt_of_cell? w _ hw107_3)).trans hw107_3), ((HB.out.cell (World.block_lt_of_cell? w _ hw107_4)).trans hw107_4), ((HB.out.cell (World.block_lt_of_cell? w _ hw107_5)).trans hw107_5)⟩ (fun hHeld => ?_); refine with_tabW position_Check.tab6 position_Check.bits6 (fun HT_ HW_ => ?_)
                      generalize w14.drew = w15 at BK106 HB hx107_0 hx107_1 hx107_2 hx107_3 hx107_4 hx107_5 hHeld ⊢
                      refine pure_ (i := 0) (N := some 15) (v := ?_) (a' := ?_) #[true, false, false, false, false, false, false, false, false, false, false, false, false, false] rfl rfl (any_of HT_.out (by kernel_rfl)) (fun _ _ _ h => h) (Or.inl ⟨by rfl, ?_⟩) ?_ ?_
                      rotate_left
                      · intro w'
                        go_simp
                        with_reducible rfl
                      rotate_left
                      · simp only [Act.put, List.setIfInBounds_toArray, List.set_cons_zero, List.set_cons_succ, i64_w, i32_w]
                        rfl
                      refine pure_ (i := 1) (N := some 16) (v := ?_) (a' := ?_) #[true, true, false, false, false, false, false, false, false, false, false, false, false, false] rfl rfl (any_of HT_.out (by kernel_rfl)) (fun _ _ _ h => h) (Or.inl ⟨by rfl, ?_⟩) ?_ ?_
                      rotate_left
                      · intro w'
                        go_simp
                        with_reducible rfl
                      rotate_left
                      · simp only [Act.put, List.setIfInBounds_toArray, List.set_cons_zero, List.set_cons_succ, i64_w, i32_w]
                        rfl
                      refine pure_ (i := 2) (N := some 17) (v := ?_) (a' := ?_) #[true, true, true, false, false, false, false, false, false, false, false, false, false, false] rfl rfl (any_of HT_.out (by kernel_rfl)) (fun _ _ _ h => h) (Or.inl ⟨by rfl, ?_⟩) ?_ ?_
                      rotate_left
                      · intro w'
                        go_simp
                        with_reducible rfl
                      rotate_left
                      · simp only [Act.put, List.setIfInBounds_toArray, List.set_cons_zero, List.set_cons_succ, i64_w, i32_w]
                        rfl
                      refine pure_ (i := 3) (N := some 18) (v := ?_) (a' := ?_) #[true, true, true, true, false, false, false, false, false, false, false, false, false, false] rfl rfl (any_of HT_.out (by kernel_rfl)) (fun _ _ _ h => h) (Or.inl ⟨by rfl, ?_⟩) ?_ ?_
                      rotate_left
                      · intro w'
                        go_simp
                        with_reducible rfl
                      rotate_left
                      · simp only [Act.put, List.setIfInBounds_toArray, List.set_cons_zero, List.set_cons_succ, i64_w, i32_w]
                        rfl
                      refine pure_ (i := 4) (N := some 19) (v := ?_) (a' := ?_) #[true, true, true, true, true, false, false, false, false, false, false, false, false, false] rfl rfl (any_of HT_.out (by kernel_rfl)) (fun _ _ _ h => h) (Or.inl ⟨by rfl, ?_⟩) ?_ ?_
                      rotate_left
                      · intro w'
                        go_simp
                        with_reducible rfl
                      rotate_left
                      · simp only [Act.put, List.setIfInBounds_toArray, List.set_cons_zero, List.set_cons_succ, i64_w, i32_w]
                        rfl
                      refine pure_ (i := 5) (N := some 20) (v := ?_) (a' := ?_) #[true, true, true, true, true, true, false, false, false, false, false, false, false, false] rfl rfl (any_of HT_.out (by kernel_rfl)) (fun _ _ _ h => h) (Or.inl ⟨by rfl, ?_⟩) ?_ ?_
                      rotate_left
                      · intro w'
                        go_simp
                        with_reducible rfl
                      rotate_left
                      · simp only [Act.put, List.setIfInBounds_toArray, List.set_cons_zero, List.set_cons_succ, i64_w, i32_w]
                        rfl
                      refine pure_ (i := 6) (N := some 21) (v := ?_) (a' := ?_) #[true, true, true, true, true, true, true, false, false, false, false, false, false, false] rfl rfl (any_of HT_.out (by kernel_rfl)) (fun _ _ _ h => h) (Or.inl ⟨by rfl, ?_⟩) ?_ ?_
                      rotate_left
                      · intro w'
                        go_simp
                        with_reducible rfl
                      rotate_left
                      · simp only [Act.put, List.setIfInBounds_toArray, List.set_cons_zero, List.set_cons_succ, i64_w, i32_w]
                        rfl
                      refine pure_ (i := 7) (N := some 22) (v := ?_) (a' := ?_) #[true, true, true, true, true, true, true, true, false, false, false, false, false, false] rfl rfl (any_of HT_.out (by kernel_rfl)) (fun _ _ _ h => h) (Or.inl ⟨by rfl, ?_⟩) ?_ ?_
                      rotate_left
                      · intro w'
                        go_simp
                        with_reducible rfl
                      rotate_left
                      · simp only [Act.put, List.setIfInBounds_toArray, List.set_cons_zero, List.set_cons_succ, i64_w, i32_w]
                        rfl
                      refine pure_ (i := 9) (N := some 24) (v := ?_) (a' := ?_) #[true, true, true, true, true, true, true, true, false, true, false, false, false, false] rfl rfl (any_of HT_.out (by kernel_rfl)) (fun _ _ _ h => h) (Or.inl ⟨by rfl, ?_⟩) ?_ ?_
                      rotate_left
                      · intro w'
                        go_simp
                        with_reducible rfl
                      rotate_left
                      · simp only [Act.put, List.setIfInBounds_toArray, List.set_cons_zero, List.set_cons_succ, i64_w, i32_w]
                        rfl
                      refine take_ (i := 8) (N := some 23) (v := ?_) (a' := ?_) #[true, true, true, true, true, true, true, true, true, true, false, false, false, false] rfl rfl (take_ofW HT_.out HW_.out (by kernel_rfl)) (fun _ _ _ h => h) (Or.inl ⟨by rfl, ?_⟩) hHeld ?_ ?_
                      rotate_left
                      · rintro w' ⟨s0, s1, s2, s3, s4, s5, s6, s7, s8, s9, s10, s11⟩
                        go_simp
                        with_reducible rfl
                      rotate_left
                      · simp only [Act.put, List.setIfInBounds_toArray, List.set_cons_zero, List.set_cons_succ, i64_w, i32_w]
                        rfl
                      refine take_ (i := 10) (N := some 25) (v := ?_) (a' := ?_) #[true, true, true, true, true, true, true, true, true, true, true, false, false, false] rfl rfl (take_ofW HT_.out HW_.out (by kernel_rfl)) (fun _ _ _ h => h) (Or.inl ⟨by rfl, ?_⟩) hHeld ?_ ?_
                      rotate_left
                      · rintro w' ⟨s0, s1, s2, s3, s4, s5, s6, s7, s8, s9, s10, s11⟩
                        go_simp
                        with_reducible rfl
                      rotate_left
                      · simp only [Act.put, List.setIfInBounds_toArray, List.set_cons_zero, List.set_cons_succ, i64_w, i32_w]
                        rfl
                      refine one_ (i := 11) (N := some 26) #[true, true, true, true, true, true, true, true, true, true, true, true, false, false] rfl rfl (one_of HT_.out (by kernel_rfl)) (by decide) (fun K hK => ?_)
                      refine goes_ Try.func60 (by kernel_rfl) rfl #[.agg #[.string ((rd_T40 l0 (ji10)).f0.f0), .int .i64 ((rd_T40 l0 (ji10)).f0.f1), .int .i64 ((rd_T40 l0 (ji10)).f0.f2), .int .i64 ((rd_T40 l0 (ji10)).f0.f3)], .agg #[.string ((rd_T40 l0 x10_1).f0.f0), .int .i64 ((rd_T40 l0 x10_1).f0.f1), .int .i64 ((rd_T40 l0 x10_1).f0.f2), .int .i64 ((rd_T40 l0 x10_1).f0.f3)]] (by rfl) rfl rfl (by (try simp only [List.map_toArray, List.map_cons, List.map_nil]); first | done | (simp only [hji10]; rfl) | rfl | (simp only [List.length_drop, List.length_take]; rfl)) ?_
                      with_reducible refine (series_Compare.calls ((rd_T40 l0 (ji10)).f0.f0) ((rd_T40 l0 (ji10)).f0.f1) ((rd_T40 l0 (ji10)).f0.f2) ((rd_T40 l0 (ji10)).f0.f3) ((rd_T40 l0 x10_1).f0.f0) ((rd_T40 l0 x10_1).f0.f1) ((rd_T40 l0 x10_1).f0.f2) ((rd_T40 l0 x10_1).f0.f3) t108 _ A13.out).mono ?_
                      rintro e w16 ⟨rfl, hb⟩
                      refine ⟨_, rfl, ?_⟩
                      have n0_ := Aside0.mk (blk_below (g := gb106) (o := .cells #[.string ((rd_T40 l0 x10_1).f0.f0), .int .i64 ((rd_T40 l0 x10_1).f0.f1), .int .i64 ((rd_T40 l0 x10_1).f0.f2), .int .i64 ((rd_T40 l0 x10_1).f0.f3), .int .i64 ((rd_T40 l0 x10_1).f1), .int .i64 ((rd_T40 l0 x10_1).f2)] 40 (0, 0)) (by (with_reducible repeat (first | refine blk_drewN ?_ _ | refine blk_drew ?_ | refine blk_alloc ?_ _)); exact BK106.out) hb)
                      have n1_ := Aside0.mk (below_step (by repeat (first | (with_reducible first | exact HB.out | apply below_alloc | apply pw_below_drewN | apply below_drew1 | refine below_set ?_ GE106.out) | exact HB.out)) hb)
                      clear BK106
                      clear HB
                      have BK106 := n0_
                      have HB := n1_
                      clear n0_ n1_
                      (try clear hb)
                      (try clear hb2)
                      (try clear hk)
                      (try clear hi)
                      refine hK.out _ _ ⟨(blk_cell BK106.out 0).trans rfl, (blk_cell BK106.out 1).trans rfl, (blk_cell BK106.out 2).trans rfl, (blk_cell BK106.out 3).trans rfl, (blk_cell BK106.out 4).trans rfl, (blk_cell BK106.out 5).trans rfl, ((HB.out.cell (World.block_lt_of_cell? w _ hw107_0)).trans hw107_0), ((HB.out.cell (World.block_lt_of_cell? w _ hw107_1)).trans hw107_1), ((HB.out.cell (World.block_lt_of_cell? w _ hw107_2)).trans hw107_2), ((HB.out.cell (World.block_lt_of_cell? w _ hw107_3)).trans hw107_3), ((HB.out.cell (World.block_lt_of_cell? w _ hw107_4)).trans hw107_4), ((HB.out.cell (World.block_lt_of_cell? w _ hw107_5)).trans hw107_5)⟩ (fun hHeld => ?_)
                      clear hK K
                      refine norm_ (a' := ?_) ?_ ?_
                      rotate_left
                      · show Act.put _ (some 26) _ = _
                        simp only [Act.put, List.setIfInBounds_toArray, List.set_cons_zero, List.set_cons_succ, i64_w, i32_w]
                        rfl
                      refine pure_ (i := 12) (N := some 27) (v := ?_) (a' := ?_) #[true, true, true, true, true, true, true, true, true, true, true, true, true, false] rfl rfl (any_of HT_.out (by kernel_rfl)) (fun _ _ _ h => h) (Or.inl ⟨by rfl, ?_⟩) ?_ ?_
                      rotate_left
                      · intro w'
                        go_simp
                        with_reducible rfl
                      rotate_left
                      · simp only [Act.put, List.setIfInBounds_toArray, List.set_cons_zero, List.set_cons_succ, i64_w, i32_w]
                        rfl
                      refine pure_ (i := 13) (N := some 28) (v := ?_) (a' := ?_) #[true, true, true, true, true, true, true, true, true, true, true, true, true, true] rfl rfl (any_of HT_.out (by kernel_rfl)) (fun _ _ _ h => h) (Or.inl ⟨by rfl, ?_⟩) ?_ ?_
                      rotate_left
                      · intro w'
                        go_simp
                        with_reducible rfl
                      rotate_left
                      · simp only [Act.put, List.setIfInBounds_toArray, List.set_cons_zero, List.set_cons_succ, i64_w, i32_w]
                        rfl
                      refine done_ (done_of HT_.out (by kernel_rfl)) ?_
                      try go_wp2
                      go_meet
                      case rel => exact ⟨_, (decide (t108 ≥ 0)), (by first | rfl | (simp; done) | (simp [*]; done)), H', ⟨by have := HK1.out; first | omega | exact Nat.le_refl _⟩, ⟨by (with_reducible repeat (first | refine blk_drewN ?_ _ | refine blk_drew ?_ | refine blk_alloc ?_ _)); exact BK106.out⟩, ⟨by repeat (first | (with_reducible first | exact HB.out | apply below_alloc | apply pw_below_drewN | apply below_drew1 | refine below_set ?_ GE106.out) | exact HB.out)⟩⟩
                    · rw [if_neg c12] at H
                      exact absurd H (by simp)
                  · rw [if_neg c11] at H
                    exact absurd H (by simp)
                · rw [if_neg c9] at H
                  have c9b0 : decide (0 < x10_1) = false := decide_eq_false c9
                  clear c9
                  (first | rw [c9b0] | (simp only [i64_w, i32_w]; rw [c9b0]) | skip)
                  have H' := Aside0.mk H
                  clear H
                  try go_wp2
                  have n0_ : Aside0 (((((((w7.setCell ⟨gb106, 0, none⟩ (.string ((rd_T40 l0 x10_1).f0.f0))).setCell ⟨gb106, 1, none⟩ (.int .i64 ((rd_T40 l0 x10_1).f0.f1))).setCell ⟨gb106, 2, none⟩ (.int .i64 ((rd_T40 l0 x10_1).f0.f2))).setCell ⟨gb106, 3, none⟩ (.int .i64 ((rd_T40 l0 x10_1).f0.f3))).setCell ⟨gb106, 4, none⟩ (.int .i64 ((rd_T40 l0 x10_1).f1))).setCell ⟨gb106, 5, none⟩ (.int .i64 ((rd_T40 l0 x10_1).f2))).heap[gb106]? = some (.cells #[.string ((rd_T40 l0 x10_1).f0.f0), .int .i64 ((rd_T40 l0 x10_1).f0.f1), .int .i64 ((rd_T40 l0 x10_1).f0.f2), .int .i64 ((rd_T40 l0 x10_1).f0.f3), .int .i64 ((rd_T40 l0 x10_1).f1), .int .i64 ((rd_T40 l0 x10_1).f2)] 40 (0, 0))) := ⟨by (with_reducible repeat (first | refine blk_drewN ?_ _ | refine blk_drew ?_ | refine blk_alloc ?_ _)); refine blk_put (cs := #[.string ((rd_T40 l0 x10_1).f0.f0), .int .i64 ((rd_T40 l0 x10_1).f0.f1), .int .i64 ((rd_T40 l0 x10_1).f0.f2), .int .i64 ((rd_T40 l0 x10_1).f0.f3), .int .i64 ((rd_T40 l0 x10_1).f1), .int .i64 0]) ?_ 5 _ rfl; (with_reducible repeat (first | refine blk_drewN ?_ _ | refine blk_drew ?_ | refine blk_alloc ?_ _)); refine blk_put (cs := #[.string ((rd_T40 l0 x10_1).f0.f0), .int .i64 ((rd_T40 l0 x10_1).f0.f1), .int .i64 ((rd_T40 l0 x10_1).f0.f2), .int .i64 ((rd_T40 l0 x10_1).f0.f3), .int .i64 0, .int .i64 0]) ?_ 4 _ rfl; (with_reducible repeat (first | refine blk_drewN ?_ _ | refine blk_drew ?_ | refine blk_alloc ?_ _)); refine blk_put (cs := #[.string ((rd_T40 l0 x10_1).f0.f0), .int .i64 ((rd_T40 l0 x10_1).f0.f1), .int .i64 ((rd_T40 l0 x10_1).f0.f2), .int .i64 0, .int .i64 0, .int .i64 0]) ?_ 3 _ rfl; (with_reducible repeat (first | refine blk_drewN ?_ _ | refine blk_drew ?_ | refine blk_alloc ?_ _)); refine blk_put (cs := #[.string ((rd_T40 l0 x10_1).f0.f0), .int .i64 ((rd_T40 l0 x10_1).f0.f1), .int .i64 0, .int .i64 0, .int .i64 0, .int .i64 0]) ?_ 2 _ rfl; (with_reducible repeat (first | refine blk_drewN ?_ _ | refine blk_drew ?_ | refine blk_alloc ?_ _)); refine blk_put (cs := #[.string ((rd_T40 l0 x10_1).f0.f0), .int .i64 0, .int .i64 0, .int .i64 0, .int .i64 0, .int .i64 0]) ?_ 1 _ rfl; (with_reducible repeat (first | refine blk_drewN ?_ _ | refine blk_drew ?_ | refine blk_alloc ?_ _)); refine blk_put (cs := #[.string (⟨#[]⟩ : ByteArray), .int .i64 0, .int .i64 0, .int .i64 0, .int .i64 0, .int .i64 0]) ?_ 0 _ rfl; (with_reducible repeat (first | refine blk_drewN ?_ _ | refine blk_drew ?_ | refine blk_alloc ?_ _)); exact BK106.out⟩
                  have n1_ : Aside0 (Below w.heap.size w ((((((w7.setCell ⟨gb106, 0, none⟩ (.string ((rd_T40 l0 x10_1).f0.f0))).setCell ⟨gb106, 1, none⟩ (.int .i64 ((rd_T40 l0 x10_1).f0.f1))).setCell ⟨gb106, 2, none⟩ (.int .i64 ((rd_T40 l0 x10_1).f0.f2))).setCell ⟨gb106, 3, none⟩ (.int .i64 ((rd_T40 l0 x10_1).f0.f3))).setCell ⟨gb106, 4, none⟩ (.int .i64 ((rd_T40 l0 x10_1).f1))).setCell ⟨gb106, 5, none⟩ (.int .i64 ((rd_T40 l0 x10_1).f2)))) := ⟨by repeat (first | (with_reducible first | exact HB.out | apply below_alloc | apply pw_below_drewN | apply below_drew1 | refine below_set ?_ GE106.out) | exact HB.out)⟩
                  (try clear BK106)
                  (try clear HB)
                  generalize ((((((w7.setCell ⟨gb106, 0, none⟩ (.string ((rd_T40 l0 x10_1).f0.f0))).setCell ⟨gb106, 1, none⟩ (.int .i64 ((rd_T40 l0 x10_1).f0.f1))).setCell ⟨gb106, 2, none⟩ (.int .i64 ((rd_T40 l0 x10_1).f0.f2))).setCell ⟨gb106, 3, none⟩ (.int .i64 ((rd_T40 l0 x10_1).f0.f3))).setCell ⟨gb106, 4, none⟩ (.int .i64 ((rd_T40 l0 x10_1).f1))).setCell ⟨gb106, 5, none⟩ (.int .i64 ((rd_T40 l0 x10_1).f2))) = w17 at n0_ n1_ ⊢
                  have BK106 := n0_
                  have HB := n1_
                  clear n0_ n1_
                  have n0_ := Aside0.mk (blk_drew BK106.out)
                  have n1_ := Aside0.mk (below_drew1 HB.out)
                  clear BK106
                  clear HB
                  have BK106 := n0_
                  have HB := n1_
                  clear n0_ n1_
                  refine start_ (n := 14) (S := fun w' => True) (ds := []) #[false, false, false, false, false, false, false, false, false, false, false, false, false, false] (by kernel_rfl) rfl rfl trivial (fun hHeld => ?_); refine with_tabW position_Check.tab6 position_Check.bits6 (fun HT_ HW_ => ?_)
                  generalize w17.drew = w18 at BK106 HB hHeld ⊢
                  refine pure_ (i := 0) (N := some 15) (v := ?_) (a' := ?_) #[true, false, false, false, false, false, false, false, false, false, false, false, false, false] rfl rfl (any_of HT_.out (by kernel_rfl)) (fun _ _ _ h => h) (Or.inl ⟨by rfl, ?_⟩) ?_ ?_
                  rotate_left
                  · intro w'
                    go_simp
                    with_reducible rfl
                  rotate_left
                  · simp only [Act.put, List.setIfInBounds_toArray, List.set_cons_zero, List.set_cons_succ, i64_w, i32_w]
                    rfl
                  refine pure_ (i := 1) (N := some 16) (v := ?_) (a' := ?_) #[true, true, false, false, false, false, false, false, false, false, false, false, false, false] rfl rfl (any_of HT_.out (by kernel_rfl)) (fun _ _ _ h => h) (Or.inl ⟨by rfl, ?_⟩) ?_ ?_
                  rotate_left
                  · intro w'
                    go_simp
                    with_reducible rfl
                  rotate_left
                  · simp only [Act.put, List.setIfInBounds_toArray, List.set_cons_zero, List.set_cons_succ, i64_w, i32_w]
                    rfl
                  refine pure_ (i := 2) (N := some 17) (v := ?_) (a' := ?_) #[true, true, true, false, false, false, false, false, false, false, false, false, false, false] rfl rfl (any_of HT_.out (by kernel_rfl)) (fun _ _ _ h => h) (Or.inl ⟨by rfl, ?_⟩) ?_ ?_
                  rotate_left
                  · intro w'
                    go_simp
                    with_reducible rfl
                  rotate_left
                  · simp only [Act.put, List.setIfInBounds_toArray, List.set_cons_zero, List.set_cons_succ, i64_w, i32_w]
                    rfl
                  refine pure_ (i := 3) (N := some 18) (v := undef) (a' := ?_) #[true, true, true, true, false, false, false, false, false, false, false, false, false, false] rfl rfl (any_of HT_.out (by kernel_rfl)) (fun _ _ _ h => h) (Or.inr ⟨by rfl, rfl⟩) ?_ ?_
                  rotate_left
                  · simp only [Act.put, List.setIfInBounds_toArray, List.set_cons_zero, List.set_cons_succ, i64_w, i32_w]
                    rfl
                  refine pure_ (i := 4) (N := some 19) (v := undef) (a' := ?_) #[true, true, true, true, true, false, false, false, false, false, false, false, false, false] rfl rfl (any_of HT_.out (by kernel_rfl)) (fun _ _ _ h => h) (Or.inr ⟨by rfl, rfl⟩) ?_ ?_
                  rotate_left
                  · simp only [Act.put, List.setIfInBounds_toArray, List.set_cons_zero, List.set_cons_succ, i64_w, i32_w]
                    rfl
                  refine pure_ (i := 5) (N := some 20) (v := undef) (a' := ?_) #[true, true, true, true, true, true, false, false, false, false, false, false, false, false] rfl rfl (any_of HT_.out (by kernel_rfl)) (fun _ _ _ h => h) (Or.inr ⟨by rfl, rfl⟩) ?_ ?_
                  rotate_left
                  · simp only [Act.put, List.setIfInBounds_toArray, List.set_cons_zero, List.set_cons_succ, i64_w, i32_w]
                    rfl
                  refine pure_ (i := 6) (N := some 21) (v := undef) (a' := ?_) #[true, true, true, true, true, true, true, false, false, false, false, false, false, false] rfl rfl (any_of HT_.out (by kernel_rfl)) (fun _ _ _ h => h) (Or.inr ⟨by rfl, rfl⟩) ?_ ?_
                  rotate_left
                  · simp only [Act.put, List.setIfInBounds_toArray, List.set_cons_zero, List.set_cons_succ, i64_w, i32_w]
                    rfl
                  refine pure_ (i := 7) (N := some 22) (v := undef) (a' := ?_) #[true, true, true, true, true, true, true, true, false, false, false, false, false, false] rfl rfl (any_of HT_.out (by kernel_rfl)) (fun _ _ _ h => h) (Or.inr ⟨by rfl, rfl⟩) ?_ ?_
                  rotate_left
                  · simp only [Act.put, List.setIfInBounds_toArray, List.set_cons_zero, List.set_cons_succ, i64_w, i32_w]
                    rfl
                  refine pure_ (i := 8) (N := some 23) (v := undef) (a' := ?_) #[true, true, true, true, true, true, true, true, true, false, false, false, false, false] rfl rfl (any_of HT_.out (by kernel_rfl)) (fun _ _ _ h => h) (Or.inr ⟨by rfl, rfl⟩) ?_ ?_
                  rotate_left
                  · simp only [Act.put, List.setIfInBounds_toArray, List.set_cons_zero, List.set_cons_succ, i64_w, i32_w]
                    rfl
                  refine pure_ (i := 9) (N := some 24) (v := undef) (a' := ?_) #[true, true, true, true, true, true, true, true, true, true, false, false, false, false] rfl rfl (any_of HT_.out (by kernel_rfl)) (fun _ _ _ h => h) (Or.inr ⟨by rfl, rfl⟩) ?_ ?_
                  rotate_left
                  · simp only [Act.put, List.setIfInBounds_toArray, List.set_cons_zero, List.set_cons_succ, i64_w, i32_w]
                    rfl
                  refine pure_ (i := 10) (N := some 25) (v := undef) (a' := ?_) #[true, true, true, true, true, true, true, true, true, true, true, false, false, false] rfl rfl (any_of HT_.out (by kernel_rfl)) (fun _ _ _ h => h) (Or.inr ⟨by rfl, rfl⟩) ?_ ?_
                  rotate_left
                  · simp only [Act.put, List.setIfInBounds_toArray, List.set_cons_zero, List.set_cons_succ, i64_w, i32_w]
                    rfl
                  refine pure_ (i := 11) (N := some 26) (v := undef) (a' := ?_) #[true, true, true, true, true, true, true, true, true, true, true, true, false, false] rfl rfl (any_of HT_.out (by kernel_rfl)) (fun _ _ _ h => h) (Or.inr ⟨by rfl, rfl⟩) ?_ ?_
                  rotate_left
                  · simp only [Act.put, List.setIfInBounds_toArray, List.set_cons_zero, List.set_cons_succ, i64_w, i32_w]
                    rfl
                  refine pure_ (i := 12) (N := some 27) (v := undef) (a' := ?_) #[true, true, true, true, true, true, true, true, true, true, true, true, true, false] rfl rfl (any_of HT_.out (by kernel_rfl)) (fun _ _ _ h => h) (Or.inr ⟨by rfl, rfl⟩) ?_ ?_
                  rotate_left
                  · simp only [Act.put, List.setIfInBounds_toArray, List.set_cons_zero, List.set_cons_succ, i64_w, i32_w]
                    rfl
                  refine pure_ (i := 13) (N := some 28) (v := ?_) (a' := ?_) #[true, true, true, true, true, true, true, true, true, true, true, true, true, true] rfl rfl (any_of HT_.out (by kernel_rfl)) (fun _ _ _ h => h) (Or.inl ⟨by rfl, ?_⟩) ?_ ?_
                  rotate_left
                  · intro w'
                    go_simp
                    with_reducible rfl
                  rotate_left
                  · simp only [Act.put, List.setIfInBounds_toArray, List.set_cons_zero, List.set_cons_succ, i64_w, i32_w]
                    rfl
                  refine done_ (done_of HT_.out (by kernel_rfl)) ?_
                  try go_wp2
                  go_meet
                  case rel => exact ⟨_, (false), (by first | rfl | (simp; done) | (simp [*]; done)), H', ⟨by have := HK1.out; first | omega | exact Nat.le_refl _⟩, ⟨by (with_reducible repeat (first | refine blk_drewN ?_ _ | refine blk_drew ?_ | refine blk_alloc ?_ _)); exact BK106.out⟩, ⟨by repeat (first | (with_reducible first | exact HB.out | apply below_alloc | apply pw_below_drewN | apply below_drew1 | refine below_set ?_ GE106.out) | exact HB.out)⟩⟩
              case rest =>
                clear HC6
                try clear c1
                try clear p1
                try clear q1
                try clear hx1
                try clear c2
                try clear c2b0
                try clear c2b1
                try clear p2
                try clear c3
                try clear c3b0
                try clear c4
                try clear c4b0
                try clear c5
                try clear c5b0
                try clear c6
                try clear p6
                try clear c9
                try clear c9b0
                try clear p10
                try clear q10
                try clear hx10
                try clear c11
                try clear c11b0
                try clear c12
                try clear c12b0
                try clear hcz8_0
                try clear hcz8_1
                try clear hcz8_2
                try clear hcz8_3
                try clear hcz8_4
                try clear hcz8_5
                try clear hfz8_0
                try clear hfz8_1
                try clear hfz8_2
                try clear hfz8_3
                try clear hfz8_4
                try clear hfz8_5
                try clear hx105_0
                try clear hx105_1
                try clear hx105_2
                try clear hx105_3
                try clear hx105_4
                try clear hx105_5
                try clear hx107_0
                try clear hx107_1
                try clear hx107_2
                try clear hx107_3
                try clear hx107_4
                try clear hx107_5
                try clear p105
                try clear p107
                try clear p2
                try clear q105
                try clear q107
                obtain ⟨kq, x28_5, rfl, HA, HJ5, BK106, HB⟩ := hcut
                cases kq with
                | zero => exact absurd HA.out (by simp [position_Check.j1])
                | succ kj5 =>
                  have H := HA.out
                  clear HA
                  simp only [position_Check.j1] at H
                  by_cases c19 : x28_5 = true
                  · subst c19
                    have H1 : (some 19) = some r := by rw [if_pos rfl] at H; exact H
                    clear H
                    have H := H1
                    clear H1
                    obtain rfl := Option.some.inj H
                    go_wp2
                    go_ret
                    exact ⟨by first | rfl | (simp [errW_none, errW_some] <;> rfl) | (simp [*, errW_none, errW_some] <;> rfl), by repeat (first | (with_reducible first | exact HB.out | apply below_alloc | apply pw_below_drewN | apply below_drew1 | refine below_set ?_ GE106.out) | exact HB.out)⟩
                  · replace c19 := Bool.eq_false_iff.mpr c19
                    subst c19
                    have H1 : ((position_lots.f ((rd_T40 l0 x10_1).f1)).bind fun t109 => (if t109 = true then ((position_lots.f ((rd_T40 l0 x10_1).f2)).bind fun t110 => (if t110 = true then (if ((rd_T40 l0 x10_1).f1) = 0 then (if ((rd_T40 l0 x10_1).f2) = 0 then (some 18) else (position_Check.l0 kj5 l0 l0 (l0.length : Int) (wrap64 (x10_1 + 1)))) else (position_Check.l0 kj5 l0 l0 (l0.length : Int) (wrap64 (x10_1 + 1)))) else (some 18))) else (some 18))) = some r := by rw [if_neg (show ¬ (false = true) by decide)] at H; exact H
                    clear H
                    have H := H1
                    clear H1
                    replace H := Option.bind_eq_some_iff.mp H
                    obtain ⟨t109, A200, H⟩ := H
                    replace H : (if t109 = true then ((position_lots.f ((rd_T40 l0 x10_1).f2)).bind fun t110 => (if t110 = true then (if ((rd_T40 l0 x10_1).f1) = 0 then (if ((rd_T40 l0 x10_1).f2) = 0 then (some 18) else (position_Check.l0 kj5 l0 l0 (l0.length : Int) (wrap64 (x10_1 + 1)))) else (position_Check.l0 kj5 l0 l0 (l0.length : Int) (wrap64 (x10_1 + 1)))) else (some 18))) else (some 18)) = some r := H
                    have A20 := Aside0.mk A200
                    clear A200
                    by_cases c21 : t109 = true
                    · subst c21
                      have H1 : ((position_lots.f ((rd_T40 l0 x10_1).f2)).bind fun t110 => (if t110 = true then (if ((rd_T40 l0 x10_1).f1) = 0 then (if ((rd_T40 l0 x10_1).f2) = 0 then (some 18) else (position_Check.l0 kj5 l0 l0 (l0.length : Int) (wrap64 (x10_1 + 1)))) else (position_Check.l0 kj5 l0 l0 (l0.length : Int) (wrap64 (x10_1 + 1)))) else (some 18))) = some r := by rw [if_pos rfl] at H; exact H
                      clear H
                      have H := H1
                      clear H1
                      replace H := Option.bind_eq_some_iff.mp H
                      obtain ⟨t110, A220, H⟩ := H
                      replace H : (if t110 = true then (if ((rd_T40 l0 x10_1).f1) = 0 then (if ((rd_T40 l0 x10_1).f2) = 0 then (some 18) else (position_Check.l0 kj5 l0 l0 (l0.length : Int) (wrap64 (x10_1 + 1)))) else (position_Check.l0 kj5 l0 l0 (l0.length : Int) (wrap64 (x10_1 + 1)))) else (some 18)) = some r := H
                      have A22 := Aside0.mk A220
                      clear A220
                      by_cases c23 : t110 = true
                      · subst c23
                        have H1 : (if ((rd_T40 l0 x10_1).f1) = 0 then (if ((rd_T40 l0 x10_1).f2) = 0 then (some 18) else (position_Check.l0 kj5 l0 l0 (l0.length : Int) (wrap64 (x10_1 + 1)))) else (position_Check.l0 kj5 l0 l0 (l0.length : Int) (wrap64 (x10_1 + 1)))) = some r := by rw [if_pos rfl] at H; exact H
                        clear H
                        have H := H1
                        clear H1
                        by_cases c24 : ((rd_T40 l0 x10_1).f1) = 0
                        · rw [if_pos c24] at H
                          have c24b0 : (((rd_T40 l0 x10_1).f1) == 0) = true := beq_iff_eq.mpr c24
                          have c24b1 : (((rd_T40 l0 x10_1).f1) != 0) = false := bne_eq_false_iff_eq.mpr c24
                          clear c24
                          by_cases c25 : ((rd_T40 l0 x10_1).f2) = 0
                          · rw [if_pos c25] at H
                            have c25b0 : (((rd_T40 l0 x10_1).f2) == 0) = true := beq_iff_eq.mpr c25
                            have c25b1 : (((rd_T40 l0 x10_1).f2) != 0) = false := bne_eq_false_iff_eq.mpr c25
                            clear c25
                            obtain rfl := Option.some.inj H
                            have hcz26_0 : wc.cell? ⟨gb106, 0, none⟩ = some (.string ((rd_T40 l0 x10_1).f0.f0)) := (blk_cell BK106.out 0).trans rfl
                            have hcz26_1 : wc.cell? ⟨gb106, 1, none⟩ = some (.int .i64 ((rd_T40 l0 x10_1).f0.f1)) := (blk_cell BK106.out 1).trans rfl
                            have hcz26_2 : wc.cell? ⟨gb106, 2, none⟩ = some (.int .i64 ((rd_T40 l0 x10_1).f0.f2)) := (blk_cell BK106.out 2).trans rfl
                            have hcz26_3 : wc.cell? ⟨gb106, 3, none⟩ = some (.int .i64 ((rd_T40 l0 x10_1).f0.f3)) := (blk_cell BK106.out 3).trans rfl
                            have hcz26_4 : wc.cell? ⟨gb106, 4, none⟩ = some (.int .i64 ((rd_T40 l0 x10_1).f1)) := (blk_cell BK106.out 4).trans rfl
                            have hcz26_5 : wc.cell? ⟨gb106, 5, none⟩ = some (.int .i64 ((rd_T40 l0 x10_1).f2)) := (blk_cell BK106.out 5).trans rfl
                            have hfz26_0 := blk_frozen BK106.out 0
                            have hfz26_1 := blk_frozen BK106.out 1
                            have hfz26_2 := blk_frozen BK106.out 2
                            have hfz26_3 := blk_frozen BK106.out 3
                            have hfz26_4 := blk_frozen BK106.out 4
                            have hfz26_5 := blk_frozen BK106.out 5
                            go_wp2_with (first | ((with_reducible refine gate_callee (f := 61) rfl ?_); refine goesL_ (some 31) rfl rfl Try.func61 (by kernel_rfl) rfl #[.int .i64 ((rd_T40 l0 x10_1).f1)] rfl (by (try simp only [List.map_toArray, List.map_cons, List.map_nil]); first | done | rfl | (simp only [List.length_drop, List.length_take]; rfl)) ?_; (with_reducible refine (position_lots.calls ((rd_T40 l0 x10_1).f1) true _ A20.out).mono ?_); rintro e w' ⟨rfl, ⟨nd, rfl⟩⟩; refine ⟨_, rfl, ?_⟩) | (go_at_call 61; (with_reducible refine (position_lots.calls ((rd_T40 l0 x10_1).f2) true _ A22.out).mono ?_); rintro e w' ⟨rfl, ⟨nd, rfl⟩⟩))
                            go_ret
                            exact ⟨by first | rfl | (simp [errW_none, errW_some] <;> rfl) | (simp [*, errW_none, errW_some] <;> rfl), by repeat (first | (with_reducible first | exact HB.out | apply below_alloc | apply pw_below_drewN | apply below_drew1 | refine below_set ?_ GE106.out) | exact HB.out)⟩
                          · rw [if_neg c25] at H
                            have c25b0 : (((rd_T40 l0 x10_1).f2) == 0) = false := beq_eq_false_iff_ne.mpr c25
                            have c25b1 : (((rd_T40 l0 x10_1).f2) != 0) = true := bne_iff_ne.mpr c25
                            have H' := Aside0.mk H
                            clear H
                            have hcz27_0 : wc.cell? ⟨gb106, 0, none⟩ = some (.string ((rd_T40 l0 x10_1).f0.f0)) := (blk_cell BK106.out 0).trans rfl
                            have hcz27_1 : wc.cell? ⟨gb106, 1, none⟩ = some (.int .i64 ((rd_T40 l0 x10_1).f0.f1)) := (blk_cell BK106.out 1).trans rfl
                            have hcz27_2 : wc.cell? ⟨gb106, 2, none⟩ = some (.int .i64 ((rd_T40 l0 x10_1).f0.f2)) := (blk_cell BK106.out 2).trans rfl
                            have hcz27_3 : wc.cell? ⟨gb106, 3, none⟩ = some (.int .i64 ((rd_T40 l0 x10_1).f0.f3)) := (blk_cell BK106.out 3).trans rfl
                            have hcz27_4 : wc.cell? ⟨gb106, 4, none⟩ = some (.int .i64 ((rd_T40 l0 x10_1).f1)) := (blk_cell BK106.out 4).trans rfl
                            have hcz27_5 : wc.cell? ⟨gb106, 5, none⟩ = some (.int .i64 ((rd_T40 l0 x10_1).f2)) := (blk_cell BK106.out 5).trans rfl
                            have hfz27_0 := blk_frozen BK106.out 0
                            have hfz27_1 := blk_frozen BK106.out 1
                            have hfz27_2 := blk_frozen BK106.out 2
                            have hfz27_3 := blk_frozen BK106.out 3
                            have hfz27_4 := blk_frozen BK106.out 4
                            have hfz27_5 := blk_frozen BK106.out 5
                            go_wp2_with (first | ((with_reducible refine gate_callee (f := 61) rfl ?_); refine goesL_ (some 31) rfl rfl Try.func61 (by kernel_rfl) rfl #[.int .i64 ((rd_T40 l0 x10_1).f1)] rfl (by (try simp only [List.map_toArray, List.map_cons, List.map_nil]); first | done | rfl | (simp only [List.length_drop, List.length_take]; rfl)) ?_; (with_reducible refine (position_lots.calls ((rd_T40 l0 x10_1).f1) true _ A20.out).mono ?_); rintro e w' ⟨rfl, ⟨nd, rfl⟩⟩; refine ⟨_, rfl, ?_⟩) | (go_at_call 61; (with_reducible refine (position_lots.calls ((rd_T40 l0 x10_1).f2) true _ A22.out).mono ?_); rintro e w' ⟨rfl, ⟨nd, rfl⟩⟩))
                            go_roundg kj5
                            case measure => have := HK1.out; have := HJ5.out; omega
                            case rel => exact ⟨(wrap64 (x10_1 + 1)), (by first | rfl | (simp; done) | (simp [*]; done)), H', ⟨by have := HK1.out; have := HJ5.out; omega⟩, ⟨by repeat (first | (with_reducible first | exact HB.out | apply below_alloc | apply pw_below_drewN | apply below_drew1 | refine below_set ?_ GE106.out) | exact HB.out)⟩⟩
                        · rw [if_neg c24] at H
                          have c24b0 : (((rd_T40 l0 x10_1).f1) == 0) = false := beq_eq_false_iff_ne.mpr c24
                          have c24b1 : (((rd_T40 l0 x10_1).f1) != 0) = true := bne_iff_ne.mpr c24
                          have H' := Aside0.mk H
                          clear H
                          have hcz28_0 : wc.cell? ⟨gb106, 0, none⟩ = some (.string ((rd_T40 l0 x10_1).f0.f0)) := (blk_cell BK106.out 0).trans rfl
                          have hcz28_1 : wc.cell? ⟨gb106, 1, none⟩ = some (.int .i64 ((rd_T40 l0 x10_1).f0.f1)) := (blk_cell BK106.out 1).trans rfl
                          have hcz28_2 : wc.cell? ⟨gb106, 2, none⟩ = some (.int .i64 ((rd_T40 l0 x10_1).f0.f2)) := (blk_cell BK106.out 2).trans rfl
                          have hcz28_3 : wc.cell? ⟨gb106, 3, none⟩ = some (.int .i64 ((rd_T40 l0 x10_1).f0.f3)) := (blk_cell BK106.out 3).trans rfl
                          have hcz28_4 : wc.cell? ⟨gb106, 4, none⟩ = some (.int .i64 ((rd_T40 l0 x10_1).f1)) := (blk_cell BK106.out 4).trans rfl
                          have hcz28_5 : wc.cell? ⟨gb106, 5, none⟩ = some (.int .i64 ((rd_T40 l0 x10_1).f2)) := (blk_cell BK106.out 5).trans rfl
                          have hfz28_0 := blk_frozen BK106.out 0
                          have hfz28_1 := blk_frozen BK106.out 1
                          have hfz28_2 := blk_frozen BK106.out 2
                          have hfz28_3 := blk_frozen BK106.out 3
                          have hfz28_4 := blk_frozen BK106.out 4
                          have hfz28_5 := blk_frozen BK106.out 5
                          go_wp2_with (first | ((with_reducible refine gate_callee (f := 61) rfl ?_); refine goesL_ (some 31) rfl rfl Try.func61 (by kernel_rfl) rfl #[.int .i64 ((rd_T40 l0 x10_1).f1)] rfl (by (try simp only [List.map_toArray, List.map_cons, List.map_nil]); first | done | rfl | (simp only [List.length_drop, List.length_take]; rfl)) ?_; (with_reducible refine (position_lots.calls ((rd_T40 l0 x10_1).f1) true _ A20.out).mono ?_); rintro e w' ⟨rfl, ⟨nd, rfl⟩⟩; refine ⟨_, rfl, ?_⟩) | (go_at_call 61; (with_reducible refine (position_lots.calls ((rd_T40 l0 x10_1).f2) true _ A22.out).mono ?_); rintro e w' ⟨rfl, ⟨nd, rfl⟩⟩))
                          go_roundg kj5
                          case measure => have := HK1.out; have := HJ5.out; omega
                          case rel => exact ⟨(wrap64 (x10_1 + 1)), (by first | rfl | (simp; done) | (simp [*]; done)), H', ⟨by have := HK1.out; have := HJ5.out; omega⟩, ⟨by repeat (first | (with_reducible first | exact HB.out | apply below_alloc | apply pw_below_drewN | apply below_drew1 | refine below_set ?_ GE106.out) | exact HB.out)⟩⟩
                      · replace c23 := Bool.eq_false_iff.mpr c23
                        subst c23
                        have H1 : (some 18) = some r := by rw [if_neg (show ¬ (false = true) by decide)] at H; exact H
                        clear H
                        have H := H1
                        clear H1
                        obtain rfl := Option.some.inj H
                        have hcz29_0 : wc.cell? ⟨gb106, 0, none⟩ = some (.string ((rd_T40 l0 x10_1).f0.f0)) := (blk_cell BK106.out 0).trans rfl
                        have hcz29_1 : wc.cell? ⟨gb106, 1, none⟩ = some (.int .i64 ((rd_T40 l0 x10_1).f0.f1)) := (blk_cell BK106.out 1).trans rfl
                        have hcz29_2 : wc.cell? ⟨gb106, 2, none⟩ = some (.int .i64 ((rd_T40 l0 x10_1).f0.f2)) := (blk_cell BK106.out 2).trans rfl
                        have hcz29_3 : wc.cell? ⟨gb106, 3, none⟩ = some (.int .i64 ((rd_T40 l0 x10_1).f0.f3)) := (blk_cell BK106.out 3).trans rfl
                        have hcz29_4 : wc.cell? ⟨gb106, 4, none⟩ = some (.int .i64 ((rd_T40 l0 x10_1).f1)) := (blk_cell BK106.out 4).trans rfl
                        have hcz29_5 : wc.cell? ⟨gb106, 5, none⟩ = some (.int .i64 ((rd_T40 l0 x10_1).f2)) := (blk_cell BK106.out 5).trans rfl
                        have hfz29_0 := blk_frozen BK106.out 0
                        have hfz29_1 := blk_frozen BK106.out 1
                        have hfz29_2 := blk_frozen BK106.out 2
                        have hfz29_3 := blk_frozen BK106.out 3
                        have hfz29_4 := blk_frozen BK106.out 4
                        have hfz29_5 := blk_frozen BK106.out 5
                        go_wp2_with (first | ((with_reducible refine gate_callee (f := 61) rfl ?_); refine goesL_ (some 31) rfl rfl Try.func61 (by kernel_rfl) rfl #[.int .i64 ((rd_T40 l0 x10_1).f1)] rfl (by (try simp only [List.map_toArray, List.map_cons, List.map_nil]); first | done | rfl | (simp only [List.length_drop, List.length_take]; rfl)) ?_; (with_reducible refine (position_lots.calls ((rd_T40 l0 x10_1).f1) true _ A20.out).mono ?_); rintro e w' ⟨rfl, ⟨nd, rfl⟩⟩; refine ⟨_, rfl, ?_⟩) | (go_at_call 61; (with_reducible refine (position_lots.calls ((rd_T40 l0 x10_1).f2) false _ A22.out).mono ?_); rintro e w' ⟨rfl, ⟨nd, rfl⟩⟩))
                        go_ret
                        exact ⟨by first | rfl | (simp [errW_none, errW_some] <;> rfl) | (simp [*, errW_none, errW_some] <;> rfl), by repeat (first | (with_reducible first | exact HB.out | apply below_alloc | apply pw_below_drewN | apply below_drew1 | refine below_set ?_ GE106.out) | exact HB.out)⟩
                    · replace c21 := Bool.eq_false_iff.mpr c21
                      subst c21
                      have H1 : (some 18) = some r := by rw [if_neg (show ¬ (false = true) by decide)] at H; exact H
                      clear H
                      have H := H1
                      clear H1
                      obtain rfl := Option.some.inj H
                      have hcz30_0 : wc.cell? ⟨gb106, 0, none⟩ = some (.string ((rd_T40 l0 x10_1).f0.f0)) := (blk_cell BK106.out 0).trans rfl
                      have hcz30_1 : wc.cell? ⟨gb106, 1, none⟩ = some (.int .i64 ((rd_T40 l0 x10_1).f0.f1)) := (blk_cell BK106.out 1).trans rfl
                      have hcz30_2 : wc.cell? ⟨gb106, 2, none⟩ = some (.int .i64 ((rd_T40 l0 x10_1).f0.f2)) := (blk_cell BK106.out 2).trans rfl
                      have hcz30_3 : wc.cell? ⟨gb106, 3, none⟩ = some (.int .i64 ((rd_T40 l0 x10_1).f0.f3)) := (blk_cell BK106.out 3).trans rfl
                      have hcz30_4 : wc.cell? ⟨gb106, 4, none⟩ = some (.int .i64 ((rd_T40 l0 x10_1).f1)) := (blk_cell BK106.out 4).trans rfl
                      have hcz30_5 : wc.cell? ⟨gb106, 5, none⟩ = some (.int .i64 ((rd_T40 l0 x10_1).f2)) := (blk_cell BK106.out 5).trans rfl
                      have hfz30_0 := blk_frozen BK106.out 0
                      have hfz30_1 := blk_frozen BK106.out 1
                      have hfz30_2 := blk_frozen BK106.out 2
                      have hfz30_3 := blk_frozen BK106.out 3
                      have hfz30_4 := blk_frozen BK106.out 4
                      have hfz30_5 := blk_frozen BK106.out 5
                      go_wp2_with (first | ((with_reducible refine gate_callee (f := 61) rfl ?_); refine goesL_ (some 31) rfl rfl Try.func61 (by kernel_rfl) rfl #[.int .i64 ((rd_T40 l0 x10_1).f1)] rfl (by (try simp only [List.map_toArray, List.map_cons, List.map_nil]); first | done | rfl | (simp only [List.length_drop, List.length_take]; rfl)) ?_; (with_reducible refine (position_lots.calls ((rd_T40 l0 x10_1).f1) false _ A20.out).mono ?_); rintro e w' ⟨rfl, ⟨nd, rfl⟩⟩; refine ⟨_, rfl, ?_⟩))
                      go_ret
                      exact ⟨by first | rfl | (simp [errW_none, errW_some] <;> rfl) | (simp [*, errW_none, errW_some] <;> rfl), by repeat (first | (with_reducible first | exact HB.out | apply below_alloc | apply pw_below_drewN | apply below_drew1 | refine below_set ?_ GE106.out) | exact HB.out)⟩
            · rw [if_neg c5] at H
              exact absurd H (by simp)
          · rw [if_neg c4] at H
            exact absurd H (by simp)
        · rw [if_neg c3] at H
          have c3b0 : decide (x10_1 < (l0.length : Int)) = false := decide_eq_false c3
          clear c3
          obtain rfl := Option.some.inj H
          go_wp2
          go_ret
          exact ⟨by first | rfl | (simp [errW_none, errW_some] <;> rfl) | (simp [*, errW_none, errW_some] <;> rfl), by repeat (first | (with_reducible first | exact HB.out | apply below_alloc | apply pw_below_drewN | apply below_drew1) | exact HB.out)⟩
/-- What positions count, by kinds, as the code adds it up. -/
def cntW (g : S40 → Int) (j : Int) (l : List S40) : Int := l.foldl (fun a p => if p.f0.f1 = j then wrap64 (a + g p) else a) 0
theorem cntW_snoc (g : S40 → Int) (j : Int) (l : List S40) (p : S40) : cntW g j (l ++ [p]) = if p.f0.f1 = j then wrap64 (cntW g j l + g p) else cntW g j l := by
  unfold cntW; rw [List.foldl_append]; rfl
theorem cnt_next (g : S40 → Int) (q : Int) (l : List S40) (j : Nat) (h : j < l.length) : cntW g q (l.take (j + 1)) = if (rd_T40 l (j : Int)).f0.f1 = q then wrap64 (cntW g q (l.take j) + g (rd_T40 l (j : Int))) else cntW g q (l.take j) := by
  have e : l.take (j + 1) = l.take j ++ [rd_T40 l (j : Int)] := by
    rw [List.take_succ_eq_append_getElem h]
    unfold rd_T40
    rw [Int.toNat_natCast, List.getD_eq_getElem?_getD, List.getElem?_eq_getElem h]
    rfl
  rw [e, cntW_snoc]
/-- The four counters, behind a list. -/
def cntRow (g : S40 → Int) (l : List S40) : Array Value := #[.int .i64 0, .int .i64 (cntW g 1 l), .int .i64 (cntW g 2 l), .int .i64 (cntW g 3 l)]
set_option maxHeartbeats 8000000 in
set_option maxRecDepth 100000 in
theorem floor_counted.err (fnv : Value) (A0 : Option Addr) (c0 : Nat) (l0 : List S40) (k : Nat) (e0 : Int) (w : World) (hr0 : Kd.C k40 w A0 l0.length l0) (hc0 : l0.length ≤ c0) (hchk : Aside0 (position_Check.f k l0 = some e0)) (hne : e0 ≠ 0) :
    Calls Try.prog 37 #[.slice A0 l0.length c0, fnv] w fun e w' => e = .returned (.tuple #[.agg #[.int .i64 0, .int .i64 0, .int .i64 0, .int .i64 0], .int .i64 e0]) ∧ Below w.heap.size w w' := by
  have hu40 := Try.underlying40
  have hu38 := Try.underlying38
  have hu58 := Try.underlying58
  have HR := Aside0.mk hr0
  have HC := Aside0.mk hc0
  clear hr0 hc0
  go_enter Try.func37, Try.ntmps37
  go_wp2_with fail
  refine (position_Check.calls k _ _ _ _ _ (Kd.C_below HR.out ?_) HC.out hchk.out).mono ?_
  · repeat (first | exact Below.refl _ _ | apply below_alloc)
  rintro e w1 ⟨rfl, hb⟩
  have hb0 : Below w.heap.size w w1 := (below_alloc (Below.refl _ _) _).trans (hb.mono (by simp))
  have harr : w1.heap[w.heap.size]? = some (.cells #[.int .i64 0, .int .i64 0, .int .i64 0, .int .i64 0] 58 (0, 0)) := (hb.block w.heap.size (by simp)).trans (heap_alloc_new w _)
  have c0' : w1.cell? ⟨w.heap.size, 0, none⟩ = some (.int .i64 0) := (blk_cell harr 0).trans rfl
  have c1' : w1.cell? ⟨w.heap.size, 1, none⟩ = some (.int .i64 0) := (blk_cell harr 1).trans rfl
  have c2' : w1.cell? ⟨w.heap.size, 2, none⟩ = some (.int .i64 0) := (blk_cell harr 2).trans rfl
  have c3' : w1.cell? ⟨w.heap.size, 3, none⟩ = some (.int .i64 0) := (blk_cell harr 3).trans rfl
  have f0' := blk_frozen harr 0
  have f1' := blk_frozen harr 1
  have f2' := blk_frozen harr 2
  have f3' := blk_frozen harr 3
  have hblk : w.heap.size < w1.heap.size := blk_lt harr
  have HB := Aside0.mk hb0
  have HA := Aside0.mk harr
  clear hb hb0 harr
  go_wp2
  refine bodyPost_ret (results_ct rfl _ _ w.heap.size 58 #[.int .i64 0, .int .i64 0, .int .i64 0, .int .i64 0] (0, 0) _ rfl ?_ Try.underlying58 rfl (by kernel_rfl)) rfl ?_
  · exact blk_put (blk_put (blk_put (blk_put HA.out 0 _ rfl) 1 _ rfl) 2 _ rfl) 3 _ (by simp)
  · exact ⟨rfl, below_set (below_set (below_set (below_set HB.out (Nat.le_refl _)) (Nat.le_refl _)) (Nat.le_refl _)) (Nat.le_refl _)⟩
set_option maxHeartbeats 1000000 in
set_option maxRecDepth 100000 in
theorem floor_Shorts1.walk (s : ByteArray) (a b c d e : Int) (w : World) :
    Calls Try.prog 38 #[.agg #[.string s, .int .i64 a, .int .i64 b, .int .i64 c, .int .i64 d, .int .i64 e]] w fun en w' => en = .returned (.int .i64 e) ∧ Below w.heap.size w w' := by
  have hu40 := Try.underlying40
  go_enter Try.func38, Try.ntmps38
  go_wp2
  go_ret
  exact ⟨rfl, below_alloc (Below.refl _ _) _⟩
set_option maxHeartbeats 8000000 in
set_option maxRecDepth 100000 in
theorem floor_counted.s (A0 : Option Addr) (c0 : Nat) (l0 : List S40) (k : Nat) (w : World) (hr0 : Kd.C k40 w A0 l0.length l0) (hc0 : l0.length ≤ c0) (hchk : Aside0 (position_Check.f k l0 = some 0)) (hlen : l0.length ≤ 128) :
    Calls Try.prog 37 #[.slice A0 l0.length c0, .func (.func 38) #[] #[]] w fun e w' => e = .returned (.tuple #[.agg (cntRow S40.f2 l0), .int .i64 0]) ∧ Below w.heap.size w w' := by
  have hu40 := Try.underlying40
  have hu38 := Try.underlying38
  have hu58 := Try.underlying58
  have HR := Aside0.mk hr0
  have HC := Aside0.mk hc0
  clear hr0 hc0
  go_enter Try.func37, Try.ntmps37
  go_wp2_with fail
  refine (position_Check.calls k _ _ _ _ _ (Kd.C_below HR.out ?_) HC.out hchk.out).mono ?_
  · repeat (first | exact Below.refl _ _ | apply below_alloc)
  rintro e w1 ⟨rfl, hb⟩
  have hb0 : Below w.heap.size w w1 := (below_alloc (Below.refl _ _) _).trans (hb.mono (by simp))
  have harr : w1.heap[w.heap.size]? = some (.cells (cntRow S40.f2 []) 58 (0, 0)) := (hb.block w.heap.size (by simp)).trans (heap_alloc_new w _)
  have HB0 := Aside0.mk hb0
  have HARR := Aside0.mk harr
  clear hb hb0 harr
  go_wp2
  go_loopw [17] (fun i wr => ∃ j : Nat, j ≤ l0.length ∧ i = .int .i64 (j : Int) ∧ Aside0 (wr.heap[w.heap.size]? = some (.cells (cntRow S40.f2 (l0.take j)) 58 (0, 0))) ∧ Aside0 (Below w.heap.size w wr)) (fun i _ => l0.length - (intOf i).toNat)
  case atStart => exact ⟨0, Nat.zero_le _, rfl, HARR, HB0⟩
  case round =>
    obtain ⟨j, hj, rfl, HA, HB⟩ := hrel
    clear HARR HB0
    have hblk : w.heap.size < wr.heap.size := blk_lt HA.out
    have c0' : wr.cell? ⟨w.heap.size, 0, none⟩ = some (.int .i64 0) := (blk_cell HA.out 0).trans rfl
    have c1' : wr.cell? ⟨w.heap.size, 1, none⟩ = some (.int .i64 (cntW S40.f2 1 (l0.take j))) := (blk_cell HA.out 1).trans rfl
    have c2' : wr.cell? ⟨w.heap.size, 2, none⟩ = some (.int .i64 (cntW S40.f2 2 (l0.take j))) := (blk_cell HA.out 2).trans rfl
    have c3' : wr.cell? ⟨w.heap.size, 3, none⟩ = some (.int .i64 (cntW S40.f2 3 (l0.take j))) := (blk_cell HA.out 3).trans rfl
    have f0' := blk_frozen HA.out 0
    have f1' := blk_frozen HA.out 1
    have f2' := blk_frozen HA.out 2
    have f3' := blk_frozen HA.out 3
    by_cases hlt : j < l0.length
    · obtain ⟨ad, hA0, e0, e1, e2, e3, e4, e5⟩ := at_T40 (Kd.C_below HR.out HB.out) (j : Int) (by omega) (by omega)
      subst hA0
      rw [Int.toNat_natCast] at e0 e1 e2 e3 e4 e5
      by_cases k1 : (rd_T40 l0 (j : Int)).f0.f1 = 1
      · have hg : S40.f2 (rd_T40 l0 (j : Int)) = (rd_T40 l0 (j : Int)).f2 := rfl
        have HG := Aside0.mk hg
        clear hg
        go_wp2_with fail
        go_region_with (go_at_call 38; refine (floor_Shorts1.walk _ _ _ _ _ _ _).mono ?_; rintro e w2 ⟨rfl, hb2⟩; have d1 := pw_cell_below hb2 (show World.cell? _ ⟨w.heap.size, 1, none⟩ = some (.int .i64 (cntW S40.f2 1 (l0.take j))) by go_simp); have g1 := (hb2.frozen (p := ⟨w.heap.size, 1, none⟩) (by simp; omega)).trans (by go_simp : World.frozen? _ _ = false))
        all_goals go_wp2
        all_goals (refine ⟨⟨j + 1, by omega, by go_num, Aside0.mk ?_, Aside0.mk ?_⟩, by simp [intOf]; omega⟩)
        all_goals go_light
        all_goals first
          | (refine blk_put (blk_below (o := .cells (cntRow S40.f2 (l0.take j)) 58 (0, 0)) (by (with_reducible repeat (first | refine blk_drewN ?_ _ | refine blk_drew ?_ | refine blk_alloc ?_ _)); exact HA.out) hb2) 1 _ ?_
             unfold cntRow
             simp only [cnt_next _ _ l0 j hlt, k1, HG.out]
             simp)
          | exact below_set (below_then (by repeat (first | exact HB.out | apply below_alloc | apply pw_below_drewN | apply below_drew)) (by simp; omega) hb2) (Nat.le_refl _)
      by_cases k2 : (rd_T40 l0 (j : Int)).f0.f1 = 2
      · have hg : S40.f2 (rd_T40 l0 (j : Int)) = (rd_T40 l0 (j : Int)).f2 := rfl
        have HG := Aside0.mk hg
        clear hg
        go_wp2_with fail
        go_region_with (go_at_call 38; refine (floor_Shorts1.walk _ _ _ _ _ _ _).mono ?_; rintro e w2 ⟨rfl, hb2⟩; have d1 := pw_cell_below hb2 (show World.cell? _ ⟨w.heap.size, 2, none⟩ = some (.int .i64 (cntW S40.f2 2 (l0.take j))) by go_simp); have g1 := (hb2.frozen (p := ⟨w.heap.size, 2, none⟩) (by simp; omega)).trans (by go_simp : World.frozen? _ _ = false))
        all_goals go_wp2
        all_goals (refine ⟨⟨j + 1, by omega, by go_num, Aside0.mk ?_, Aside0.mk ?_⟩, by simp [intOf]; omega⟩)
        all_goals go_light
        all_goals first
          | (refine blk_put (blk_below (o := .cells (cntRow S40.f2 (l0.take j)) 58 (0, 0)) (by (with_reducible repeat (first | refine blk_drewN ?_ _ | refine blk_drew ?_ | refine blk_alloc ?_ _)); exact HA.out) hb2) 2 _ ?_
             unfold cntRow
             simp only [cnt_next _ _ l0 j hlt, k2, HG.out]
             simp)
          | exact below_set (below_then (by repeat (first | exact HB.out | apply below_alloc | apply pw_below_drewN | apply below_drew)) (by simp; omega) hb2) (Nat.le_refl _)
      by_cases k3 : (rd_T40 l0 (j : Int)).f0.f1 = 3
      · have hg : S40.f2 (rd_T40 l0 (j : Int)) = (rd_T40 l0 (j : Int)).f2 := rfl
        have HG := Aside0.mk hg
        clear hg
        go_wp2_with fail
        go_region_with (go_at_call 38; refine (floor_Shorts1.walk _ _ _ _ _ _ _).mono ?_; rintro e w2 ⟨rfl, hb2⟩; have d1 := pw_cell_below hb2 (show World.cell? _ ⟨w.heap.size, 3, none⟩ = some (.int .i64 (cntW S40.f2 3 (l0.take j))) by go_simp); have g1 := (hb2.frozen (p := ⟨w.heap.size, 3, none⟩) (by simp; omega)).trans (by go_simp : World.frozen? _ _ = false))
        all_goals go_wp2
        all_goals (refine ⟨⟨j + 1, by omega, by go_num, Aside0.mk ?_, Aside0.mk ?_⟩, by simp [intOf]; omega⟩)
        all_goals go_light
        all_goals first
          | (refine blk_put (blk_below (o := .cells (cntRow S40.f2 (l0.take j)) 58 (0, 0)) (by (with_reducible repeat (first | refine blk_drewN ?_ _ | refine blk_drew ?_ | refine blk_alloc ?_ _)); exact HA.out) hb2) 3 _ ?_
             unfold cntRow
             simp only [cnt_next _ _ l0 j hlt, k3, HG.out]
             simp)
          | exact below_set (below_then (by repeat (first | exact HB.out | apply below_alloc | apply pw_below_drewN | apply below_drew)) (by simp; omega) hb2) (Nat.le_refl _)
      by_cases kl : (rd_T40 l0 (j : Int)).f0.f1 < 1
      all_goals
        (try have kh : 3 < (rd_T40 l0 (j : Int)).f0.f1 := by omega)
        go_wp2
        refine ⟨⟨j + 1, by omega, by go_num, Aside0.mk (blk_alloc ?_ _), Aside0.mk (below_alloc HB.out _)⟩, by simp [intOf]; omega⟩
        have e : cntRow S40.f2 (l0.take (j + 1)) = cntRow S40.f2 (l0.take j) := by
          unfold cntRow
          rw [cnt_next _ _ l0 j hlt, cnt_next _ _ l0 j hlt, cnt_next _ _ l0 j hlt, if_neg k1, if_neg k2, if_neg k3]
        rw [e]
        exact HA.out
    · have hz : l0.take j = l0 := List.take_of_length_le (by omega)
      go_wp2
      refine bodyPost_ret (results_ct rfl _ _ w.heap.size 58 (cntRow S40.f2 (l0.take j)) (0, 0) _ rfl ?_ Try.underlying58 rfl (by kernel_rfl)) rfl ?_
      · exact blk_put (blk_put (blk_put (blk_put HA.out 0 _ rfl) 1 _ rfl) 2 _ rfl) 3 _ (by rw [hz]; simp [cntRow])
      · exact ⟨by rw [hz]; rfl, below_set (below_set (below_set (below_set HB.out (Nat.le_refl _)) (Nat.le_refl _)) (Nat.le_refl _)) (Nat.le_refl _)⟩
theorem floor_len {k : Nat} {l : List S40} (h : position_Check.f k l = some 0) : l.length ≤ 128 := by
  unfold position_Check.f at h
  split at h
  · exact absurd (Option.some.inj h) (by decide)
  · omega
def floor_Shorts.f (k : Nat) (l0 : List S40) : Option (Int × Int) := (position_Check.f k l0).bind fun e => if e = 0 then some (wrap64 (cntW S40.f2 2 l0 + cntW S40.f2 3 l0), 0) else some (0, e)
theorem floor_Shorts.mono : ∀ a0 k, LeO (floor_Shorts.f k a0) (floor_Shorts.f (k + 1) a0) := by
  intro a0 k
  unfold floor_Shorts.f
  exact LeO.bind (position_Check.mono _ _) (fun _ => LeO.refl _)
set_option maxHeartbeats 8000000 in
set_option maxRecDepth 100000 in
theorem floor_Shorts.calls (k : Nat) (A0 : Option Addr) (c0 : Nat) (l0 : List S40) (r1 : Int) (r2 : Int) (w : World) (hr0 : Kd.C k40 w A0 l0.length l0) (hc0 : l0.length ≤ c0) (h : floor_Shorts.f k l0 = some (r1, r2)) :
    Calls Try.prog 13 #[.slice A0 l0.length c0] w fun e w' => e = .returned (.tuple #[.int .i64 r1, .int .i64 r2]) ∧ Below w.heap.size w w' := by
  have hu58 := Try.underlying58
  obtain ⟨e, he, h⟩ := Option.bind_eq_some_iff.1 h
  by_cases hz : e = 0
  · subst hz
    simp only [if_true, Option.some.injEq, Prod.mk.injEq] at h
    obtain ⟨rfl, rfl⟩ := h
    have HC := Aside0.mk (floor_counted.s A0 c0 l0 k w hr0 hc0 ⟨he⟩ (floor_len he))
    clear hr0 hc0 he
    go_enter Try.func13, Try.ntmps13
    go_wp2_with fail
    refine HC.out.mono ?_
    rintro e w1 ⟨rfl, hb⟩
    unfold cntRow
    go_wp2
    go_ret2
    exact ⟨rfl, below_alloc hb _⟩
  · rw [if_neg hz] at h
    simp only [Option.some.injEq, Prod.mk.injEq] at h
    obtain ⟨rfl, rfl⟩ := h
    have HC := Aside0.mk (floor_counted.err (.func (.func 38) #[] #[]) A0 c0 l0 k e w hr0 hc0 ⟨he⟩ hz)
    clear hr0 hc0 he
    go_enter Try.func13, Try.ntmps13
    go_wp2_with fail
    refine HC.out.mono ?_
    rintro e w1 ⟨rfl, hb⟩
    go_wp2
    go_ret2
    exact ⟨rfl, below_alloc hb _⟩
def cents_Fits.f (a0 : Int) : Option (Bool) := if a0 ≥ (-1152921504606846976) then (some (decide (a0 ≤ 1152921504606846976))) else (some false)
set_option maxHeartbeats 8000000 in
set_option maxRecDepth 100000 in
theorem cents_Fits.calls (a0 : Int) (r : Bool) (w : World) (h : cents_Fits.f a0 = some r) :
    Calls Try.prog 28 #[.int .i64 a0] w fun e w' => e = .returned (.bool r) ∧ Drawn0 w w' := by
  have H : (if a0 ≥ (-1152921504606846976) then (some (decide (a0 ≤ 1152921504606846976))) else (some false)) = some r := h
  clear h
  by_cases c2 : a0 ≥ (-1152921504606846976)
  · rw [if_pos c2] at H
    have c2b0 : decide ((-1152921504606846976) ≤ a0) = true := decide_eq_true c2
    clear c2
    obtain rfl := Option.some.inj H
    go_enter Try.func28, Try.ntmps28
    go_wp2
    go_ret
    exact ⟨by first | rfl | (simp; done) | (simp [*]; done), by repeat (first | exact Drawn0.refl _ | apply Drawn0.step)⟩
  · rw [if_neg c2] at H
    have c2b0 : decide ((-1152921504606846976) ≤ a0) = false := decide_eq_false c2
    clear c2
    obtain rfl := Option.some.inj H
    go_enter Try.func28, Try.ntmps28
    go_wp2
    go_ret
    exact ⟨by first | rfl | (simp; done) | (simp [*]; done), by repeat (first | exact Drawn0.refl _ | apply Drawn0.step)⟩
def bits_Mul64.f (a0 a1 : Int) : Option (Int × Int) :=
  if 0 ≤ a0 ∧ a0 ≤ 18446744073709551615 ∧ 0 ≤ a1 ∧ a1 ≤ 18446744073709551615 then some (a0 * a1 / 18446744073709551616, a0 * a1 % 18446744073709551616) else none
theorem m64_maskN (a : Nat) (ha : a < 18446744073709551616) : Go.bits .and .u64 (a : Int) 4294967295 = ((a % 4294967296 : Nat) : Int) := by
  have h := bits_and_u64_nat a 4294967295 ha (by omega)
  have e : a &&& 4294967295 = a % 4294967296 := Nat.and_two_pow_sub_one_eq_mod a 32
  rw [e] at h
  exact h
theorem m64_divN (a : Nat) : (a : Int) / 4294967296 = ((a / 4294967296 : Nat) : Int) := by omega
theorem m64_mulN (a b : Nat) : (a : Int) * (b : Int) = ((a * b : Nat) : Int) := (Int.natCast_mul a b).symm
theorem m64_addN (a b : Nat) : (a : Int) + (b : Int) = ((a + b : Nat) : Int) := (Int.natCast_add a b).symm
theorem m64_wrapN (a : Nat) (ha : a < 18446744073709551616) : IntKind.u64.wrap (a : Int) = (a : Int) := by rw [IntKind.wrap_u64]; omega
theorem m64_wrapM (a : Nat) : IntKind.u64.wrap (a : Int) = ((a % 18446744073709551616 : Nat) : Int) := by rw [IntKind.wrap_u64]; omega
set_option maxHeartbeats 1000000 in
theorem bits_Mul64.walk (x y : Nat) (hx : x < 18446744073709551616) (hy : y < 18446744073709551616) (w : World) :
    Calls Try.prog 47 #[.int .u64 x, .int .u64 y] w fun e w' => e = .returned (.tuple #[.int .u64 ((x * y / 18446744073709551616 : Nat) : Int), .int .u64 ((x * y % 18446744073709551616 : Nat) : Int)]) ∧ w' = w := by
  obtain ⟨bd, bt, bw, hhi⟩ := Lib.mul64_hi x y hx hy
  have ba := Lib.half_mul_le (a := x / 4294967296) (b := y / 4294967296) (by omega) (by omega)
  have bb := Lib.half_mul_le (a := x / 4294967296) (b := y % 4294967296) (by omega) (by omega)
  have bc := Lib.half_mul_le (a := x % 4294967296) (b := y / 4294967296) (by omega) (by omega)
  have ba' : x / 4294967296 * (y / 4294967296) < 18446744073709551616 := by omega
  have bb' : x / 4294967296 * (y % 4294967296) < 18446744073709551616 := by omega
  have bc' : x % 4294967296 * (y / 4294967296) < 18446744073709551616 := by omega
  have bh1 : x / 4294967296 * (y / 4294967296) + (x / 4294967296 * (y % 4294967296) + x % 4294967296 * (y % 4294967296) / 4294967296) / 4294967296 < 18446744073709551616 := by omega
  have bh : x / 4294967296 * (y / 4294967296) + (x / 4294967296 * (y % 4294967296) + x % 4294967296 * (y % 4294967296) / 4294967296) / 4294967296 + ((x / 4294967296 * (y % 4294967296) + x % 4294967296 * (y % 4294967296) / 4294967296) % 4294967296 + x % 4294967296 * (y / 4294967296)) / 4294967296 < 18446744073709551616 := by omega
  go_enter Try.func47, Try.ntmps47
  go_wp2
  simp only [m64_maskN x hx, m64_maskN y hy, m64_divN, m64_mulN, m64_addN, m64_wrapN _ bd, m64_wrapN _ bb', m64_wrapN _ bt, m64_maskN _ bt, m64_wrapN _ bc', m64_wrapN _ bw, m64_wrapN _ ba', m64_wrapN _ bh1, m64_wrapN _ bh, m64_wrapM (x * y)]
  rw [hhi]
  go_ret2
  exact ⟨rfl, rfl⟩
theorem bits_Mul64.calls (a0 a1 r1 r2 : Int) (w : World) (h : bits_Mul64.f a0 a1 = some (r1, r2)) :
    Calls Try.prog 47 #[.int .u64 a0, .int .u64 a1] w fun e w' => e = .returned (.tuple #[.int .u64 r1, .int .u64 r2]) ∧ Drawn0 w w' := by
  unfold bits_Mul64.f at h
  by_cases c : 0 ≤ a0 ∧ a0 ≤ 18446744073709551615 ∧ 0 ≤ a1 ∧ a1 ≤ 18446744073709551615
  · rw [if_pos c] at h
    obtain ⟨c1, c2, c3, c4⟩ := c
    obtain ⟨x, rfl⟩ := Int.eq_ofNat_of_zero_le c1
    obtain ⟨y, rfl⟩ := Int.eq_ofNat_of_zero_le c3
    have h' := Option.some.inj h
    simp only [Prod.mk.injEq] at h'
    obtain ⟨rfl, rfl⟩ := h'
    refine (bits_Mul64.walk x y (by omega) (by omega) w).mono ?_
    rintro e w' ⟨rfl, rfl⟩
    exact ⟨rfl, Drawn0.refl _⟩
  · rw [if_neg c] at h
    cases h
def cents_size.f (a0 : Int) : Option Int := if -9223372036854775808 ≤ a0 ∧ a0 ≤ 9223372036854775807 then some (a0.natAbs : Int) else none
theorem cents_size.walk (a0 : Int) (w : World) (h0 : -9223372036854775808 ≤ a0) (h1 : a0 ≤ 9223372036854775807) :
    Calls Try.prog 48 #[.int .i64 a0] w fun e w' => e = .returned (.int .u64 (a0.natAbs : Int)) ∧ w' = w := by
  go_enter Try.func48, Try.ntmps48
  go_wp2
  all_goals (go_ret; refine ⟨congrArg Ending.returned (congrArg (Value.int IntKind.u64) ?_), rfl⟩)
  all_goals go_light
  all_goals ((try simp only [IntKind.wrap_u64]); (try unfold wrap64); omega)
theorem cents_size.calls (a0 r : Int) (w : World) (h : cents_size.f a0 = some r) :
    Calls Try.prog 48 #[.int .i64 a0] w fun e w' => e = .returned (.int .u64 r) ∧ Drawn0 w w' := by
  unfold cents_size.f at h
  by_cases c : -9223372036854775808 ≤ a0 ∧ a0 ≤ 9223372036854775807
  · rw [if_pos c] at h
    obtain rfl := Option.some.inj h
    refine (cents_size.walk a0 w c.1 c.2).mono ?_
    rintro e w' ⟨rfl, rfl⟩
    exact ⟨rfl, Drawn0.refl _⟩
  · rw [if_neg c] at h
    cases h
def cents_signed.f (a0 : Int) (a1 : Bool) : Option (Int × Int) := if a0 > 1152921504606846976 then (some (0, 3)) else (if a1 = true then (some (wrap64 (-(wrap64 (a0))), 0)) else (some (wrap64 (a0), 0)))
set_option maxHeartbeats 8000000 in
set_option maxRecDepth 100000 in
theorem cents_signed.calls (a0 : Int) (a1 : Bool) (r1 : Int) (r2 : Int) (w : World) (h : cents_signed.f a0 a1 = some (r1, r2)) :
    Calls Try.prog 51 #[.int .u64 a0, .bool a1] w fun e w' => e = .returned (.tuple #[.int .i64 r1, .int .i64 r2]) ∧ Drawn0 w w' := by
  have H : (if a0 > 1152921504606846976 then (some (0, 3)) else (if a1 = true then (some (wrap64 (-(wrap64 (a0))), 0)) else (some (wrap64 (a0), 0)))) = some (r1, r2) := h
  clear h
  by_cases c3 : a0 > 1152921504606846976
  · rw [if_pos c3] at H
    have c3b0 : decide (1152921504606846976 < a0) = true := decide_eq_true c3
    clear c3
    simp only [Option.some.injEq, Prod.mk.injEq] at H
    obtain ⟨rfl, rfl⟩ := H
    go_enter Try.func51, Try.ntmps51
    go_wp2
    go_ret2
    exact ⟨by first | rfl | (simp; done) | (simp [*]; done), by repeat (first | exact Drawn0.refl _ | apply Drawn0.step)⟩
  · rw [if_neg c3] at H
    have c3b0 : decide (1152921504606846976 < a0) = false := decide_eq_false c3
    clear c3
    by_cases c4 : a1 = true
    · subst c4
      have H1 : (some (wrap64 (-(wrap64 (a0))), 0)) = some (r1, r2) := by rw [if_pos rfl] at H; exact H
      clear H
      have H := H1
      clear H1
      simp only [Option.some.injEq, Prod.mk.injEq] at H
      obtain ⟨rfl, rfl⟩ := H
      go_enter Try.func51, Try.ntmps51
      go_wp2
      go_ret2
      exact ⟨by first | rfl | (simp; done) | (simp [*]; done), by repeat (first | exact Drawn0.refl _ | apply Drawn0.step)⟩
    · replace c4 := Bool.eq_false_iff.mpr c4
      subst c4
      have H1 : (some (wrap64 (a0), 0)) = some (r1, r2) := by rw [if_neg (show ¬ (false = true) by decide)] at H; exact H
      clear H
      have H := H1
      clear H1
      simp only [Option.some.injEq, Prod.mk.injEq] at H
      obtain ⟨rfl, rfl⟩ := H
      go_enter Try.func51, Try.ntmps51
      go_wp2
      go_ret2
      exact ⟨by first | rfl | (simp; done) | (simp [*]; done), by repeat (first | exact Drawn0.refl _ | apply Drawn0.step)⟩
def cents_Mul.j0 : Nat → Int → Int → Bool → Option (Int × Int)
  | 0, _, _, _ => none
  | k + 1, x0, x1, x15 => if x15 = true then (some (0, 2)) else ((cents_size.f x0).bind fun t117 => ((cents_size.f x1).bind fun t118 => ((bits_Mul64.f t117 t118).bind fun bt119 => (if bt119.1 > 0 then (some (0, 3)) else ((cents_signed.f bt119.2 (!((decide (x0 < 0)) == (decide (x1 < 0))))).bind fun bt121 => (some (bt121.1, bt121.2)))))))
def cents_Mul.f (k : Nat) (a0 : Int) (a1 : Int) : Option (Int × Int) := (cents_Fits.f a0).bind fun t115 => (if t115 = true then ((cents_Fits.f a1).bind fun t116 => (cents_Mul.j0 k a0 a1 (!t116))) else (cents_Mul.j0 k a0 a1 true))
theorem cents_Mul.mono_l : ∀ k, (∀ y0 y1 y2, LeO (cents_Mul.j0 k y0 y1 y2) (cents_Mul.j0 (k + 1) y0 y1 y2))
  | 0 => fun _ _ _ r h => by simp [cents_Mul.j0] at h
  | k + 1 => by
    have ih0 := cents_Mul.mono_l k
    · intro y0 y1 y2
      unfold cents_Mul.j0
      repeat' first
      | (with_reducible exact ih0 _ _ _)
      | (with_reducible exact LeO.refl _)
      | (with_reducible exact LeO.none _)
      | (with_reducible refine LeO.ite ?_ ?_)
      | (with_reducible refine LeO.bind ?_ (fun _ => ?_))
      | exact ih0 _ _ _
      | exact LeO.none _
      | refine LeO.ite ?_ ?_
      | refine LeO.bind ?_ (fun _ => ?_)
theorem cents_Mul.mono : ∀ a0 a1 k, LeO (cents_Mul.f k a0 a1) (cents_Mul.f (k + 1) a0 a1) := by
  intro a0 a1 k
  have ih0 := cents_Mul.mono_l k
  unfold cents_Mul.f
  repeat' first
      | (with_reducible exact ih0 _ _ _)
      | (with_reducible exact LeO.refl _)
      | (with_reducible exact LeO.none _)
      | (with_reducible refine LeO.ite ?_ ?_)
      | (with_reducible refine LeO.bind ?_ (fun _ => ?_))
      | exact ih0 _ _ _
      | exact LeO.none _
      | refine LeO.ite ?_ ?_
      | refine LeO.bind ?_ (fun _ => ?_)
set_option maxHeartbeats 8000000 in
set_option maxRecDepth 100000 in
theorem cents_Mul.calls (k : Nat) (a0 : Int) (a1 : Int) (r1 : Int) (r2 : Int) (w : World) (h : cents_Mul.f k a0 a1 = some (r1, r2)) :
    Calls Try.prog 31 #[.int .i64 a0, .int .i64 a1] w fun e w' => e = .returned (.tuple #[.int .i64 r1, .int .i64 r2]) ∧ Drawn0 w w' := by
  have H : ((cents_Fits.f a0).bind fun t115 => (if t115 = true then ((cents_Fits.f a1).bind fun t116 => (cents_Mul.j0 k a0 a1 (!t116))) else (cents_Mul.j0 k a0 a1 true))) = some (r1, r2) := h
  clear h
  have HC3 := Aside0.mk H
  clear H
  go_enter Try.func31, Try.ntmps31
  go_upto_region 1 with (fail)
  go_cut [15] (fun v15 wc => ∃ (kq : Nat) (x15_2 : Bool), v15 = .bool x15_2 ∧ Aside0 (cents_Mul.j0 kq a0 a1 x15_2 = some (r1, r2)) ∧ Aside0 (kq ≤ k) ∧ Drawn0 w wc)
  case first =>
    have H := HC3.out
    clear HC3
    replace H := Option.bind_eq_some_iff.mp H
    obtain ⟨t115, A40, H⟩ := H
    replace H : (if t115 = true then ((cents_Fits.f a1).bind fun t116 => (cents_Mul.j0 k a0 a1 (!t116))) else (cents_Mul.j0 k a0 a1 true)) = some (r1, r2) := H
    have A4 := Aside0.mk A40
    clear A40
    by_cases c5 : t115 = true
    · subst c5
      have H1 : ((cents_Fits.f a1).bind fun t116 => (cents_Mul.j0 k a0 a1 (!t116))) = some (r1, r2) := by rw [if_pos rfl] at H; exact H
      clear H
      have H := H1
      clear H1
      replace H := Option.bind_eq_some_iff.mp H
      obtain ⟨t116, A60, H⟩ := H
      replace H : (cents_Mul.j0 k a0 a1 (!t116)) = some (r1, r2) := H
      have A6 := Aside0.mk A60
      clear A60
      have H' := Aside0.mk H
      clear H
      go_wp2_with (first | ((with_reducible refine gate_callee (f := 28) rfl ?_); refine goesL_ (some 9) rfl rfl Try.func28 (by kernel_rfl) rfl #[.int .i64 a0] rfl (by (try simp only [List.map_toArray, List.map_cons, List.map_nil]); first | done | rfl | (simp only [List.length_drop, List.length_take]; rfl)) ?_; (with_reducible refine (cents_Fits.calls a0 true _ A4.out).mono ?_); rintro e w' ⟨rfl, ⟨nd, rfl⟩⟩; refine ⟨_, rfl, ?_⟩) | (go_at_call 28; (with_reducible refine (cents_Fits.calls a1 t116 _ A6.out).mono ?_); rintro e w' ⟨rfl, ⟨nd, rfl⟩⟩))
      go_meet
      case rel => exact ⟨_, (!t116), (by first | rfl | (simp; done) | (simp [*]; done)), H', ⟨by first | omega | exact Nat.le_refl _⟩, by repeat (first | exact Drawn0.refl _ | apply Drawn0.step)⟩
    · replace c5 := Bool.eq_false_iff.mpr c5
      subst c5
      have H1 : (cents_Mul.j0 k a0 a1 true) = some (r1, r2) := by rw [if_neg (show ¬ (false = true) by decide)] at H; exact H
      clear H
      have H := H1
      clear H1
      have H' := Aside0.mk H
      clear H
      go_wp2_with (first | ((with_reducible refine gate_callee (f := 28) rfl ?_); refine goesL_ (some 9) rfl rfl Try.func28 (by kernel_rfl) rfl #[.int .i64 a0] rfl (by (try simp only [List.map_toArray, List.map_cons, List.map_nil]); first | done | rfl | (simp only [List.length_drop, List.length_take]; rfl)) ?_; (with_reducible refine (cents_Fits.calls a0 false _ A4.out).mono ?_); rintro e w' ⟨rfl, ⟨nd, rfl⟩⟩; refine ⟨_, rfl, ?_⟩))
      go_meet
      case rel => exact ⟨_, (true), (by first | rfl | (simp; done) | (simp [*]; done)), H', ⟨by first | omega | exact Nat.le_refl _⟩, by repeat (first | exact Drawn0.refl _ | apply Drawn0.step)⟩
  case rest =>
    clear HC3
    try clear c2
    try clear p2
    try clear c3
    try clear c5
    obtain ⟨kq, x15_2, rfl, HA, HJ2, ⟨mc2, rfl⟩⟩ := hcut
    cases kq with
    | zero => exact absurd HA.out (by simp [cents_Mul.j0])
    | succ kj2 =>
      have H := HA.out
      clear HA
      simp only [cents_Mul.j0] at H
      by_cases c7 : x15_2 = true
      · subst c7
        have H1 : (some (0, 2)) = some (r1, r2) := by rw [if_pos rfl] at H; exact H
        clear H
        have H := H1
        clear H1
        simp only [Option.some.injEq, Prod.mk.injEq] at H
        obtain ⟨rfl, rfl⟩ := H
        go_wp2
        go_ret2
        exact ⟨by first | rfl | (simp; done) | (simp [*]; done), by repeat (first | exact Drawn0.refl _ | apply Drawn0.step)⟩
      · replace c7 := Bool.eq_false_iff.mpr c7
        subst c7
        have H1 : ((cents_size.f a0).bind fun t117 => ((cents_size.f a1).bind fun t118 => ((bits_Mul64.f t117 t118).bind fun bt119 => (if bt119.1 > 0 then (some (0, 3)) else ((cents_signed.f bt119.2 (!((decide (a0 < 0)) == (decide (a1 < 0))))).bind fun bt121 => (some (bt121.1, bt121.2))))))) = some (r1, r2) := by rw [if_neg (show ¬ (false = true) by decide)] at H; exact H
        clear H
        have H := H1
        clear H1
        replace H := Option.bind_eq_some_iff.mp H
        obtain ⟨t117, A80, H⟩ := H
        replace H : ((cents_size.f a1).bind fun t118 => ((bits_Mul64.f t117 t118).bind fun bt119 => (if bt119.1 > 0 then (some (0, 3)) else ((cents_signed.f bt119.2 (!((decide (a0 < 0)) == (decide (a1 < 0))))).bind fun bt121 => (some (bt121.1, bt121.2)))))) = some (r1, r2) := H
        have A8 := Aside0.mk A80
        clear A80
        replace H := Option.bind_eq_some_iff.mp H
        obtain ⟨t118, A90, H⟩ := H
        replace H : ((bits_Mul64.f t117 t118).bind fun bt119 => (if bt119.1 > 0 then (some (0, 3)) else ((cents_signed.f bt119.2 (!((decide (a0 < 0)) == (decide (a1 < 0))))).bind fun bt121 => (some (bt121.1, bt121.2))))) = some (r1, r2) := H
        have A9 := Aside0.mk A90
        clear A90
        replace H := Option.bind_eq_some_iff.mp H
        obtain ⟨⟨t119, t120⟩, A100, H⟩ := H
        replace H : (if t119 > 0 then (some (0, 3)) else ((cents_signed.f t120 (!((decide (a0 < 0)) == (decide (a1 < 0))))).bind fun bt121 => (some (bt121.1, bt121.2)))) = some (r1, r2) := H
        have A10 := Aside0.mk A100
        clear A100
        by_cases c11 : t119 > 0
        · rw [if_pos c11] at H
          have c11b0 : decide (0 < t119) = true := decide_eq_true c11
          clear c11
          simp only [Option.some.injEq, Prod.mk.injEq] at H
          obtain ⟨rfl, rfl⟩ := H
          go_wp2_with (first | ((with_reducible refine gate_callee (f := 48) rfl ?_); refine goesL_ (some 18) rfl rfl Try.func48 (by kernel_rfl) rfl #[.int .i64 a0] rfl (by (try simp only [List.map_toArray, List.map_cons, List.map_nil]); first | done | rfl | (simp only [List.length_drop, List.length_take]; rfl)) ?_; (with_reducible refine (cents_size.calls a0 t117 _ A8.out).mono ?_); rintro e w' ⟨rfl, ⟨nd, rfl⟩⟩; refine ⟨_, rfl, ?_⟩) | ((with_reducible refine gate_callee (f := 48) rfl ?_); refine goesL_ (some 20) rfl rfl Try.func48 (by kernel_rfl) rfl #[.int .i64 a1] rfl (by (try simp only [List.map_toArray, List.map_cons, List.map_nil]); first | done | rfl | (simp only [List.length_drop, List.length_take]; rfl)) ?_; (with_reducible refine (cents_size.calls a1 t118 _ A9.out).mono ?_); rintro e w' ⟨rfl, ⟨nd, rfl⟩⟩; refine ⟨_, rfl, ?_⟩) | ((with_reducible refine gate_callee (f := 47) rfl ?_); refine goesL_ (some 21) rfl rfl Try.func47 (by kernel_rfl) rfl #[.int .u64 t117, .int .u64 t118] rfl (by (try simp only [List.map_toArray, List.map_cons, List.map_nil]); first | done | rfl | (simp only [List.length_drop, List.length_take]; rfl)) ?_; (with_reducible refine (bits_Mul64.calls t117 t118 t119 t120 _ A10.out).mono ?_); rintro e w' ⟨rfl, ⟨nd, rfl⟩⟩; refine ⟨_, rfl, ?_⟩))
          go_ret2
          exact ⟨by first | rfl | (simp; done) | (simp [*]; done), by repeat (first | exact Drawn0.refl _ | apply Drawn0.step)⟩
        · rw [if_neg c11] at H
          have c11b0 : decide (0 < t119) = false := decide_eq_false c11
          clear c11
          replace H := Option.bind_eq_some_iff.mp H
          obtain ⟨⟨t121, t122⟩, A120, H⟩ := H
          replace H : (some (t121, t122)) = some (r1, r2) := H
          have A12 := Aside0.mk A120
          clear A120
          simp only [Option.some.injEq, Prod.mk.injEq] at H
          obtain ⟨rfl, rfl⟩ := H
          go_wp2_with (first | ((with_reducible refine gate_callee (f := 48) rfl ?_); refine goesL_ (some 18) rfl rfl Try.func48 (by kernel_rfl) rfl #[.int .i64 a0] rfl (by (try simp only [List.map_toArray, List.map_cons, List.map_nil]); first | done | rfl | (simp only [List.length_drop, List.length_take]; rfl)) ?_; (with_reducible refine (cents_size.calls a0 t117 _ A8.out).mono ?_); rintro e w' ⟨rfl, ⟨nd, rfl⟩⟩; refine ⟨_, rfl, ?_⟩) | ((with_reducible refine gate_callee (f := 48) rfl ?_); refine goesL_ (some 20) rfl rfl Try.func48 (by kernel_rfl) rfl #[.int .i64 a1] rfl (by (try simp only [List.map_toArray, List.map_cons, List.map_nil]); first | done | rfl | (simp only [List.length_drop, List.length_take]; rfl)) ?_; (with_reducible refine (cents_size.calls a1 t118 _ A9.out).mono ?_); rintro e w' ⟨rfl, ⟨nd, rfl⟩⟩; refine ⟨_, rfl, ?_⟩) | ((with_reducible refine gate_callee (f := 47) rfl ?_); refine goesL_ (some 21) rfl rfl Try.func47 (by kernel_rfl) rfl #[.int .u64 t117, .int .u64 t118] rfl (by (try simp only [List.map_toArray, List.map_cons, List.map_nil]); first | done | rfl | (simp only [List.length_drop, List.length_take]; rfl)) ?_; (with_reducible refine (bits_Mul64.calls t117 t118 t119 t120 _ A10.out).mono ?_); rintro e w' ⟨rfl, ⟨nd, rfl⟩⟩; refine ⟨_, rfl, ?_⟩) | ((with_reducible refine gate_callee (f := 51) rfl ?_); refine goesL_ (some 32) rfl rfl Try.func51 (by kernel_rfl) rfl #[.int .u64 t120, .bool (!((decide (a0 < 0)) == (decide (a1 < 0))))] rfl (by (try simp only [List.map_toArray, List.map_cons, List.map_nil]); first | done | rfl | (simp only [List.length_drop, List.length_take]; rfl)) ?_; (with_reducible refine (cents_signed.calls t120 (!((decide (a0 < 0)) == (decide (a1 < 0)))) t121 t122 _ A12.out).mono ?_); rintro e w' ⟨rfl, ⟨nd, rfl⟩⟩; refine ⟨_, rfl, ?_⟩))
          go_ret2
          exact ⟨by first | rfl | (simp; done) | (simp [*]; done), by repeat (first | exact Drawn0.refl _ | apply Drawn0.step)⟩
def floor_rate.f (a0 : Int) : Option (Bool) := if a0 ≥ 0 then (some (decide (a0 ≤ 68719476736))) else (some false)
set_option maxHeartbeats 8000000 in
set_option maxRecDepth 100000 in
theorem floor_rate.calls (a0 : Int) (r : Bool) (w : World) (h : floor_rate.f a0 = some r) :
    Calls Try.prog 41 #[.int .i64 a0] w fun e w' => e = .returned (.bool r) ∧ Drawn0 w w' := by
  have H : (if a0 ≥ 0 then (some (decide (a0 ≤ 68719476736))) else (some false)) = some r := h
  clear h
  by_cases c2 : a0 ≥ 0
  · rw [if_pos c2] at H
    have c2b0 : decide (0 ≤ a0) = true := decide_eq_true c2
    clear c2
    obtain rfl := Option.some.inj H
    go_enter Try.func41, Try.ntmps41
    go_wp2
    go_ret
    exact ⟨by first | rfl | (simp; done) | (simp [*]; done), by repeat (first | exact Drawn0.refl _ | apply Drawn0.step)⟩
  · rw [if_neg c2] at H
    have c2b0 : decide (0 ≤ a0) = false := decide_eq_false c2
    clear c2
    obtain rfl := Option.some.inj H
    go_enter Try.func41, Try.ntmps41
    go_wp2
    go_ret
    exact ⟨by first | rfl | (simp; done) | (simp [*]; done), by repeat (first | exact Drawn0.refl _ | apply Drawn0.step)⟩
def floor_Least.f (k : Nat) (l0 : List (S40)) (a1 : Int) : Option (Int × Int) := (floor_Shorts.f k l0).bind fun bt123 => (if bt123.2 = 0 then ((floor_rate.f a1).bind fun t125 => (if t125 = true then ((cents_Mul.f k bt123.1 a1).bind fun bt126 => (some (bt126.1, bt126.2))) else (some (0, 2)))) else (some (0, bt123.2)))
theorem floor_Least.mono : ∀ a0 a1 k, LeO (floor_Least.f k a0 a1) (floor_Least.f (k + 1) a0 a1) := by
  intro a0 a1 k
  unfold floor_Least.f
  repeat' first
      | (with_reducible exact cents_Mul.mono _ _ _)
      | (with_reducible exact floor_Shorts.mono _ _)
      | (with_reducible exact LeO.refl _)
      | (with_reducible exact LeO.none _)
      | (with_reducible refine LeO.ite ?_ ?_)
      | (with_reducible refine LeO.bind ?_ (fun _ => ?_))
      | exact cents_Mul.mono _ _ _
      | exact floor_Shorts.mono _ _
      | exact LeO.none _
      | refine LeO.ite ?_ ?_
      | refine LeO.bind ?_ (fun _ => ?_)
set_option maxHeartbeats 8000000 in
set_option maxRecDepth 100000 in
theorem floor_Least.calls (k : Nat) (A0 : Option Addr) (c0 : Nat) (l0 : List (S40)) (a1 : Int) (r1 : Int) (r2 : Int) (w : World) (hr0 : Kd.C k40 w A0 l0.length l0) (hc0 : l0.length ≤ c0) (h : floor_Least.f k l0 a1 = some (r1, r2)) :
    Calls Try.prog 15 #[.slice A0 l0.length c0, .int .i64 a1] w fun e w' => e = .returned (.tuple #[.int .i64 r1, .int .i64 r2]) ∧ Below w.heap.size w w' := by
  have HR0 := Aside0.mk hr0
  have HC0 := Aside0.mk hc0
  clear hr0 hc0
  have HB := Aside0.mk (Below.refl w.heap.size w)
  have H : ((floor_Shorts.f k l0).bind fun bt123 => (if bt123.2 = 0 then ((floor_rate.f a1).bind fun t125 => (if t125 = true then ((cents_Mul.f k bt123.1 a1).bind fun bt126 => (some (bt126.1, bt126.2))) else (some (0, 2)))) else (some (0, bt123.2)))) = some (r1, r2) := h
  clear h
  replace H := Option.bind_eq_some_iff.mp H
  obtain ⟨⟨t123, t124⟩, A30, H⟩ := H
  replace H : (if t124 = 0 then ((floor_rate.f a1).bind fun t125 => (if t125 = true then ((cents_Mul.f k t123 a1).bind fun bt126 => (some (bt126.1, bt126.2))) else (some (0, 2)))) else (some (0, t124))) = some (r1, r2) := H
  have A3 := Aside0.mk A30
  clear A30
  by_cases c4 : t124 = 0
  · rw [if_pos c4] at H
    have c4b0 : (t124 == 0) = true := beq_iff_eq.mpr c4
    have c4b1 : (t124 != 0) = false := bne_eq_false_iff_eq.mpr c4
    clear c4
    replace H := Option.bind_eq_some_iff.mp H
    obtain ⟨t125, A50, H⟩ := H
    replace H : (if t125 = true then ((cents_Mul.f k t123 a1).bind fun bt126 => (some (bt126.1, bt126.2))) else (some (0, 2))) = some (r1, r2) := H
    have A5 := Aside0.mk A50
    clear A50
    by_cases c6 : t125 = true
    · subst c6
      have H1 : ((cents_Mul.f k t123 a1).bind fun bt126 => (some (bt126.1, bt126.2))) = some (r1, r2) := by rw [if_pos rfl] at H; exact H
      clear H
      have H := H1
      clear H1
      replace H := Option.bind_eq_some_iff.mp H
      obtain ⟨⟨t126, t127⟩, A70, H⟩ := H
      replace H : (some (t126, t127)) = some (r1, r2) := H
      have A7 := Aside0.mk A70
      clear A70
      simp only [Option.some.injEq, Prod.mk.injEq] at H
      obtain ⟨rfl, rfl⟩ := H
      go_enter Try.func15, Try.ntmps15
      go_wp2_with (first | ((with_reducible refine gate_callee (f := 13) rfl ?_); refine goesL_ (some 8) rfl rfl Try.func13 (by kernel_rfl) rfl #[.slice A0 l0.length c0] rfl (by (try simp only [List.map_toArray, List.map_cons, List.map_nil]); first | done | rfl | (simp only [List.length_drop, List.length_take]; rfl)) ?_; (with_reducible refine (floor_Shorts.calls k _ _ l0 t123 t124 _ ?side1 ?side2 A3.out).mono ?_); (case side1 => repeat (first | exact HR0.out | (with_reducible refine Kd.C_alloc ?_ _) | (with_reducible refine Kd.C_drewN ?_ _) | (with_reducible refine Kd.C_drew ?_))); (case side2 => exact HC0.out); rintro e w8 ⟨rfl, hb⟩; refine ⟨_, rfl, ?_⟩; have n0_ := Aside0.mk (below_step (by repeat (first | (with_reducible first | exact HB.out | apply below_alloc | apply pw_below_drewN | apply below_drew1) | exact HB.out)) hb); clear HB; have HB := n0_; clear n0_; (try clear hb); (try clear hb2); (try clear hk); (try clear hi)) | ((with_reducible refine gate_callee (f := 41) rfl ?_); refine goesL_ (some 15) rfl rfl Try.func41 (by kernel_rfl) rfl #[.int .i64 a1] rfl (by (try simp only [List.map_toArray, List.map_cons, List.map_nil]); first | done | rfl | (simp only [List.length_drop, List.length_take]; rfl)) ?_; (with_reducible refine (floor_rate.calls a1 true _ A5.out).mono ?_); rintro e w' ⟨rfl, ⟨nd, rfl⟩⟩; refine ⟨_, rfl, ?_⟩) | ((with_reducible refine gate_callee (f := 31) rfl ?_); refine goesL_ (some 19) rfl rfl Try.func31 (by kernel_rfl) rfl #[.int .i64 t123, .int .i64 a1] rfl (by (try simp only [List.map_toArray, List.map_cons, List.map_nil]); first | done | rfl | (simp only [List.length_drop, List.length_take]; rfl)) ?_; (with_reducible refine (cents_Mul.calls k t123 a1 t126 t127 _ A7.out).mono ?_); rintro e w' ⟨rfl, ⟨nd, rfl⟩⟩; refine ⟨_, rfl, ?_⟩))
      go_ret2
      exact ⟨by first | rfl | (simp [errW_none, errW_some] <;> rfl) | (simp [*, errW_none, errW_some] <;> rfl), by repeat (first | (with_reducible first | exact HB.out | apply below_alloc | apply pw_below_drewN | apply below_drew1) | exact HB.out)⟩
    · replace c6 := Bool.eq_false_iff.mpr c6
      subst c6
      have H1 : (some (0, 2)) = some (r1, r2) := by rw [if_neg (show ¬ (false = true) by decide)] at H; exact H
      clear H
      have H := H1
      clear H1
      simp only [Option.some.injEq, Prod.mk.injEq] at H
      obtain ⟨rfl, rfl⟩ := H
      go_enter Try.func15, Try.ntmps15
      go_wp2_with (first | ((with_reducible refine gate_callee (f := 13) rfl ?_); refine goesL_ (some 8) rfl rfl Try.func13 (by kernel_rfl) rfl #[.slice A0 l0.length c0] rfl (by (try simp only [List.map_toArray, List.map_cons, List.map_nil]); first | done | rfl | (simp only [List.length_drop, List.length_take]; rfl)) ?_; (with_reducible refine (floor_Shorts.calls k _ _ l0 t123 t124 _ ?side1 ?side2 A3.out).mono ?_); (case side1 => repeat (first | exact HR0.out | (with_reducible refine Kd.C_alloc ?_ _) | (with_reducible refine Kd.C_drewN ?_ _) | (with_reducible refine Kd.C_drew ?_))); (case side2 => exact HC0.out); rintro e w9 ⟨rfl, hb⟩; refine ⟨_, rfl, ?_⟩; have n0_ := Aside0.mk (below_step (by repeat (first | (with_reducible first | exact HB.out | apply below_alloc | apply pw_below_drewN | apply below_drew1) | exact HB.out)) hb); clear HB; have HB := n0_; clear n0_; (try clear hb); (try clear hb2); (try clear hk); (try clear hi)) | ((with_reducible refine gate_callee (f := 41) rfl ?_); refine goesL_ (some 15) rfl rfl Try.func41 (by kernel_rfl) rfl #[.int .i64 a1] rfl (by (try simp only [List.map_toArray, List.map_cons, List.map_nil]); first | done | rfl | (simp only [List.length_drop, List.length_take]; rfl)) ?_; (with_reducible refine (floor_rate.calls a1 false _ A5.out).mono ?_); rintro e w' ⟨rfl, ⟨nd, rfl⟩⟩; refine ⟨_, rfl, ?_⟩))
      go_ret2
      exact ⟨by first | rfl | (simp [errW_none, errW_some] <;> rfl) | (simp [*, errW_none, errW_some] <;> rfl), by repeat (first | (with_reducible first | exact HB.out | apply below_alloc | apply pw_below_drewN | apply below_drew1) | exact HB.out)⟩
  · rw [if_neg c4] at H
    have c4b0 : (t124 == 0) = false := beq_eq_false_iff_ne.mpr c4
    have c4b1 : (t124 != 0) = true := bne_iff_ne.mpr c4
    simp only [Option.some.injEq, Prod.mk.injEq] at H
    obtain ⟨rfl, rfl⟩ := H
    go_enter Try.func15, Try.ntmps15
    go_wp2_with (first | ((with_reducible refine gate_callee (f := 13) rfl ?_); refine goesL_ (some 8) rfl rfl Try.func13 (by kernel_rfl) rfl #[.slice A0 l0.length c0] rfl (by (try simp only [List.map_toArray, List.map_cons, List.map_nil]); first | done | rfl | (simp only [List.length_drop, List.length_take]; rfl)) ?_; (with_reducible refine (floor_Shorts.calls k _ _ l0 t123 t124 _ ?side1 ?side2 A3.out).mono ?_); (case side1 => repeat (first | exact HR0.out | (with_reducible refine Kd.C_alloc ?_ _) | (with_reducible refine Kd.C_drewN ?_ _) | (with_reducible refine Kd.C_drew ?_))); (case side2 => exact HC0.out); rintro e w10 ⟨rfl, hb⟩; refine ⟨_, rfl, ?_⟩; have n0_ := Aside0.mk (below_step (by repeat (first | (with_reducible first | exact HB.out | apply below_alloc | apply pw_below_drewN | apply below_drew1) | exact HB.out)) hb); clear HB; have HB := n0_; clear n0_; (try clear hb); (try clear hb2); (try clear hk); (try clear hi)))
    go_ret2
    exact ⟨by first | rfl | (simp [errW_none, errW_some] <;> rfl) | (simp [*, errW_none, errW_some] <;> rfl), by repeat (first | (with_reducible first | exact HB.out | apply below_alloc | apply pw_below_drewN | apply below_drew1) | exact HB.out)⟩
/-- What a position near its end counts. -/
def nearOf (day days b d e : Int) : Int := if b < day then 0 else if wrap64 (b - day) > days then 0 else mx (wrap64 (d - e)) (wrap64 (e - d))
set_option maxHeartbeats 1000000 in
set_option maxRecDepth 100000 in
theorem floor_Near1.walk (D E : Addr) (day days : Int) (s : ByteArray) (a b c d e : Int) (w : World) (hd : w.cell? D = some (.int .i64 day)) (he : w.cell? E = some (.int .i64 days)) :
    Calls Try.prog 44 #[.agg #[.string s, .int .i64 a, .int .i64 b, .int .i64 c, .int .i64 d, .int .i64 e], .pointer (some D), .pointer (some E)] w fun en w' => en = .returned (.int .i64 (nearOf day days b d e)) ∧ Below w.heap.size w w' := by
  have hu38 := Try.underlying38
  have hu40 := Try.underlying40
  have hd1 := hd
  have he1 := he
  have ld : D.block < w.heap.size := World.block_lt_of_cell? _ _ (by rw [hd])
  have le : E.block < w.heap.size := World.block_lt_of_cell? _ _ (by rw [he])
  go_enter Try.func44, Try.ntmps44
  go_wp2
  all_goals go_ret
  all_goals (refine ⟨congrArg Ending.returned (congrArg (Value.int IntKind.i64) ?_), by repeat (first | exact Below.refl _ _ | apply below_alloc | apply pw_below_drewN | apply below_drew)⟩)
  all_goals go_light
  all_goals (unfold nearOf mx; (repeat' split) <;> first | rfl | omega)
set_option maxHeartbeats 8000000 in
set_option maxRecDepth 100000 in
theorem floor_counted.n (A0 : Option Addr) (c0 : Nat) (l0 : List S40) (k : Nat) (D E : Addr) (day days : Int) (w : World) (hr0 : Kd.C k40 w A0 l0.length l0) (hc0 : l0.length ≤ c0) (hchk : Aside0 (position_Check.f k l0 = some 0)) (hlen : l0.length ≤ 128) (hD : Aside0 (w.cell? D = some (.int .i64 day))) (hE : Aside0 (w.cell? E = some (.int .i64 days))) :
    Calls Try.prog 37 #[.slice A0 l0.length c0, .func (.func 44) #[] #[.pointer (some D), .pointer (some E)]] w fun e w' => e = .returned (.tuple #[.agg (cntRow (fun p : S40 => nearOf day days p.f0.f2 p.f1 p.f2) l0), .int .i64 0]) ∧ Below w.heap.size w w' := by
  have hu40 := Try.underlying40
  have hu38 := Try.underlying38
  have hu58 := Try.underlying58
  have HR := Aside0.mk hr0
  have HC := Aside0.mk hc0
  clear hr0 hc0
  go_enter Try.func37, Try.ntmps37
  go_wp2_with fail
  refine (position_Check.calls k _ _ _ _ _ (Kd.C_below HR.out ?_) HC.out hchk.out).mono ?_
  · repeat (first | exact Below.refl _ _ | apply below_alloc)
  rintro e w1 ⟨rfl, hb⟩
  have hb0 : Below w.heap.size w w1 := (below_alloc (Below.refl _ _) _).trans (hb.mono (by simp))
  have harr : w1.heap[w.heap.size]? = some (.cells (cntRow (fun p : S40 => nearOf day days p.f0.f2 p.f1 p.f2) []) 58 (0, 0)) := (hb.block w.heap.size (by simp)).trans (heap_alloc_new w _)
  have HB0 := Aside0.mk hb0
  have HARR := Aside0.mk harr
  clear hb hb0 harr
  go_wp2
  go_loopw [17] (fun i wr => ∃ j : Nat, j ≤ l0.length ∧ i = .int .i64 (j : Int) ∧ Aside0 (wr.heap[w.heap.size]? = some (.cells (cntRow (fun p : S40 => nearOf day days p.f0.f2 p.f1 p.f2) (l0.take j)) 58 (0, 0))) ∧ Aside0 (Below w.heap.size w wr)) (fun i _ => l0.length - (intOf i).toNat)
  case atStart => exact ⟨0, Nat.zero_le _, rfl, HARR, HB0⟩
  case round =>
    obtain ⟨j, hj, rfl, HA, HB⟩ := hrel
    clear HARR HB0
    have hblk : w.heap.size < wr.heap.size := blk_lt HA.out
    have c0' : wr.cell? ⟨w.heap.size, 0, none⟩ = some (.int .i64 0) := (blk_cell HA.out 0).trans rfl
    have c1' : wr.cell? ⟨w.heap.size, 1, none⟩ = some (.int .i64 (cntW (fun p : S40 => nearOf day days p.f0.f2 p.f1 p.f2) 1 (l0.take j))) := (blk_cell HA.out 1).trans rfl
    have c2' : wr.cell? ⟨w.heap.size, 2, none⟩ = some (.int .i64 (cntW (fun p : S40 => nearOf day days p.f0.f2 p.f1 p.f2) 2 (l0.take j))) := (blk_cell HA.out 2).trans rfl
    have c3' : wr.cell? ⟨w.heap.size, 3, none⟩ = some (.int .i64 (cntW (fun p : S40 => nearOf day days p.f0.f2 p.f1 p.f2) 3 (l0.take j))) := (blk_cell HA.out 3).trans rfl
    have f0' := blk_frozen HA.out 0
    have f1' := blk_frozen HA.out 1
    have f2' := blk_frozen HA.out 2
    have f3' := blk_frozen HA.out 3
    by_cases hlt : j < l0.length
    · obtain ⟨ad, hA0, e0, e1, e2, e3, e4, e5⟩ := at_T40 (Kd.C_below HR.out HB.out) (j : Int) (by omega) (by omega)
      subst hA0
      rw [Int.toNat_natCast] at e0 e1 e2 e3 e4 e5
      have cD : wr.cell? D = some (.int .i64 day) := pw_cell_below HB.out hD.out
      have cE : wr.cell? E = some (.int .i64 days) := pw_cell_below HB.out hE.out
      have lD : D.block < wr.heap.size := World.block_lt_of_cell? _ _ (by rw [cD])
      have lE : E.block < wr.heap.size := World.block_lt_of_cell? _ _ (by rw [cE])
      have neD : D.block ≠ w.heap.size := Nat.ne_of_lt (World.block_lt_of_cell? _ _ (by rw [hD.out]))
      have neE : E.block ≠ w.heap.size := Nat.ne_of_lt (World.block_lt_of_cell? _ _ (by rw [hE.out]))
      by_cases k1 : (rd_T40 l0 (j : Int)).f0.f1 = 1
      · have hg : True := trivial
        have HG := Aside0.mk hg
        clear hg
        go_wp2_with fail
        go_region_with (go_at_call 44; refine (floor_Near1.walk D E day days _ _ _ _ _ _ _ (by go_simp) (by go_simp)).mono ?_; rintro e w2 ⟨rfl, hb2⟩; have d1 := pw_cell_below hb2 (show World.cell? _ ⟨w.heap.size, 1, none⟩ = some (.int .i64 (cntW (fun p : S40 => nearOf day days p.f0.f2 p.f1 p.f2) 1 (l0.take j))) by go_simp); have g1 := (hb2.frozen (p := ⟨w.heap.size, 1, none⟩) (by simp; omega)).trans (by go_simp : World.frozen? _ _ = false))
        all_goals go_wp2
        all_goals (refine ⟨⟨j + 1, by omega, by go_num, Aside0.mk ?_, Aside0.mk ?_⟩, by simp [intOf]; omega⟩)
        all_goals go_light
        all_goals first
          | (refine blk_put (blk_below (o := .cells (cntRow (fun p : S40 => nearOf day days p.f0.f2 p.f1 p.f2) (l0.take j)) 58 (0, 0)) (by (with_reducible repeat (first | refine blk_drewN ?_ _ | refine blk_drew ?_ | refine blk_alloc ?_ _)); exact HA.out) hb2) 1 _ ?_
             unfold cntRow
             simp only [cnt_next _ _ l0 j hlt, k1, HG.out]
             simp)
          | exact below_set (below_then (by repeat (first | exact HB.out | apply below_alloc | apply pw_below_drewN | apply below_drew)) (by simp; omega) hb2) (Nat.le_refl _)
      by_cases k2 : (rd_T40 l0 (j : Int)).f0.f1 = 2
      · have hg : True := trivial
        have HG := Aside0.mk hg
        clear hg
        go_wp2_with fail
        go_region_with (go_at_call 44; refine (floor_Near1.walk D E day days _ _ _ _ _ _ _ (by go_simp) (by go_simp)).mono ?_; rintro e w2 ⟨rfl, hb2⟩; have d1 := pw_cell_below hb2 (show World.cell? _ ⟨w.heap.size, 2, none⟩ = some (.int .i64 (cntW (fun p : S40 => nearOf day days p.f0.f2 p.f1 p.f2) 2 (l0.take j))) by go_simp); have g1 := (hb2.frozen (p := ⟨w.heap.size, 2, none⟩) (by simp; omega)).trans (by go_simp : World.frozen? _ _ = false))
        all_goals go_wp2
        all_goals (refine ⟨⟨j + 1, by omega, by go_num, Aside0.mk ?_, Aside0.mk ?_⟩, by simp [intOf]; omega⟩)
        all_goals go_light
        all_goals first
          | (refine blk_put (blk_below (o := .cells (cntRow (fun p : S40 => nearOf day days p.f0.f2 p.f1 p.f2) (l0.take j)) 58 (0, 0)) (by (with_reducible repeat (first | refine blk_drewN ?_ _ | refine blk_drew ?_ | refine blk_alloc ?_ _)); exact HA.out) hb2) 2 _ ?_
             unfold cntRow
             simp only [cnt_next _ _ l0 j hlt, k2, HG.out]
             simp)
          | exact below_set (below_then (by repeat (first | exact HB.out | apply below_alloc | apply pw_below_drewN | apply below_drew)) (by simp; omega) hb2) (Nat.le_refl _)
      by_cases k3 : (rd_T40 l0 (j : Int)).f0.f1 = 3
      · have hg : True := trivial
        have HG := Aside0.mk hg
        clear hg
        go_wp2_with fail
        go_region_with (go_at_call 44; refine (floor_Near1.walk D E day days _ _ _ _ _ _ _ (by go_simp) (by go_simp)).mono ?_; rintro e w2 ⟨rfl, hb2⟩; have d1 := pw_cell_below hb2 (show World.cell? _ ⟨w.heap.size, 3, none⟩ = some (.int .i64 (cntW (fun p : S40 => nearOf day days p.f0.f2 p.f1 p.f2) 3 (l0.take j))) by go_simp); have g1 := (hb2.frozen (p := ⟨w.heap.size, 3, none⟩) (by simp; omega)).trans (by go_simp : World.frozen? _ _ = false))
        all_goals go_wp2
        all_goals (refine ⟨⟨j + 1, by omega, by go_num, Aside0.mk ?_, Aside0.mk ?_⟩, by simp [intOf]; omega⟩)
        all_goals go_light
        all_goals first
          | (refine blk_put (blk_below (o := .cells (cntRow (fun p : S40 => nearOf day days p.f0.f2 p.f1 p.f2) (l0.take j)) 58 (0, 0)) (by (with_reducible repeat (first | refine blk_drewN ?_ _ | refine blk_drew ?_ | refine blk_alloc ?_ _)); exact HA.out) hb2) 3 _ ?_
             unfold cntRow
             simp only [cnt_next _ _ l0 j hlt, k3, HG.out]
             simp)
          | exact below_set (below_then (by repeat (first | exact HB.out | apply below_alloc | apply pw_below_drewN | apply below_drew)) (by simp; omega) hb2) (Nat.le_refl _)
      by_cases kl : (rd_T40 l0 (j : Int)).f0.f1 < 1
      all_goals
        (try have kh : 3 < (rd_T40 l0 (j : Int)).f0.f1 := by omega)
        go_wp2
        refine ⟨⟨j + 1, by omega, by go_num, Aside0.mk (blk_alloc ?_ _), Aside0.mk (below_alloc HB.out _)⟩, by simp [intOf]; omega⟩
        have e : cntRow (fun p : S40 => nearOf day days p.f0.f2 p.f1 p.f2) (l0.take (j + 1)) = cntRow (fun p : S40 => nearOf day days p.f0.f2 p.f1 p.f2) (l0.take j) := by
          unfold cntRow
          rw [cnt_next _ _ l0 j hlt, cnt_next _ _ l0 j hlt, cnt_next _ _ l0 j hlt, if_neg k1, if_neg k2, if_neg k3]
        rw [e]
        exact HA.out
    · have hz : l0.take j = l0 := List.take_of_length_le (by omega)
      go_wp2
      refine bodyPost_ret (results_ct rfl _ _ w.heap.size 58 (cntRow (fun p : S40 => nearOf day days p.f0.f2 p.f1 p.f2) (l0.take j)) (0, 0) _ rfl ?_ Try.underlying58 rfl (by kernel_rfl)) rfl ?_
      · exact blk_put (blk_put (blk_put (blk_put HA.out 0 _ rfl) 1 _ rfl) 2 _ rfl) 3 _ (by rw [hz]; simp [cntRow])
      · exact ⟨by rw [hz]; rfl, below_set (below_set (below_set (below_set HB.out (Nat.le_refl _)) (Nat.le_refl _)) (Nat.le_refl _)) (Nat.le_refl _)⟩
def floor_Near.f (k : Nat) (l0 : List S40) (a1 a2 a3 : Int) : Option (Int × Int) := (position_Check.f k l0).bind fun e => if e = 0 then (if a1 < 0 ∨ 73048 < a1 then some (0, 15) else if a2 < 0 ∨ 73048 < a2 then some (0, 2) else if 0 ≤ a3 ∧ a3 ≤ 68719476736 then cents_Mul.f k (cntW (fun p : S40 => nearOf a1 a2 p.f0.f2 p.f1 p.f2) 1 l0) a3 else some (0, 2)) else some (0, e)
theorem floor_Near.mono : ∀ a0 a1 a2 a3 k, LeO (floor_Near.f k a0 a1 a2 a3) (floor_Near.f (k + 1) a0 a1 a2 a3) := by
  intro a0 a1 a2 a3 k
  unfold floor_Near.f
  refine LeO.bind (position_Check.mono _ _) (fun _ => LeO.ite (LeO.ite (LeO.refl _) (LeO.ite (LeO.refl _) (LeO.ite (cents_Mul.mono _ _ _) (LeO.refl _)))) (LeO.refl _))
set_option maxHeartbeats 8000000 in
set_option maxRecDepth 100000 in
theorem floor_Near.calls (k : Nat) (A0 : Option Addr) (c0 : Nat) (l0 : List S40) (a1 a2 a3 : Int) (r1 : Int) (r2 : Int) (w : World) (hr0 : Kd.C k40 w A0 l0.length l0) (hc0 : l0.length ≤ c0) (h : floor_Near.f k l0 a1 a2 a3 = some (r1, r2)) :
    Calls Try.prog 19 #[.slice A0 l0.length c0, .int .i64 a1, .int .i64 a2, .int .i64 a3] w fun e w' => e = .returned (.tuple #[.int .i64 r1, .int .i64 r2]) ∧ Below w.heap.size w w' := by
  have hu58 := Try.underlying58
  have HR := Aside0.mk hr0
  have HC := Aside0.mk hc0
  clear hr0 hc0
  obtain ⟨e, he, h⟩ := Option.bind_eq_some_iff.1 h
  have HE := Aside0.mk he
  clear he
  by_cases hz : e = 0
  · subst hz
    simp only [if_true] at h
    have HH := Aside0.mk h
    clear h
    go_enter Try.func19, Try.ntmps19
    go_wp2_with fail
    refine (floor_counted.n A0 c0 l0 k ⟨w.heap.size, 0, none⟩ ⟨w.heap.size + 1, 0, none⟩ a1 a2 _ (Kd.C_below HR.out ?_) HC.out HE (floor_len HE.out) ⟨?_⟩ ⟨?_⟩).mono ?_
    · repeat (first | exact Below.refl _ _ | apply below_alloc)
    · go_simp
    · go_simp
    rintro e w1 ⟨rfl, hb⟩
    have hb0 : Below w.heap.size w w1 := (below_alloc (below_alloc (Below.refl _ _) _) _).trans (hb.mono (by simp; omega))
    have g1 : w1.cell? ⟨w.heap.size, 0, none⟩ = some (.int .i64 a1) := pw_cell_below hb (by go_simp)
    have g2 : w1.cell? ⟨w.heap.size + 1, 0, none⟩ = some (.int .i64 a2) := pw_cell_below hb (by go_simp)
    have z0 : w.heap.size < w1.heap.size := World.block_lt_of_cell? _ _ (by rw [g1])
    have z1 : w.heap.size + 1 < w1.heap.size := World.block_lt_of_cell? _ _ (by rw [g2])
    have HB := Aside0.mk hb0
    clear hb hb0
    unfold cntRow
    by_cases d1 : a1 < 0
    · go_wp2
      go_ret2
      have H := HH.out
      rw [if_pos (Or.inl d1)] at H
      obtain ⟨rfl, rfl⟩ : (0:Int) = r1 ∧ (15:Int) = r2 := by simpa using H
      exact ⟨rfl, below_alloc HB.out _⟩
    by_cases d2 : 73048 < a1
    · go_wp2
      go_ret2
      have H := HH.out
      rw [if_pos (Or.inr d2)] at H
      obtain ⟨rfl, rfl⟩ : (0:Int) = r1 ∧ (15:Int) = r2 := by simpa using H
      exact ⟨rfl, below_alloc HB.out _⟩
    have hd : ¬ (a1 < 0 ∨ 73048 < a1) := by omega
    by_cases d3 : a2 < 0
    · go_wp2
      go_ret2
      have H := HH.out
      rw [if_neg hd, if_pos (Or.inl d3)] at H
      obtain ⟨rfl, rfl⟩ : (0:Int) = r1 ∧ (2:Int) = r2 := by simpa using H
      exact ⟨rfl, below_alloc HB.out _⟩
    by_cases d4 : 73048 < a2
    · go_wp2
      go_ret2
      have H := HH.out
      rw [if_neg hd, if_pos (Or.inr d4)] at H
      obtain ⟨rfl, rfl⟩ : (0:Int) = r1 ∧ (2:Int) = r2 := by simpa using H
      exact ⟨rfl, below_alloc HB.out _⟩
    have hd' : ¬ (a2 < 0 ∨ 73048 < a2) := by omega
    have H := HH.out
    rw [if_neg hd, if_neg hd'] at H
    have HF := Aside0.mk H
    clear H
    by_cases d5 : 0 ≤ a3 ∧ a3 ≤ 68719476736
    · have HM := Aside0.mk (HF.out.symm.trans (if_pos d5)).symm
      go_wp2_with fail
      refine (floor_rate.calls a3 true _ (by unfold floor_rate.f; rw [if_pos d5.1, decide_eq_true d5.2])).mono ?_
      rintro e w2 ⟨rfl, hd2⟩
      have q1 : w2.cell? ⟨w1.heap.size, 1, none⟩ = some (.int .i64 (cntW (fun p : S40 => nearOf a1 a2 p.f0.f2 p.f1 p.f2) 1 l0)) := pw_cell_below hd2.below (by go_simp)
      go_wp2_with fail
      refine (cents_Mul.calls k _ _ _ _ _ HM.out).mono ?_
      rintro e w3 ⟨rfl, hd3⟩
      go_wp2
      go_ret2
      have B1 := (below_alloc HB.out _).trans (hd2.below.mono (by have := HB.out.1; simp; omega))
      exact ⟨rfl, B1.trans (hd3.below.mono B1.size)⟩
    · have HM := Aside0.mk (HF.out.symm.trans (if_neg d5)).symm
      go_wp2_with fail
      refine (floor_rate.calls a3 false _ (by unfold floor_rate.f; split <;> simp <;> omega)).mono ?_
      rintro e w2 ⟨rfl, hd2⟩
      go_wp2
      go_ret2
      obtain ⟨rfl, rfl⟩ : (0:Int) = r1 ∧ (2:Int) = r2 := by simpa using HM.out
      exact ⟨rfl, (below_alloc HB.out _).trans (hd2.below.mono (by have := HB.out.1; simp; omega))⟩
  · rw [if_neg hz] at h
    simp only [Option.some.injEq, Prod.mk.injEq] at h
    obtain ⟨rfl, rfl⟩ := h
    go_enter Try.func19, Try.ntmps19
    go_wp2_with fail
    refine (floor_counted.err _ A0 c0 l0 k e _ (Kd.C_below HR.out ?_) HC.out HE hz).mono ?_
    · repeat (first | exact Below.refl _ _ | apply below_alloc)
    rintro e w1 ⟨rfl, hb⟩
    have hb0 : Below w.heap.size w w1 := (below_alloc (below_alloc (Below.refl _ _) _) _).trans (hb.mono (by simp; omega))
    go_wp2
    go_ret2
    exact ⟨rfl, below_alloc hb0 _⟩
def floor_Floor.f (a0 : Int) (a1 : Int) : Option (Int) := some (mx a0 a1)
set_option maxHeartbeats 8000000 in
set_option maxRecDepth 100000 in
theorem floor_Floor.calls (a0 : Int) (a1 : Int) (r : Int) (w : World) (h : floor_Floor.f a0 a1 = some r) :
    Calls Try.prog 17 #[.int .i64 a0, .int .i64 a1] w fun e w' => e = .returned (.int .i64 r) ∧ Below w.heap.size w w' := by
  have HB := Aside0.mk (Below.refl w.heap.size w)
  have H : (some (mx a0 a1)) = some r := h
  clear h
  obtain ⟨ji3, hji3⟩ : ∃ j_ : Int, (mx a0 a1) = j_ := ⟨_, rfl⟩
  replace H : (some ji3) = some r := by first | (rw [hji3] at H; exact H) | (simp only [hji3] at H ⊢; exact H)
  have hji3_ : (if a0 < a1 then a1 else a0) = ji3 := hji3
  obtain rfl := Option.some.inj H
  go_enter Try.func17, Try.ntmps17
  go_wp2
  go_ret
  exact ⟨by first | rfl | (simp [errW_none, errW_some] <;> rfl) | (simp only [← hji3]; first | rfl | (simp [errW_none, errW_some] <;> rfl)) | (simp [*, errW_none, errW_some] <;> rfl), by repeat (first | (with_reducible first | exact HB.out | apply below_alloc | apply pw_below_drewN | apply below_drew1) | exact HB.out)⟩
def contangolaw26_page.f  : Option ((List (S40))) := some (([(⟨(⟨(⟨#[111, 105, 108]⟩ : ByteArray), 1, 100, 0⟩ : S38), 0, 4⟩ : S40), (⟨(⟨(⟨#[111, 105, 108]⟩ : ByteArray), 3, 100, 50⟩ : S38), 5, 3⟩ : S40)] : List (S40)))
set_option maxHeartbeats 8000000 in
set_option maxRecDepth 100000 in
theorem contangolaw26_page.calls  (r : List (S40)) (w : World) (h : contangolaw26_page.f  = some r) :
    Calls Try.prog 36 #[] w fun e w' => ∃ v0_ : Value, e = .returned (v0_) ∧ Kd.R k40 40 w' w.heap.size (fun _ => True) v0_ r ∧ Below w.heap.size w w' := by
  have hu38 := Try.underlying38
  have hu40 := Try.underlying40
  have HB := Aside0.mk (Below.refl w.heap.size w)
  have H : (some (([(⟨(⟨(⟨#[111, 105, 108]⟩ : ByteArray), 1, 100, 0⟩ : S38), 0, 4⟩ : S40), (⟨(⟨(⟨#[111, 105, 108]⟩ : ByteArray), 3, 100, 50⟩ : S38), 5, 3⟩ : S40)] : List (S40)))) = some r := h
  clear h
  obtain ⟨y128, hy128⟩ : ∃ y_ : List (S40), y_ = (([(⟨(⟨(⟨#[111, 105, 108]⟩ : ByteArray), 1, 100, 0⟩ : S38), 0, 4⟩ : S40), (⟨(⟨(⟨#[111, 105, 108]⟩ : ByteArray), 3, 100, 50⟩ : S38), 5, 3⟩ : S40)] : List (S40))) := ⟨_, rfl⟩
  replace H : (some y128) = some r := by first | (rw [hy128]; with_reducible exact H) | (have H2_ := (Option.bind_some _ _).symm.trans H; rw [hy128]; with_reducible exact H2_) | (have H2_ := (Option.bind_some _ _).symm.trans H; with_reducible exact H2_) | with_reducible exact H | (rw [hy128]; exact H) | exact H
  have Ny128 := Aside0.mk hy128
  clear hy128
  obtain rfl := Option.some.inj H
  go_enter Try.func36, Try.ntmps36
  go_wp2_with (first | ((with_reducible refine gate_dst (N := 5) rfl ?_); refine Kd.R_lit k40 _ 40 ?hg (N := 5) ?hd (xs := ([(⟨(⟨(⟨#[111, 105, 108]⟩ : ByteArray), 1, 100, 0⟩ : S38), 0, 4⟩ : S40), (⟨(⟨(⟨#[111, 105, 108]⟩ : ByteArray), 3, 100, 50⟩ : S38), 5, 3⟩ : S40)] : List (S40))) (inner := [.string (⟨#[111, 105, 108]⟩ : ByteArray), .int .i64 1, .int .i64 100, .int .i64 0, .int .i64 0, .int .i64 4, .string (⟨#[111, 105, 108]⟩ : ByteArray), .int .i64 3, .int .i64 100, .int .i64 50, .int .i64 5, .int .i64 3]) (ok := fun _ => True) (okp := fun _ => True) ?hr ?hp (fun _ hk => hk) trivial (Below.refl _ _) (Nat.le_refl _) (by simp) ?_; (case hd => rfl); (case hg => rfl); (case hr => first | (go_simp; done) | (go_simp; rfl)); (case hp => exact (Reps.c6 (show Kd.M k40 _ _ _ (⟨(⟨(⟨#[111, 105, 108]⟩ : ByteArray), 1, 100, 0⟩ : S38), 0, 4⟩ : S40) [.string (⟨#[111, 105, 108]⟩ : ByteArray), .int .i64 1, .int .i64 100, .int .i64 0, .int .i64 0, .int .i64 4] from (k40_mkM _ _ _ (⟨(⟨(⟨#[111, 105, 108]⟩ : ByteArray), 1, 100, 0⟩ : S38), 0, 4⟩ : S40) )) (Reps.c6 (show Kd.M k40 _ _ _ (⟨(⟨(⟨#[111, 105, 108]⟩ : ByteArray), 3, 100, 50⟩ : S38), 5, 3⟩ : S40) [.string (⟨#[111, 105, 108]⟩ : ByteArray), .int .i64 3, .int .i64 100, .int .i64 50, .int .i64 5, .int .i64 3] from (k40_mkM _ _ _ (⟨(⟨(⟨#[111, 105, 108]⟩ : ByteArray), 3, 100, 50⟩ : S38), 5, 3⟩ : S40) )) (Reps.none _ _)))); intro v129 w1 ho2 hb hg_ hnew_; clear hg_ hnew_; (first | rw [← Ny128.out] at ho2 | (simp only [Int.reduceToNat] at ho2; rw [← Ny128.out] at ho2)); have n0_ := Aside0.mk (Kd.R_lower ho2 (below_size (by repeat (first | (with_reducible first | exact HB.out | apply below_alloc | apply pw_below_drewN | apply below_drew1) | exact HB.out)))); have n1_ := Aside0.mk (below_step (by repeat (first | (with_reducible first | exact HB.out | apply below_alloc | apply pw_below_drewN | apply below_drew1) | exact HB.out)) hb); clear HB; have HO130 := n0_; have HB := n1_; clear n0_ n1_; clear hb ho2))
  go_ret
  exact ⟨_, by first | rfl | (simp [errW_none, errW_some] <;> rfl) | (simp [*, errW_none, errW_some] <;> rfl), by (with_reducible repeat (first | apply Kd.R_alloc | apply Kd.R_drewN | apply Kd.R_drew)); exact HO130.out, by repeat (first | (with_reducible first | exact HB.out | apply below_alloc | apply pw_below_drewN | apply below_drew1) | exact HB.out)⟩
def mdSgn (q : Int) (b : Bool) : Int × Int := if q > 1152921504606846976 then (0, 3) else if b = true then (wrap64 (-(wrap64 q)), 0) else (wrap64 q, 0)
theorem md_sgn (q : Int) (b : Bool) : cents_signed.f q b = some ((mdSgn q b).1, (mdSgn q b).2) := by
  unfold cents_signed.f mdSgn
  repeat' split
  all_goals rfl
theorem md_sgn_eq (q : Int) (b : Bool) (h : 0 ≤ q) : mdSgn q b = if 1152921504606846976 < q then (0, 3) else (if b = true then -q else q, 0) := by
  unfold mdSgn
  by_cases c : q > 1152921504606846976
  · rw [if_pos c, if_pos c]
  · rw [if_neg c, if_neg c]
    cases b <;> simp [wrap64] <;> omega
def contangoref26_times.f (a0 : Int) (a1 : Int) : Option (Int × Int) := if a1 > 0 then (if a1 = 0 then (none) else (if a0 > (wrap64 (Int.tdiv (1152921504606846976 : Int) a1)) then (some (0, 3)) else (some (wrap64 (a0 * a1), 0)))) else (some (wrap64 (a0 * a1), 0))
end Go.Proofs.Ytffdehnmoimikaa.Pr
