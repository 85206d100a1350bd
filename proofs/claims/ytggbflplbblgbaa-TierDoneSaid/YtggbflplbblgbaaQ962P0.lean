/- Functions' values and contracts, as the print wrote them. -/
import Derived.Test.YtggbflplbblgbaaProg
import Derived.Below
import Derived.Deep.Draws
import Derived.Deep.AppendLies
import Derived.Maps.AppendAt
import Derived.OwnWalk
import Derived.Laws.BytesArg
import Derived.Laws.MakeOwn
import Derived.Laws.OwnMore
import Derived.Deep.OwnRows
import Derived.Tactics
import Derived.Lib.ConvBytes
import Derived.Laws.Slices
import Derived.WalkKit
import Derived.KernelRfl
import Derived.RowKit3
import Derived.Deep.LoopGhost
import Derived.Deep.QuietTactic
import Derived.BigQuiet
import Derived.WideLaws
import Derived.Deep.DeepCutAuto
import Derived.Deep.CutBlock
import Derived.Deep.RegionHeld3
import Derived.Laws.Rows
import Derived.Lib.AppendStr
import Derived.ArgAppend
import Derived.Laws.IdiomCopy
import Derived.OrdersHeld
import Derived.Laws.BitsLemmas
import Derived.RowKit
import Derived.Laws.Cover1
import Derived.Lib.BitFns
import Derived.Lib.ItoaNum
import Derived.Deep.Light
import Derived.Lib.LazyBuf
import Derived.Lib.Mul64
import Derived.Laws.Bits64b
import Derived.Lib.Small
import Derived.Lib.Walk
import Derived.Lib.Strings
import Derived.Lib.Slices
import Derived.Test.YtggbflplbblgbaaQ962WWords
import Derived.Test.YtggbflplbblgbaaQ962WLast
import Derived.Test.YtggbflplbblgbaaQ962WTab
import Derived.Test.YtggbflplbblgbaaQ962WApart
import Derived.Test.YtggbflplbblgbaaQ962WFoot
import Derived.Test.YtggbflplbblgbaaQ962WKept
import Derived.Test.YtggbflplbblgbaaQ962WShare
import Derived.Test.YtggbflplbblgbaaQ962WN
import Derived.Laws.StructEq
import Derived.Test.YtggbflplbblgbaaQ962WRepsOne
import Derived.Test.YtggbflplbblgbaaQ962WGuard
import Derived.Test.YtggbflplbblgbaaQ962WMore
namespace Go.Proofs.Ytggbflplbblgbaa.Pr
open Bool renaming true → T
open Bool renaming false → F
open Go.RowKit Go.Proofs.YtggbflplbblgbaaW.PrintWords Go.Proofs.YtggbflplbblgbaaW.PrintLast Go.Proofs.YtggbflplbblgbaaW.PrintMore
attribute [local go_sem] QaD QaF QaJ QaK QaB QaC QaE QaG   -- for this text's walks alone
set_option linter.unusedVariables false
set_option linter.unusedSimpArgs false
set_option maxRecDepth 100000
def errW : Option Int → Value
 | none => .nilIface
 | some c => .iface 0 (.int .i64 c)
theorem Qaj : errW none = .nilIface := rfl
theorem Qak (c : Int) : errW (some c) = .iface 0 (.int .i64 c) := rfl
def mdFits (n : Int) : Prop := -1152921504606846976 ≤ n ∧ n ≤ 1152921504606846976
instance (n : Int) : Decidable (mdFits n) := inferInstanceAs (Decidable (_ ∧ _))
theorem Qdk {P : Program} {fn : Func} {R : Ending → World → Prop} {c : Code} {a : Act} {w : World} (h : c.wp P (bodyPost P fn R) a w) : (Code.scope c).wp P (bodyPost P fn R) a w :=
 wp_scope_straight (Code.wp_mono (fun e a w hq => by cases e <;> first | exact hq | exact hq.elim) h)
theorem info3 : (Try.prog.info? 3).map (fun i => (i.zero, i.size, i.bytes)) = some (some (.int .i64 0), 1, 8) := by kernel_rfl
structure S91 where
 f0 : Int
 f1 : Int
 f2 : Int
def z91 : S91 := ⟨(0 : Int), (0 : Int), (0 : Int)⟩
def k91 : Kd S91 := Kd.iso (Kd.pair (Kd.int .i64) (Kd.pair (Kd.int .i64) (Kd.int .i64))) (fun x : S91 => (x.f0, x.f1, x.f2))
theorem QdR {w : World} {x : S91} {cs : List Value} (h : k91.K w x cs) : cs = [.int .i64 x.f0, .int .i64 x.f1, .int .i64 x.f2] := by
 obtain ⟨_, _, rfl, rfl, ⟨_, _, rfl, rfl, rfl⟩⟩ := h
 exact rfl
theorem Qc0 (w : World) (base : Nat) (ok : Nat → Prop) (x : S91)  : k91.M w base ok x [.int .i64 x.f0, .int .i64 x.f1, .int .i64 x.f2] := ⟨[.int .i64 x.f0], [.int .i64 x.f1, .int .i64 x.f2], rfl, rfl, ⟨[.int .i64 x.f1], [.int .i64 x.f2], rfl, rfl, rfl⟩⟩
def rd_T91 (xs : List S91) (i : Int) : S91 := xs.getD i.toNat z91
theorem at_T91 {w : World} {A : Option Addr} {n : Nat} {xs : List S91} (h : Kd.C k91 w A n xs) (i : Int) (h0 : 0 ≤ i) (h1 : i < n) : ∃ ad , A = some ad ∧ w.cell? (ad.add (i.toNat * 3)) = some (.int .i64 (rd_T91 xs i).f0) ∧ w.cell? ⟨(ad.add (i.toNat * 3)).block, (ad.add (i.toNat * 3)).off + 1, none⟩ = some (.int .i64 (rd_T91 xs i).f1) ∧ w.cell? ⟨(ad.add (i.toNat * 3)).block, (ad.add (i.toNat * 3)).off + 2, none⟩ = some (.int .i64 (rd_T91 xs i).f2) := by
 obtain ⟨ad, c, e, _, hK, hc0⟩ := Kd.C_get h z91 i h0 h1
 have hc : ∀ j u, c[j]? = some u → w.cell? (ad.add (i.toNat * 3 + j)) = some u := hc0
 obtain rfl := QdR hK
 exact ⟨ad, e, hc 0 _ rfl, by rw [← Qcm _ _ 1 (by omega)]; exact hc 1 _ rfl, by rw [← Qcm _ _ 2 (by omega)]; exact hc 2 _ rfl⟩
def QaA.f (a0 : Int) (a1 : Int) (a2 : Int) : Option (Bool) := if a0 ≥ a1 then (some (decide (a0 ≤ a2))) else (some F)
set_option maxHeartbeats 8000000 in
theorem QaA.calls (a0 : Int) (a1 : Int) (a2 : Int) (r : Bool) (w : World) (h : QaA.f a0 a1 a2 = some r) :
  Calls Try.prog 60 #[.int .i64 a0, .int .i64 a1, .int .i64 a2] w fun e w' => e = .returned (.bool r) ∧ Drawn0 w w' := by
 have H : (if a0 ≥ a1 then (some (decide (a0 ≤ a2))) else (some F)) = some r := h
 clear h
 by_cases c4 : a0 ≥ a1
 ·rw [if_pos c4] at H
  have c4b0 : decide (a1 ≤ a0) = T := decide_eq_true c4
  clear c4
  obtain rfl := Option.some.inj H
  go_enter Try.func60, Try.ntmps60
  go_wp2
  go_ret
  exact ⟨Zs, Zd⟩
 rw [if_neg c4] at H
 have c4b0 : decide (a1 ≤ a0) = F := decide_eq_false c4
 clear c4
 obtain rfl := Option.some.inj H
 go_enter Try.func60, Try.ntmps60
 go_wp2
 go_ret
 exact ⟨Zs, Zd⟩
mutual
def Qar.l0 : Nat → List (S91) → Int → Int → Option (Int)
 | 0, _, _, _ => none
 | k + 1, x8, x9, x10 => if x10 < x9 then (if 0 ≤ x10 then (if x10 < (x8.length : Int) then ((QaA.f ((rd_T91 x8 x10).f0) 0 73048).bind fun t488 => (if t488 = T then ((QaA.f ((rd_T91 x8 x10).f1) 0 73048).bind fun t489 => (if t489 = T then (Qar.j1 k x8 x9 x10 (((rd_T91 x8 x10).f0) == ((rd_T91 x8 x10).f1)) ((rd_T91 x8 x10).f0) ((rd_T91 x8 x10).f1) ((rd_T91 x8 x10).f2)) else (Qar.j1 k x8 x9 x10 T ((rd_T91 x8 x10).f0) ((rd_T91 x8 x10).f1) ((rd_T91 x8 x10).f2)))) else (Qar.j1 k x8 x9 x10 T ((rd_T91 x8 x10).f0) ((rd_T91 x8 x10).f1) ((rd_T91 x8 x10).f2)))) else (none)) else (none)) else (some 0)
def Qar.j1 : Nat → List (S91) → Int → Int → Bool → Int → Int → Int → Option (Int)
 | 0, _, _, _, _, _, _, _ => none
 | k + 1, x8, x9, x10, x14, x488000, x488001, x488002 => if x14 = T then (some 15) else ((QaA.f x488002 0 68719476736).bind fun t490 => (if t490 = T then (Qar.l0 k x8 x9 (wrap64 (x10 + 1))) else (some 2)))
end
def Qar.f (k : Nat) (l0 : List (S91)) : Option (Int) := if (l0.length : Int) > 1024 then (some 8) else (Qar.l0 k l0 (l0.length : Int) 0)
theorem Qar.mono_l : ∀ k, (∀ y0 y1 y2, LeO (Qar.l0 k y0 y1 y2) (Qar.l0 (k + 1) y0 y1 y2)) ∧ (∀ y0 y1 y2 y3 y4 y5 y6, LeO (Qar.j1 k y0 y1 y2 y3 y4 y5 y6) (Qar.j1 (k + 1) y0 y1 y2 y3 y4 y5 y6))
 | 0 => ⟨fun _ _ _ r h => by simp [Qar.l0] at h, fun _ _ _ _ _ _ _ r h => by simp [Qar.j1] at h⟩
 | k + 1 => by
  obtain ⟨ih0, ih1⟩ := Qar.mono_l k
  refine ⟨?_, ?_⟩
  ·intro y0 y1 y2
   unfold Qar.l0
   exact ZM2 ih0 ih1
  intro y0 y1 y2 y3 y4 y5 y6
  unfold Qar.j1
  exact ZM2 ih0 ih1
theorem Qar.mono : ∀ a0 k, LeO (Qar.f k a0) (Qar.f (k + 1) a0) := by
 intro a0 k
 obtain ⟨ih0, ih1⟩ := Qar.mono_l k
 unfold Qar.f
 exact ZM2 ih0 ih1
set_option maxHeartbeats 8000000 in
theorem Qar.calls (k : Nat) (A0 : Option Addr) (c0 : Nat) (l0 : List (S91)) (r : Int) (w : World) (hr0 : Kd.C k91 w A0 l0.length l0) (hc0 : l0.length ≤ c0) (h : Qar.f k l0 = some r) :
  Calls Try.prog 38 #[.slice A0 l0.length c0] w fun e w' => e = .returned (.int .i64 r) ∧ Below w.heap.size w w' := by
 have hu91 := Try.underlying91
 have HR0 := Aside0.mk hr0
 have HC0 := Aside0.mk hc0
 clear hr0 hc0
 have HB := Aside0.mk (Below.refl w.heap.size w)
 have H : (if (l0.length : Int) > 1024 then (some 8) else (Qar.l0 k l0 (l0.length : Int) 0)) = some r := h
 clear h
 by_cases c2 : (l0.length : Int) > 1024
 ·rw [if_pos c2] at H
  have c2b0 : decide (1024 < (l0.length : Int)) = T := decide_eq_true c2
  have c2b1 : decide (1024 < l0.length) = T := decide_eq_true (by omega)
  clear c2
  obtain rfl := Option.some.inj H
  go_enter Try.func38, Try.ntmps38
  go_wp2
  go_ret
  exact ⟨Zq, Zb⟩
 rw [if_neg c2] at H
 have c2b0 : decide (1024 < (l0.length : Int)) = F := decide_eq_false c2
 have c2b1 : decide (1024 < l0.length) = F := decide_eq_false (by omega)
 clear c2
 have H' := Aside0.mk H
 clear H
 go_enter Try.func38, Try.ntmps38
 go_wp2
 go_loopg [10] k (fun kq v10 w' => ∃ (x10_1 : Int), v10 = .int .i64 x10_1 ∧ Aside0 (Qar.l0 kq l0 (l0.length : Int) x10_1 = some r) ∧ Aside0 (kq ≤ k) ∧ Aside0 (Below w.heap.size w w'))
 case atStart => exact ⟨(0), (Zs), H', ⟨Nat.le_refl _⟩, ⟨Zb⟩⟩
 case round =>
  clear H'
  try clear c2
  try clear c2b0
  try clear c2b1
  try clear p2
  obtain ⟨x10_1, rfl, HA, HK1, HB⟩ := hrel
  cases gk with
  | zero => exact absurd HA.out (by simp [Qar.l0])
  | succ k1 =>
   have H := HA.out
   clear HA
   simp only [Qar.l0] at H
   by_cases c3 : x10_1 < (l0.length : Int)
   ·rw [if_pos c3] at H
    have c3b0 : decide (x10_1 < (l0.length : Int)) = T := decide_eq_true c3
    clear c3
    (try simp only [c3b0])
    by_cases c4 : 0 ≤ x10_1
    ·rw [if_pos c4] at H
     have c4b0 : decide (0 ≤ x10_1) = T := decide_eq_true c4
     clear c4
     by_cases c5 : x10_1 < (l0.length : Int)
     ·rw [if_pos c5] at H
      have c5b0 : decide (x10_1 < (l0.length : Int)) = T := decide_eq_true c5
      clear c5
      have HC6 := Aside0.mk H
      clear H
      have p486 : 0 ≤ (x10_1 : Int) := Ze
      have q486 : x10_1 < (l0.length : Int) := Ze
      obtain ⟨ad486, e486, hx486_0, hx486_1, hx486_2⟩ := at_T91 HR0.out x10_1 p486 q486
      cases e486
      replace hx486_0 := Zx HB.out hx486_0
      replace hx486_1 := Zx HB.out hx486_1
      replace hx486_2 := Zx HB.out hx486_2
      replace p486 := eq_true p486
      replace q486 := eq_true q486
      go_upto_region 6 with (first | ((with_reducible refine Qbi (N := 4) rfl ?_); refine Zbx (N := 4) (cs := #[.int .i64 0, .int .i64 0, .int .i64 0]) (t := 91) ?_; intro gb487 hg w7 hbox hb; have BK487 := Aside0.mk (hbox); have GW487 := Aside0.mk (Zt w hg (Zb)); have GE487 := GW487; replace HB := Aside0.mk (Qax (Zb) hb); clear hb hbox hg; obtain ⟨hcz8_0, hfz8_0⟩ := Zy (v := (.int .i64 0)) BK487.out 0; obtain ⟨hcz8_1, hfz8_1⟩ := Zy (v := (.int .i64 0)) BK487.out 1; obtain ⟨hcz8_2, hfz8_2⟩ := Zy (v := (.int .i64 0)) BK487.out 2))
      (try simp only [Act.put, Zj, Zk, Zm])
      go_cut [14] (fun v14 wc => ∃ (kq : Nat) (x14_5 : Bool), v14 = .bool x14_5 ∧ Aside0 (Qar.j1 kq l0 (l0.length : Int) x10_1 x14_5 ((rd_T91 l0 x10_1).f0) ((rd_T91 l0 x10_1).f1) ((rd_T91 l0 x10_1).f2) = some r) ∧ Aside0 (kq ≤ k1) ∧ Aside0 (wc.heap[gb487]? = some (.cells #[.int .i64 ((rd_T91 l0 x10_1).f0), .int .i64 ((rd_T91 l0 x10_1).f1), .int .i64 ((rd_T91 l0 x10_1).f2)] 91 (0, 0))) ∧ Aside0 (Below w.heap.size w wc))
      case first =>
       have H := HC6.out
       clear HC6
       replace H := Option.bind_eq_some_iff.mp H
       obtain ⟨t488, A90, H⟩ := H
       replace H : (if t488 = T then ((QaA.f ((rd_T91 l0 x10_1).f1) 0 73048).bind fun t489 => (if t489 = T then (Qar.j1 k1 l0 (l0.length : Int) x10_1 (((rd_T91 l0 x10_1).f0) == ((rd_T91 l0 x10_1).f1)) ((rd_T91 l0 x10_1).f0) ((rd_T91 l0 x10_1).f1) ((rd_T91 l0 x10_1).f2)) else (Qar.j1 k1 l0 (l0.length : Int) x10_1 T ((rd_T91 l0 x10_1).f0) ((rd_T91 l0 x10_1).f1) ((rd_T91 l0 x10_1).f2)))) else (Qar.j1 k1 l0 (l0.length : Int) x10_1 T ((rd_T91 l0 x10_1).f0) ((rd_T91 l0 x10_1).f1) ((rd_T91 l0 x10_1).f2))) = some r := H
       have A9 := Aside0.mk A90
       clear A90
       by_cases c10 : t488 = T
       ·subst c10
        have H1 : ((QaA.f ((rd_T91 l0 x10_1).f1) 0 73048).bind fun t489 => (if t489 = T then (Qar.j1 k1 l0 (l0.length : Int) x10_1 (((rd_T91 l0 x10_1).f0) == ((rd_T91 l0 x10_1).f1)) ((rd_T91 l0 x10_1).f0) ((rd_T91 l0 x10_1).f1) ((rd_T91 l0 x10_1).f2)) else (Qar.j1 k1 l0 (l0.length : Int) x10_1 T ((rd_T91 l0 x10_1).f0) ((rd_T91 l0 x10_1).f1) ((rd_T91 l0 x10_1).f2)))) = some r := by rw [if_pos rfl] at H; exact H
        clear H
        have H := H1
        clear H1
        replace H := Option.bind_eq_some_iff.mp H
        obtain ⟨t489, A110, H⟩ := H
        replace H : (if t489 = T then (Qar.j1 k1 l0 (l0.length : Int) x10_1 (((rd_T91 l0 x10_1).f0) == ((rd_T91 l0 x10_1).f1)) ((rd_T91 l0 x10_1).f0) ((rd_T91 l0 x10_1).f1) ((rd_T91 l0 x10_1).f2)) else (Qar.j1 k1 l0 (l0.length : Int) x10_1 T ((rd_T91 l0 x10_1).f0) ((rd_T91 l0 x10_1).f1) ((rd_T91 l0 x10_1).f2))) = some r := H
        have A11 := Aside0.mk A110
        clear A110
        by_cases c12 : t489 = T
        ·subst c12
         have H1 : (Qar.j1 k1 l0 (l0.length : Int) x10_1 (((rd_T91 l0 x10_1).f0) == ((rd_T91 l0 x10_1).f1)) ((rd_T91 l0 x10_1).f0) ((rd_T91 l0 x10_1).f1) ((rd_T91 l0 x10_1).f2)) = some r := by rw [if_pos rfl] at H; exact H
         clear H
         have H := H1
         clear H1
         have H' := Aside0.mk H
         clear H
         obtain ⟨hcz13_0, hfz13_0⟩ := Zy (v := (.int .i64 0)) BK487.out 0
         obtain ⟨hcz13_1, hfz13_1⟩ := Zy (v := (.int .i64 0)) BK487.out 1
         obtain ⟨hcz13_2, hfz13_2⟩ := Zy (v := (.int .i64 0)) BK487.out 2
         go_wp2_with (first | ((with_reducible refine Qat (f := 60) rfl ?_); refine goesL_ (some 17) rfl rfl Try.func60 (by kernel_rfl) rfl #[.int .i64 ((rd_T91 l0 x10_1).f0), .int .i64 0, .int .i64 73048] rfl (Zl) ?_; (with_reducible refine (QaA.calls ((rd_T91 l0 x10_1).f0) 0 73048 T _ A9.out).mono ?_); rintro e w' ⟨rfl, ⟨nd, rfl⟩⟩; refine ⟨_, rfl, ?_⟩) | (go_at_call 60; (with_reducible refine (QaA.calls ((rd_T91 l0 x10_1).f1) 0 73048 T _ A11.out).mono ?_); rintro e w' ⟨rfl, ⟨nd, rfl⟩⟩))
         go_meet
         case rel => exact ⟨_, ((((rd_T91 l0 x10_1).f0) == ((rd_T91 l0 x10_1).f1))), (Zs), H', ⟨by have := HK1.out; first | omega | exact Nat.le_refl _⟩, ⟨Zp2 BK487.out⟩, ⟨Zc1 GE487.out⟩⟩
        replace c12 := Bool.eq_false_iff.mpr c12
        subst c12
        have H1 : (Qar.j1 k1 l0 (l0.length : Int) x10_1 T ((rd_T91 l0 x10_1).f0) ((rd_T91 l0 x10_1).f1) ((rd_T91 l0 x10_1).f2)) = some r := by rw [if_neg (show ¬ (F = T) by decide)] at H; exact H
        clear H
        have H := H1
        clear H1
        have H' := Aside0.mk H
        clear H
        obtain ⟨hcz14_0, hfz14_0⟩ := Zy (v := (.int .i64 0)) BK487.out 0
        obtain ⟨hcz14_1, hfz14_1⟩ := Zy (v := (.int .i64 0)) BK487.out 1
        obtain ⟨hcz14_2, hfz14_2⟩ := Zy (v := (.int .i64 0)) BK487.out 2
        go_wp2_with (first | ((with_reducible refine Qat (f := 60) rfl ?_); refine goesL_ (some 17) rfl rfl Try.func60 (by kernel_rfl) rfl #[.int .i64 ((rd_T91 l0 x10_1).f0), .int .i64 0, .int .i64 73048] rfl (Zl) ?_; (with_reducible refine (QaA.calls ((rd_T91 l0 x10_1).f0) 0 73048 T _ A9.out).mono ?_); rintro e w' ⟨rfl, ⟨nd, rfl⟩⟩; refine ⟨_, rfl, ?_⟩) | (go_at_call 60; (with_reducible refine (QaA.calls ((rd_T91 l0 x10_1).f1) 0 73048 F _ A11.out).mono ?_); rintro e w' ⟨rfl, ⟨nd, rfl⟩⟩))
        go_meet
        case rel => exact ⟨_, (T), (Zs), H', ⟨by have := HK1.out; first | omega | exact Nat.le_refl _⟩, ⟨Zp2 BK487.out⟩, ⟨Zc1 GE487.out⟩⟩
       replace c10 := Bool.eq_false_iff.mpr c10
       subst c10
       have H1 : (Qar.j1 k1 l0 (l0.length : Int) x10_1 T ((rd_T91 l0 x10_1).f0) ((rd_T91 l0 x10_1).f1) ((rd_T91 l0 x10_1).f2)) = some r := by rw [if_neg (show ¬ (F = T) by decide)] at H; exact H
       clear H
       have H := H1
       clear H1
       have H' := Aside0.mk H
       clear H
       obtain ⟨hcz15_0, hfz15_0⟩ := Zy (v := (.int .i64 0)) BK487.out 0
       obtain ⟨hcz15_1, hfz15_1⟩ := Zy (v := (.int .i64 0)) BK487.out 1
       obtain ⟨hcz15_2, hfz15_2⟩ := Zy (v := (.int .i64 0)) BK487.out 2
       go_wp2_with (first | ((with_reducible refine Qat (f := 60) rfl ?_); refine goesL_ (some 17) rfl rfl Try.func60 (by kernel_rfl) rfl #[.int .i64 ((rd_T91 l0 x10_1).f0), .int .i64 0, .int .i64 73048] rfl (Zl) ?_; (with_reducible refine (QaA.calls ((rd_T91 l0 x10_1).f0) 0 73048 F _ A9.out).mono ?_); rintro e w' ⟨rfl, ⟨nd, rfl⟩⟩; refine ⟨_, rfl, ?_⟩))
       go_meet
       case rel => exact ⟨_, (T), (Zs), H', ⟨by have := HK1.out; first | omega | exact Nat.le_refl _⟩, ⟨Zp2 BK487.out⟩, ⟨Zc1 GE487.out⟩⟩
      case rest =>
       clear HC6
       try clear c1
       try clear c2
       try clear c2b0
       try clear c2b1
       try clear p2
       try clear c3
       try clear c3b0
       try clear c4
       try clear c4b0
       try clear p4
       try clear q4
       try clear hx4
       try clear c5
       try clear c5b0
       try clear c6
       try clear c10
       try clear c12
       try clear hcz13_0
       try clear hcz13_1
       try clear hcz13_2
       try clear hcz14_0
       try clear hcz14_1
       try clear hcz14_2
       try clear hcz15_0
       try clear hcz15_1
       try clear hcz15_2
       try clear hcz8_0
       try clear hcz8_1
       try clear hcz8_2
       try clear hfz13_0
       try clear hfz13_1
       try clear hfz13_2
       try clear hfz14_0
       try clear hfz14_1
       try clear hfz14_2
       try clear hfz15_0
       try clear hfz15_1
       try clear hfz15_2
       try clear hfz8_0
       try clear hfz8_1
       try clear hfz8_2
       try clear hx486_0
       try clear hx486_1
       try clear hx486_2
       try clear p2
       try clear p486
       try clear q486
       obtain ⟨kq, x14_5, rfl, HA, HJ5, BK487, HB⟩ := hcut
       cases kq with
       | zero => exact absurd HA.out (by simp [Qar.j1])
       | succ kj5 =>
        have H := HA.out
        clear HA
        simp only [Qar.j1] at H
        by_cases c16 : x14_5 = T
        ·subst c16
         have H1 : (some 15) = some r := by rw [if_pos rfl] at H; exact H
         clear H
         have H := H1
         clear H1
         obtain rfl := Option.some.inj H
         go_wp2
         go_ret
         exact ⟨Zq, Zc1 GE487.out⟩
        replace c16 := Bool.eq_false_iff.mpr c16
        subst c16
        have H1 : ((QaA.f ((rd_T91 l0 x10_1).f2) 0 68719476736).bind fun t490 => (if t490 = T then (Qar.l0 kj5 l0 (l0.length : Int) (wrap64 (x10_1 + 1))) else (some 2))) = some r := by rw [if_neg (show ¬ (F = T) by decide)] at H; exact H
        clear H
        have H := H1
        clear H1
        replace H := Option.bind_eq_some_iff.mp H
        obtain ⟨t490, A170, H⟩ := H
        replace H : (if t490 = T then (Qar.l0 kj5 l0 (l0.length : Int) (wrap64 (x10_1 + 1))) else (some 2)) = some r := H
        have A17 := Aside0.mk A170
        clear A170
        obtain ⟨hcz18_0, hfz18_0⟩ := Zy (v := (.int .i64 ((rd_T91 l0 x10_1).f0))) BK487.out 0
        obtain ⟨hcz18_1, hfz18_1⟩ := Zy (v := (.int .i64 ((rd_T91 l0 x10_1).f1))) BK487.out 1
        obtain ⟨hcz18_2, hfz18_2⟩ := Zy (v := (.int .i64 ((rd_T91 l0 x10_1).f2))) BK487.out 2
        go_upto_if 32 with (first | ((with_reducible refine Qat (f := 60) rfl ?_); refine goesL_ (some 35) rfl rfl Try.func60 (by kernel_rfl) rfl #[.int .i64 ((rd_T91 l0 x10_1).f2), .int .i64 0, .int .i64 68719476736] rfl (Zl) ?_; (with_reducible refine (QaA.calls ((rd_T91 l0 x10_1).f2) 0 68719476736 t490 _ A17.out).mono ?_); rintro e w' ⟨rfl, ⟨nd, rfl⟩⟩; refine ⟨_, rfl, ?_⟩))
        (try simp only [Act.put, Zj, Zk, Zm])
        by_cases c19 : t490 = T
        ·subst c19
         have H1 : (Qar.l0 kj5 l0 (l0.length : Int) (wrap64 (x10_1 + 1))) = some r := by rw [if_pos rfl] at H; exact H
         clear H
         have H := H1
         clear H1
         have H' := Aside0.mk H
         clear H
         go_wp2
         go_roundg kj5
         case measure => have := HK1.out; have := HJ5.out; omega
         case rel => exact ⟨(wrap64 (x10_1 + 1)), (Zs), H', ⟨by have := HK1.out; have := HJ5.out; omega⟩, ⟨Zc1 GE487.out⟩⟩
        replace c19 := Bool.eq_false_iff.mpr c19
        subst c19
        have H1 : (some 2) = some r := by rw [if_neg (show ¬ (F = T) by decide)] at H; exact H
        clear H
        have H := H1
        clear H1
        obtain rfl := Option.some.inj H
        go_wp2
        go_ret
        exact ⟨Zq, Zc1 GE487.out⟩
     rw [if_neg c5] at H
     exact absurd H (by simp)
    rw [if_neg c4] at H
    exact absurd H (by simp)
   rw [if_neg c3] at H
   have c3b0 : decide (x10_1 < (l0.length : Int)) = F := decide_eq_false c3
   clear c3
   (try simp only [c3b0])
   obtain rfl := Option.some.inj H
   go_wp2
   go_ret
   exact ⟨Zq, Zb⟩
def QaU.f (l0 : List Int) : Option (List Int) := (some (([] : List Int) : List Int)).bind fun y491 => (if y491.length + l0.length < 17592186044416 then (some (y491 ++ l0)) else (none))
set_option maxHeartbeats 8000000 in
theorem QaU.calls_some (A00 : Addr) (c0 : Nat) (l0 : List Int) (r : List Int) (w : World) (hr0 : Kd.C (Kd.int .i64) w (some A00) l0.length l0) (hc0 : l0.length ≤ c0) (h : QaU.f l0 = some r) :
  Calls Try.prog 61 #[.slice (some A00) l0.length c0] w fun e w' => ∃ v0_ : Value, e = .returned (v0_) ∧ Kd.R (Kd.int .i64) 3 w' w.heap.size (fun _ => True) v0_ r ∧ Below w.heap.size w w' := by
 have hsn : ∀ (W : World) (n c : Nat), (binOp .eql 46 (.slice (some A00) n c) (.slice none 0 0)).run Try.prog W = .ok (.bool F) W := fun W n c => Go.run_eql_slice_nil W _ _ (some A00) n c Try.underlying46
 have HR0 := Aside0.mk hr0
 have HC0 := Aside0.mk hc0
 clear hr0 hc0
 have HB := Aside0.mk (Below.refl w.heap.size w)
 have H : ((some (([] : List Int) : List Int)).bind fun y491 => (if y491.length + l0.length < 17592186044416 then (some (y491 ++ l0)) else (none))) = some r := h
 clear h
 obtain ⟨y491, hy491⟩ : ∃ y_ : List Int, y_ = (([] : List Int)) := ⟨_, rfl⟩
 replace H : (if y491.length + l0.length < 17592186044416 then (some (y491 ++ l0)) else (none)) = some r := by first | (rw [hy491]; with_reducible exact H) | (have H2_ := (Option.bind_some _ _).symm.trans H; rw [hy491]; with_reducible exact H2_) | (have H2_ := (Option.bind_some _ _).symm.trans H; with_reducible exact H2_) | with_reducible exact H | (rw [hy491]; exact H) | exact H
 have Ny491 := Aside0.mk hy491
 clear hy491
 by_cases c2 : y491.length + l0.length < 17592186044416
 ·rw [if_pos c2] at H
  have LMc2 := Aside0.mk c2
  clear c2
  obtain ⟨y494, hy494⟩ : ∃ y_ : List Int, y_ = (y491 ++ l0) := ⟨_, rfl⟩
  replace H : (some y494) = some r := by first | (rw [hy494]; with_reducible exact H) | (have H2_ := (Option.bind_some _ _).symm.trans H; rw [hy494]; with_reducible exact H2_) | (have H2_ := (Option.bind_some _ _).symm.trans H; with_reducible exact H2_) | with_reducible exact H | (rw [hy494]; exact H) | exact H
  have Ny494 := Aside0.mk hy494
  clear hy494
  obtain rfl := Option.some.inj H
  go_enter Try.func61, Try.ntmps61
  go_wp2_with (first | ((with_reducible refine Qbi (N := 5) rfl ?_); refine Kd.R_lit (Kd.int .i64) _ 3 ?hg (N := 5) ?hd (xs := ([] : List Int)) (inner := []) (ok := fun _ => True) (okp := fun _ => True) ?hr ?hp (fun _ hk => hk) trivial (Below.refl _ _) (Nat.le_refl _) (by simp) ?_; (case hd => rfl); (case hg => rfl); (case hr => first | (go_simp; done) | (go_simp; rfl)); (case hp => exact (Reps.none _ _)); intro v492 w3 ho4 hb hg_ hnew_; clear hg_ hnew_; (first | rw [← Ny491.out] at ho4 | (simp only [Int.reduceToNat] at ho4; rw [← Ny491.out] at ho4)); have HO493 := Aside0.mk (Kd.R_lower ho4 (Qay (Zb))); replace HB := Aside0.mk (Qax (Zb) hb); clear hb ho4) | ((with_reducible refine Qbh (b := .append) (xs := #[.tmp 5, .tmp 6]) rfl ?_); at_builtin; refine Kd.R_append_rows (Kd.int .i64) (w0 := w) w.heap.size rfl (.tmp 5) (.tmp 6) 46 3 (.int .i64 0) 8 rfl Try.underlying46 info3 rfl (by decide) (by omega) v492 y491 l0 _ _ _ (fun _ => True) (fun _ => False) rfl rfl ?aO ?aR (fun _ _ h => h) (fun _ h => h.elim) ?aF ?aB ?aS ?aL ?_; (case aR => exact Zv (Kd.C_below HR0.out HB.out)); (case aB => exact (Zb)); (case aF => exact (fun _ _ => trivial)); (case aO => exact (Zr HO493.out)); (case aS => exact (Qay (Zb))); (case aL => have := LMc2.out; omega); intro v495 w5 ho hb hg hat; rw [← Ny494.out] at ho; have HO496 := Aside0.mk (ho); replace HB := Aside0.mk (hb); clear HO493; clear ho hb hg hat))
  go_ret
  exact ⟨_, Zq, Zr HO496.out, Zb⟩
 rw [if_neg c2] at H
 exact absurd H (by simp)
set_option maxHeartbeats 8000000 in
theorem QaU.calls (A0 : Option Addr) (c0 : Nat) (l0 : List Int) (r : List Int) (w : World) (hr0 : Kd.C (Kd.int .i64) w A0 l0.length l0) (hc0 : l0.length ≤ c0) (h : QaU.f l0 = some r) :
  Calls Try.prog 61 #[.slice A0 l0.length c0] w fun e w' => ∃ v0_ : Value, e = .returned (v0_) ∧ Kd.R (Kd.int .i64) 3 w' w.heap.size (fun _ => True) v0_ r ∧ Below w.heap.size w w' := by
 cases A0 with
 | some a => exact QaU.calls_some a c0 l0 r w hr0 hc0 h
 | none =>
  have e : l0 = [] := by
   cases l0 with
   | nil => rfl
   | cons x t =>
    obtain ⟨ad, e0, _⟩ := Kd.at_int hr0 0 (by omega) (by simp)
    cases e0
  subst e
  have hr : r = [] := by
   simp [QaU.f] at h
   exact h
  subst hr
  have hsn : ∀ (W : World) (n c : Nat), (binOp .eql 46 (.slice none n c) (.slice none 0 0)).run Try.prog W = .ok (.bool T) W := fun W n c => Go.run_eql_slice_nil W _ _ none n c Try.underlying46
  clear hr0 hc0 h
  go_enter Try.func61, Try.ntmps61
  go_wp2
  go_ret
  exact ⟨_, rfl, Kd.R_nil _ _ _ _ _, by repeat (first | exact Below.refl _ _ | apply Qac)⟩
def QaX.f (a0 : Int) : Option (Bool) := some (a0 != a0)
set_option maxHeartbeats 8000000 in
theorem QaX.calls (a0 : Int) (r : Bool) (w : World) (h : QaX.f a0 = some r) :
  Calls Try.prog 102 #[.int .i64 a0] w fun e w' => e = .returned (.bool r) ∧ Drawn0 w w' := by
 have H : (some (a0 != a0)) = some r := h
 clear h
 obtain rfl := Option.some.inj H
 go_enter Try.func102, Try.ntmps102
 go_wp2
 go_ret
 exact ⟨Zs, Zd⟩
def Qbg.f (a0 : Int) (a1 : Int) : Option (Bool) := (QaX.f a0).bind fun t491 => (if t491 = T then ((QaX.f a1).bind fun t492 => (if t492 = T then (some (decide (a0 < a1))) else (some T))) else (some (decide (a0 < a1))))
set_option maxHeartbeats 8000000 in
theorem Qbg.calls (a0 : Int) (a1 : Int) (r : Bool) (w : World) (h : Qbg.f a0 a1 = some r) :
  Calls Try.prog 86 #[.int .i64 a0, .int .i64 a1] w fun e w' => e = .returned (.bool r) ∧ Drawn0 w w' := by
 have H : ((QaX.f a0).bind fun t491 => (if t491 = T then ((QaX.f a1).bind fun t492 => (if t492 = T then (some (decide (a0 < a1))) else (some T))) else (some (decide (a0 < a1))))) = some r := h
 clear h
 replace H := Option.bind_eq_some_iff.mp H
 obtain ⟨t491, A30, H⟩ := H
 replace H : (if t491 = T then ((QaX.f a1).bind fun t492 => (if t492 = T then (some (decide (a0 < a1))) else (some T))) else (some (decide (a0 < a1)))) = some r := H
 have A3 := Aside0.mk A30
 clear A30
 by_cases c4 : t491 = T
 ·subst c4
  have H1 : ((QaX.f a1).bind fun t492 => (if t492 = T then (some (decide (a0 < a1))) else (some T))) = some r := by rw [if_pos rfl] at H; exact H
  clear H
  have H := H1
  clear H1
  replace H := Option.bind_eq_some_iff.mp H
  obtain ⟨t492, A50, H⟩ := H
  replace H : (if t492 = T then (some (decide (a0 < a1))) else (some T)) = some r := H
  have A5 := Aside0.mk A50
  clear A50
  by_cases c6 : t492 = T
  ·subst c6
   have H1 : (some (decide (a0 < a1))) = some r := by rw [if_pos rfl] at H; exact H
   clear H
   have H := H1
   clear H1
   obtain rfl := Option.some.inj H
   go_enter Try.func86, Try.ntmps86
   go_wp2_with (first | ((with_reducible refine Qat (f := 102) rfl ?_); refine goesL_ (some 6) rfl rfl Try.func102 (by kernel_rfl) rfl #[.int .i64 a0] rfl (Zl) ?_; (with_reducible refine (QaX.calls a0 T _ A3.out).mono ?_); rintro e w' ⟨rfl, ⟨nd, rfl⟩⟩; refine ⟨_, rfl, ?_⟩) | (go_at_call 102; (with_reducible refine (QaX.calls a1 T _ A5.out).mono ?_); rintro e w' ⟨rfl, ⟨nd, rfl⟩⟩))
   go_ret
   exact ⟨Zs, Zd⟩
  replace c6 := Bool.eq_false_iff.mpr c6
  subst c6
  have H1 : (some T) = some r := by rw [if_neg (show ¬ (F = T) by decide)] at H; exact H
  clear H
  have H := H1
  clear H1
  obtain rfl := Option.some.inj H
  go_enter Try.func86, Try.ntmps86
  go_wp2_with (first | ((with_reducible refine Qat (f := 102) rfl ?_); refine goesL_ (some 6) rfl rfl Try.func102 (by kernel_rfl) rfl #[.int .i64 a0] rfl (Zl) ?_; (with_reducible refine (QaX.calls a0 T _ A3.out).mono ?_); rintro e w' ⟨rfl, ⟨nd, rfl⟩⟩; refine ⟨_, rfl, ?_⟩) | (go_at_call 102; (with_reducible refine (QaX.calls a1 F _ A5.out).mono ?_); rintro e w' ⟨rfl, ⟨nd, rfl⟩⟩))
  go_ret
  exact ⟨Zs, Zd⟩
 replace c4 := Bool.eq_false_iff.mpr c4
 subst c4
 have H1 : (some (decide (a0 < a1))) = some r := by rw [if_neg (show ¬ (F = T) by decide)] at H; exact H
 clear H
 have H := H1
 clear H1
 obtain rfl := Option.some.inj H
 go_enter Try.func86, Try.ntmps86
 go_wp2_with (first | ((with_reducible refine Qat (f := 102) rfl ?_); refine goesL_ (some 6) rfl rfl Try.func102 (by kernel_rfl) rfl #[.int .i64 a0] rfl (Zl) ?_; (with_reducible refine (QaX.calls a0 F _ A3.out).mono ?_); rintro e w' ⟨rfl, ⟨nd, rfl⟩⟩; refine ⟨_, rfl, ?_⟩))
 go_ret
 exact ⟨Zs, Zd⟩
def QaZ.f (a0 : Int) : Option (Bool) := some (a0 != a0)
set_option maxHeartbeats 8000000 in
theorem QaZ.calls (a0 : Int) (r : Bool) (w : World) (h : QaZ.f a0 = some r) :
  Calls Try.prog 87 #[.int .i64 a0] w fun e w' => e = .returned (.bool r) ∧ Drawn0 w w' := by
 have H : (some (a0 != a0)) = some r := h
 clear h
 obtain rfl := Option.some.inj H
 go_enter Try.func87, Try.ntmps87
 go_wp2
 go_ret
 exact ⟨Zs, Zd⟩
def Qah.l0 : Nat → List Int → Int → Int → Int → Int → Option (Int × Bool)
 | 0, _, _, _, _, _ => none
 | k + 1, x0, x1, x6, x7, x8 => if x7 < x8 then (if 0 ≤ (wrap64 ((IntKind.u64.wrap (wrap64 (x7 + x8))) / 2)) then (if (wrap64 ((IntKind.u64.wrap (wrap64 (x7 + x8))) / 2)) < (x0.length : Int) then ((Qbg.f (rd x0 (wrap64 ((IntKind.u64.wrap (wrap64 (x7 + x8))) / 2))) x1).bind fun t494 => (if t494 = T then (Qah.l0 k x0 x1 x6 (wrap64 ((wrap64 ((IntKind.u64.wrap (wrap64 (x7 + x8))) / 2)) + 1)) x8) else (Qah.l0 k x0 x1 x6 x7 (wrap64 ((IntKind.u64.wrap (wrap64 (x7 + x8))) / 2))))) else (none)) else (none)) else (if x7 < x6 then (if 0 ≤ x7 then (if x7 < (x0.length : Int) then (if (rd x0 x7) = x1 then (some (x7, T)) else ((QaZ.f (rd x0 x7)).bind fun t497 => (if t497 = T then ((QaZ.f x1).bind fun t498 => (some (x7, t498))) else (some (x7, F))))) else (none)) else (none)) else (some (x7, F)))
def Qah.f (k : Nat) (l0 : List Int) (a1 : Int) : Option (Int × Bool) := Qah.l0 k l0 a1 (l0.length : Int) 0 (l0.length : Int)
theorem Qah.mono_l : ∀ k, (∀ y0 y1 y2 y3 y4, LeO (Qah.l0 k y0 y1 y2 y3 y4) (Qah.l0 (k + 1) y0 y1 y2 y3 y4))
 | 0 => fun _ _ _ _ _ r h => by simp [Qah.l0] at h
 | k + 1 => by
  have ih0 := Qah.mono_l k
  intro y0 y1 y2 y3 y4
  unfold Qah.l0
  exact ZM1 ih0
theorem Qah.mono : ∀ a0 a1 k, LeO (Qah.f k a0 a1) (Qah.f (k + 1) a0 a1) := by
 intro a0 a1 k
 have ih0 := Qah.mono_l k
 unfold Qah.f
 exact ZM1 ih0
set_option maxHeartbeats 8000000 in
theorem Qah.calls (k : Nat) (A0 : Option Addr) (c0 : Nat) (l0 : List Int) (a1 : Int) (r1 : Int) (r2 : Bool) (w : World) (hr0 : Kd.C (Kd.int .i64) w A0 l0.length l0) (hc0 : l0.length ≤ c0) (h : Qah.f k l0 a1 = some (r1, r2)) :
  Calls Try.prog 62 #[.slice A0 l0.length c0, .int .i64 a1] w fun e w' => e = .returned (.tuple #[.int .i64 r1, .bool r2]) ∧ Drawn0 w w' := by
 have HR0 := Aside0.mk hr0
 have HC0 := Aside0.mk hc0
 clear hr0 hc0
 have H : (Qah.l0 k l0 a1 (l0.length : Int) 0 (l0.length : Int)) = some (r1, r2) := h
 clear h
 have H' := Aside0.mk H
 clear H
 go_enter Try.func62, Try.ntmps62
 go_wp2
 go_loopg [7, 8] k (fun kq v7 v8 w' => ∃ (x7_1 : Int) (x8_1 : Int), v7 = .int .i64 x7_1 ∧ v8 = .int .i64 x8_1 ∧ Aside0 (Qah.l0 kq l0 a1 (l0.length : Int) x7_1 x8_1 = some (r1, r2)) ∧ Aside0 (kq ≤ k) ∧ Drawn0 w w')
 case atStart => exact ⟨(0), ((l0.length : Int)), (Zs), (Zs), H', ⟨Nat.le_refl _⟩, Zd⟩
 case round =>
  clear H'
  try clear p2
  obtain ⟨x7_1, x8_1, rfl, rfl, HA, HK1, ⟨m1, rfl⟩⟩ := hrel
  cases gk with
  | zero => exact absurd HA.out (by simp [Qah.l0])
  | succ k1 =>
   have H := HA.out
   clear HA
   simp only [Qah.l0] at H
   by_cases c3 : x7_1 < x8_1
   ·rw [if_pos c3] at H
    have c3b0 : decide (x7_1 < x8_1) = T := decide_eq_true c3
    clear c3
    (try simp only [c3b0])
    obtain ⟨ji4, hji4⟩ : ∃ j_ : Int, (wrap64 ((IntKind.u64.wrap (wrap64 (x7_1 + x8_1))) / 2)) = j_ := ⟨_, rfl⟩
    replace H : (if 0 ≤ (ji4) then (if (ji4) < (l0.length : Int) then ((Qbg.f (rd l0 (ji4)) a1).bind fun t494 => (if t494 = T then (Qah.l0 k1 l0 a1 (l0.length : Int) (wrap64 ((ji4) + 1)) x8_1) else (Qah.l0 k1 l0 a1 (l0.length : Int) x7_1 ji4))) else (none)) else (none)) = some (r1, r2) := by first | (rw [hji4] at H; exact H) | (simp only [hji4] at H ⊢; exact H)
    have hji4w : (IntKind.i64.wrap ((IntKind.u64.wrap (wrap64 (x7_1 + x8_1))) / 2)) = ji4 := (i64_w _).trans hji4
    by_cases c5 : 0 ≤ (ji4)
    ·rw [if_pos c5] at H
     have c5b0 : decide (0 ≤ (ji4)) = T := decide_eq_true c5
     clear c5
     by_cases c6 : (ji4) < (l0.length : Int)
     ·rw [if_pos c6] at H
      have c6b0 : decide ((ji4) < (l0.length : Int)) = T := decide_eq_true c6
      clear c6
      replace H := Option.bind_eq_some_iff.mp H
      obtain ⟨t494, A70, H⟩ := H
      replace H : (if t494 = T then (Qah.l0 k1 l0 a1 (l0.length : Int) (wrap64 ((ji4) + 1)) x8_1) else (Qah.l0 k1 l0 a1 (l0.length : Int) x7_1 ji4)) = some (r1, r2) := H
      have A7 := Aside0.mk A70
      clear A70
      have p493 : 0 ≤ ((ji4) : Int) := Ze
      have q493 : (ji4) < (l0.length : Int) := Ze
      obtain ⟨ad493, e493, hx493_0⟩ := Kd.at_int HR0.out (ji4) p493 q493
      cases e493
      replace p493 := eq_true p493
      replace q493 := eq_true q493
      go_upto_if 27 with (first | ((with_reducible refine Qat (f := 86) rfl ?_); refine goesL_ (some 27) rfl rfl Try.func86 (by kernel_rfl) rfl #[.int .i64 (rd l0 (ji4)), .int .i64 a1] rfl (by (try simp only [List.map_toArray, List.map_cons, List.map_nil]); first | done | (simp only [hji4]; rfl) | rfl | (simp only [List.length_drop, List.length_take]; rfl)) ?_; (with_reducible refine (Qbg.calls (rd l0 (ji4)) a1 t494 _ A7.out).mono ?_); rintro e w' ⟨rfl, ⟨nd, rfl⟩⟩; refine ⟨_, rfl, ?_⟩))
      (try simp only [Act.put, Zj, Zk, Zm])
      by_cases c8 : t494 = T
      ·subst c8
       have H1 : (Qah.l0 k1 l0 a1 (l0.length : Int) (wrap64 ((ji4) + 1)) x8_1) = some (r1, r2) := by rw [if_pos rfl] at H; exact H
       clear H
       have H := H1
       clear H1
       have H' := Aside0.mk H
       clear H
       go_wp2
       go_roundg k1
       case measure => have := HK1.out; omega
       case rel => exact ⟨(wrap64 ((ji4) + 1)), (x8_1), (by first | rfl | (simp; done) | (simp only [← hji4] <;> (first | rfl | simp)) | (simp [*]; done)), (Zs), H', ⟨by have := HK1.out; omega⟩, Zd⟩
      replace c8 := Bool.eq_false_iff.mpr c8
      subst c8
      have H1 : (Qah.l0 k1 l0 a1 (l0.length : Int) x7_1 ji4) = some (r1, r2) := by rw [if_neg (show ¬ (F = T) by decide)] at H; exact H
      clear H
      have H := H1
      clear H1
      have H' := Aside0.mk H
      clear H
      go_wp2
      go_roundg k1
      case measure => have := HK1.out; omega
      case rel => exact ⟨(x7_1), (ji4), (Zs), (by first | rfl | (simp; done) | (simp only [← hji4] <;> (first | rfl | simp)) | (simp [*]; done)), H', ⟨by have := HK1.out; omega⟩, Zd⟩
     rw [if_neg c6] at H
     exact absurd H (by simp)
    rw [if_neg c5] at H
    exact absurd H (by simp)
   rw [if_neg c3] at H
   have c3b0 : decide (x7_1 < x8_1) = F := decide_eq_false c3
   clear c3
   (try simp only [c3b0])
   by_cases c9 : x7_1 < (l0.length : Int)
   ·rw [if_pos c9] at H
    have c9b0 : decide (x7_1 < (l0.length : Int)) = T := decide_eq_true c9
    clear c9
    by_cases c10 : 0 ≤ x7_1
    ·rw [if_pos c10] at H
     have c10b0 : decide (0 ≤ x7_1) = T := decide_eq_true c10
     clear c10
     by_cases c11 : x7_1 < (l0.length : Int)
     ·rw [if_pos c11] at H
      have c11b0 : decide (x7_1 < (l0.length : Int)) = T := decide_eq_true c11
      clear c11
      by_cases c12 : (rd l0 x7_1) = a1
      ·rw [if_pos c12] at H
       have c12b0 : ((rd l0 x7_1) == a1) = T := beq_iff_eq.mpr c12
       have c12b1 : ((rd l0 x7_1) != a1) = F := bne_eq_false_iff_eq.mpr c12
       clear c12
       simp only [Option.some.injEq, Prod.mk.injEq] at H
       obtain ⟨rfl, rfl⟩ := H
       have p495 : 0 ≤ (x7_1 : Int) := Ze
       have q495 : x7_1 < (l0.length : Int) := Ze
       obtain ⟨ad495, e495, hx495_0⟩ := Kd.at_int HR0.out x7_1 p495 q495
       cases e495
       replace p495 := eq_true p495
       replace q495 := eq_true q495
       go_wp2
       go_ret2
       exact ⟨Zs, Zd⟩
      rw [if_neg c12] at H
      have c12b0 : ((rd l0 x7_1) == a1) = F := beq_eq_false_iff_ne.mpr c12
      have c12b1 : ((rd l0 x7_1) != a1) = T := bne_iff_ne.mpr c12
      replace H := Option.bind_eq_some_iff.mp H
      obtain ⟨t497, A130, H⟩ := H
      replace H : (if t497 = T then ((QaZ.f a1).bind fun t498 => (some (x7_1, t498))) else (some (x7_1, F))) = some (r1, r2) := H
      have A13 := Aside0.mk A130
      clear A130
      by_cases c14 : t497 = T
      ·subst c14
       have H1 : ((QaZ.f a1).bind fun t498 => (some (x7_1, t498))) = some (r1, r2) := by rw [if_pos rfl] at H; exact H
       clear H
       have H := H1
       clear H1
       replace H := Option.bind_eq_some_iff.mp H
       obtain ⟨t498, A150, H⟩ := H
       replace H : (some (x7_1, t498)) = some (r1, r2) := H
       have A15 := Aside0.mk A150
       clear A150
       simp only [Option.some.injEq, Prod.mk.injEq] at H
       obtain ⟨rfl, rfl⟩ := H
       have p495 : 0 ≤ (x7_1 : Int) := Ze
       have q495 : x7_1 < (l0.length : Int) := Ze
       obtain ⟨ad495, e495, hx495_0⟩ := Kd.at_int HR0.out x7_1 p495 q495
       cases e495
       replace p495 := eq_true p495
       replace q495 := eq_true q495
       have p496 : 0 ≤ (x7_1 : Int) := Ze
       have q496 : x7_1 < (l0.length : Int) := Ze
       obtain ⟨ad496, e496, hx496_0⟩ := Kd.at_int HR0.out x7_1 p496 q496
       obtain rfl : ad495 = ad496 := (by injection e496)
       replace p496 := eq_true p496
       replace q496 := eq_true q496
       go_wp2_with (first | (go_at_call 87; (with_reducible refine (QaZ.calls (rd l0 x7_1) T _ A13.out).mono ?_); rintro e w' ⟨rfl, ⟨nd, rfl⟩⟩) | (go_at_call 87; (with_reducible refine (QaZ.calls a1 t498 _ A15.out).mono ?_); rintro e w' ⟨rfl, ⟨nd, rfl⟩⟩))
       go_ret2
       exact ⟨Zs, Zd⟩
      replace c14 := Bool.eq_false_iff.mpr c14
      subst c14
      have H1 : (some (x7_1, F)) = some (r1, r2) := by rw [if_neg (show ¬ (F = T) by decide)] at H; exact H
      clear H
      have H := H1
      clear H1
      simp only [Option.some.injEq, Prod.mk.injEq] at H
      obtain ⟨rfl, rfl⟩ := H
      have p495 : 0 ≤ (x7_1 : Int) := Ze
      have q495 : x7_1 < (l0.length : Int) := Ze
      obtain ⟨ad495, e495, hx495_0⟩ := Kd.at_int HR0.out x7_1 p495 q495
      cases e495
      replace p495 := eq_true p495
      replace q495 := eq_true q495
      have p496 : 0 ≤ (x7_1 : Int) := Ze
      have q496 : x7_1 < (l0.length : Int) := Ze
      obtain ⟨ad496, e496, hx496_0⟩ := Kd.at_int HR0.out x7_1 p496 q496
      obtain rfl : ad495 = ad496 := (by injection e496)
      replace p496 := eq_true p496
      replace q496 := eq_true q496
      go_wp2_with (first | (go_at_call 87; (with_reducible refine (QaZ.calls (rd l0 x7_1) F _ A13.out).mono ?_); rintro e w' ⟨rfl, ⟨nd, rfl⟩⟩))
      go_ret2
      exact ⟨Zs, Zd⟩
     rw [if_neg c11] at H
     exact absurd H (by simp)
    rw [if_neg c10] at H
    exact absurd H (by simp)
   rw [if_neg c9] at H
   have c9b0 : decide (x7_1 < (l0.length : Int)) = F := decide_eq_false c9
   clear c9
   simp only [Option.some.injEq, Prod.mk.injEq] at H
   obtain ⟨rfl, rfl⟩ := H
   go_wp2
   go_ret2
   exact ⟨Zs, Zd⟩
def Qa6.f (a0 : Int) : Option (Int) := some (mx a0 (wrap64 (-a0)))
set_option maxHeartbeats 8000000 in
theorem Qa6.calls (a0 : Int) (r : Int) (w : World) (h : Qa6.f a0 = some r) :
  Calls Try.prog 63 #[.int .i64 a0] w fun e w' => e = .returned (.int .i64 r) ∧ Below w.heap.size w w' := by
 have HB := Aside0.mk (Below.refl w.heap.size w)
 have H : (some (mx a0 (wrap64 (-a0)))) = some r := h
 clear h
 obtain ⟨ji2, hji2⟩ : ∃ j_ : Int, (mx a0 (wrap64 (-a0))) = j_ := ⟨_, rfl⟩
 replace H : (some ji2) = some r := by first | (rw [hji2] at H; exact H) | (simp only [hji2] at H ⊢; exact H)
 have hji2_ : (if a0 < (wrap64 (-a0)) then (wrap64 (-a0)) else a0) = ji2 := hji2
 obtain rfl := Option.some.inj H
 go_enter Try.func63, Try.ntmps63
 go_wp2
 go_ret
 exact ⟨by first | rfl | (simp [Qaj, Qak] <;> rfl) | (simp only [← hji2]; first | rfl | (simp [Qaj, Qak] <;> rfl)) | (simp [*, Qaj, Qak] <;> rfl), Zb⟩
def QaP.f (a0 : Int) : Option (Bool) := if a0 ≥ (-1152921504606846976) then (some (decide (a0 ≤ 1152921504606846976))) else (some F)
set_option maxHeartbeats 8000000 in
theorem QaP.calls (a0 : Int) (r : Bool) (w : World) (h : QaP.f a0 = some r) :
  Calls Try.prog 88 #[.int .i64 a0] w fun e w' => e = .returned (.bool r) ∧ Drawn0 w w' := by
 have H : (if a0 ≥ (-1152921504606846976) then (some (decide (a0 ≤ 1152921504606846976))) else (some F)) = some r := h
 clear h
 by_cases c2 : a0 ≥ (-1152921504606846976)
 ·rw [if_pos c2] at H
  have c2b0 : decide ((-1152921504606846976) ≤ a0) = T := decide_eq_true c2
  clear c2
  obtain rfl := Option.some.inj H
  go_enter Try.func88, Try.ntmps88
  go_wp2
  go_ret
  exact ⟨Zs, Zd⟩
 rw [if_neg c2] at H
 have c2b0 : decide ((-1152921504606846976) ≤ a0) = F := decide_eq_false c2
 clear c2
 obtain rfl := Option.some.inj H
 go_enter Try.func88, Try.ntmps88
 go_wp2
 go_ret
 exact ⟨Zs, Zd⟩
def Qa8.f (a0 a1 : Int) : Option (Int × Int) :=
 if 0 ≤ a0 ∧ a0 ≤ 18446744073709551615 ∧ 0 ≤ a1 ∧ a1 ≤ 18446744073709551615 then some (a0 * a1 / 18446744073709551616, a0 * a1 % 18446744073709551616) else none
theorem QbV (a : Nat) (ha : a < 18446744073709551616) : Go.bits .and .u64 (a : Int) 4294967295 = ((a % 4294967296 : Nat) : Int) := by
 have h := bits_and_u64_nat a 4294967295 ha (by omega)
 have e : a &&& 4294967295 = a % 4294967296 := Nat.and_two_pow_sub_one_eq_mod a 32
 rw [e] at h
 exact h
theorem QdT (a : Nat) : (a : Int) / 4294967296 = ((a / 4294967296 : Nat) : Int) := by omega
theorem QdU (a b : Nat) : (a : Int) * (b : Int) = ((a * b : Nat) : Int) := (Int.natCast_mul a b).symm
theorem QdS (a b : Nat) : (a : Int) + (b : Int) = ((a + b : Nat) : Int) := (Int.natCast_add a b).symm
theorem Qbo (a : Nat) (ha : a < 18446744073709551616) : IntKind.u64.wrap (a : Int) = (a : Int) := by rw [IntKind.wrap_u64]; omega
theorem Qdw (a : Nat) : IntKind.u64.wrap (a : Int) = ((a % 18446744073709551616 : Nat) : Int) := by rw [IntKind.wrap_u64]; omega
set_option maxHeartbeats 1000000 in
theorem Qa8.walk (x y : Nat) (hx : x < 18446744073709551616) (hy : y < 18446744073709551616) (w : World) :
  Calls Try.prog 89 #[.int .u64 x, .int .u64 y] w fun e w' => e = .returned (.tuple #[.int .u64 ((x * y / 18446744073709551616 : Nat) : Int), .int .u64 ((x * y % 18446744073709551616 : Nat) : Int)]) ∧ w' = w := by
 obtain ⟨bd, bt, bw, hhi⟩ := Lib.mul64_hi x y hx hy
 have ba := Lib.half_mul_le (a := x / 4294967296) (b := y / 4294967296) (by omega) (by omega)
 have bb := Lib.half_mul_le (a := x / 4294967296) (b := y % 4294967296) (by omega) (by omega)
 have bc := Lib.half_mul_le (a := x % 4294967296) (b := y / 4294967296) (by omega) (by omega)
 have ba' : x / 4294967296 * (y / 4294967296) < 18446744073709551616 := by omega
 have bb' : x / 4294967296 * (y % 4294967296) < 18446744073709551616 := by omega
 have bc' : x % 4294967296 * (y / 4294967296) < 18446744073709551616 := by omega
 have bh1 : x / 4294967296 * (y / 4294967296) + (x / 4294967296 * (y % 4294967296) + x % 4294967296 * (y % 4294967296) / 4294967296) / 4294967296 < 18446744073709551616 := by omega
 have bh : x / 4294967296 * (y / 4294967296) + (x / 4294967296 * (y % 4294967296) + x % 4294967296 * (y % 4294967296) / 4294967296) / 4294967296 + ((x / 4294967296 * (y % 4294967296) + x % 4294967296 * (y % 4294967296) / 4294967296) % 4294967296 + x % 4294967296 * (y / 4294967296)) / 4294967296 < 18446744073709551616 := by omega
 go_enter Try.func89, Try.ntmps89
 go_wp2
 simp only [QbV x hx, QbV y hy, QdT, QdU, QdS, Qbo _ bd, Qbo _ bb', Qbo _ bt, QbV _ bt, Qbo _ bc', Qbo _ bw, Qbo _ ba', Qbo _ bh1, Qbo _ bh, Qdw (x * y)]
 rw [hhi]
 go_ret2
 exact ⟨rfl, rfl⟩
theorem Qa8.calls (a0 a1 r1 r2 : Int) (w : World) (h : Qa8.f a0 a1 = some (r1, r2)) :
  Calls Try.prog 89 #[.int .u64 a0, .int .u64 a1] w fun e w' => e = .returned (.tuple #[.int .u64 r1, .int .u64 r2]) ∧ Drawn0 w w' := by
 unfold Qa8.f at h
 by_cases c : 0 ≤ a0 ∧ a0 ≤ 18446744073709551615 ∧ 0 ≤ a1 ∧ a1 ≤ 18446744073709551615
 ·rw [if_pos c] at h
  obtain ⟨c1, c2, c3, c4⟩ := c
  obtain ⟨x, rfl⟩ := Int.eq_ofNat_of_zero_le c1
  obtain ⟨y, rfl⟩ := Int.eq_ofNat_of_zero_le c3
  have h' := Option.some.inj h
  simp only [Prod.mk.injEq] at h'
  obtain ⟨rfl, rfl⟩ := h'
  refine (Qa8.walk x y (by omega) (by omega) w).mono ?_
  rintro e w' ⟨rfl, rfl⟩
  exact ⟨rfl, Drawn0.refl _⟩
 rw [if_neg c] at h
 cases h
def Qa3.f (a0 : Int) : Option Int := if -9223372036854775808 ≤ a0 ∧ a0 ≤ 9223372036854775807 then some (a0.natAbs : Int) else none
theorem Qa3.walk (a0 : Int) (w : World) (h0 : -9223372036854775808 ≤ a0) (h1 : a0 ≤ 9223372036854775807) :
  Calls Try.prog 90 #[.int .i64 a0] w fun e w' => e = .returned (.int .u64 (a0.natAbs : Int)) ∧ w' = w := by
 go_enter Try.func90, Try.ntmps90
 go_wp2
 all_goals (go_ret; refine ⟨congrArg Ending.returned (congrArg (Value.int IntKind.u64) ?_), rfl⟩)
 all_goals go_light
 all_goals ((try simp only [IntKind.wrap_u64]); (try unfold wrap64); omega)
theorem Qa3.calls (a0 r : Int) (w : World) (h : Qa3.f a0 = some r) :
  Calls Try.prog 90 #[.int .i64 a0] w fun e w' => e = .returned (.int .u64 r) ∧ Drawn0 w w' := by
 unfold Qa3.f at h
 by_cases c : -9223372036854775808 ≤ a0 ∧ a0 ≤ 9223372036854775807
 ·rw [if_pos c] at h
  obtain rfl := Option.some.inj h
  refine (Qa3.walk a0 w c.1 c.2).mono ?_
  rintro e w' ⟨rfl, rfl⟩
  exact ⟨rfl, Drawn0.refl _⟩
 rw [if_neg c] at h
 cases h
def Qa4.f (a0 : Int) (a1 : Bool) : Option (Int × Int) := if a0 > 1152921504606846976 then (some (0, 3)) else (if a1 = T then (some (wrap64 (-(wrap64 (a0))), 0)) else (some (wrap64 (a0), 0)))
set_option maxHeartbeats 8000000 in
theorem Qa4.calls (a0 : Int) (a1 : Bool) (r1 : Int) (r2 : Int) (w : World) (h : Qa4.f a0 a1 = some (r1, r2)) :
  Calls Try.prog 91 #[.int .u64 a0, .bool a1] w fun e w' => e = .returned (.tuple #[.int .i64 r1, .int .i64 r2]) ∧ Drawn0 w w' := by
 have H : (if a0 > 1152921504606846976 then (some (0, 3)) else (if a1 = T then (some (wrap64 (-(wrap64 (a0))), 0)) else (some (wrap64 (a0), 0)))) = some (r1, r2) := h
 clear h
 by_cases c3 : a0 > 1152921504606846976
 ·rw [if_pos c3] at H
  have c3b0 : decide (1152921504606846976 < a0) = T := decide_eq_true c3
  clear c3
  simp only [Option.some.injEq, Prod.mk.injEq] at H
  obtain ⟨rfl, rfl⟩ := H
  go_enter Try.func91, Try.ntmps91
  go_wp2
  go_ret2
  exact ⟨Zs, Zd⟩
 rw [if_neg c3] at H
 have c3b0 : decide (1152921504606846976 < a0) = F := decide_eq_false c3
 clear c3
 by_cases c4 : a1 = T
 ·subst c4
  have H1 : (some (wrap64 (-(wrap64 (a0))), 0)) = some (r1, r2) := by rw [if_pos rfl] at H; exact H
  clear H
  have H := H1
  clear H1
  simp only [Option.some.injEq, Prod.mk.injEq] at H
  obtain ⟨rfl, rfl⟩ := H
  go_enter Try.func91, Try.ntmps91
  go_wp2
  go_ret2
  exact ⟨Zs, Zd⟩
 replace c4 := Bool.eq_false_iff.mpr c4
 subst c4
 have H1 : (some (wrap64 (a0), 0)) = some (r1, r2) := by rw [if_neg (show ¬ (F = T) by decide)] at H; exact H
 clear H
 have H := H1
 clear H1
 simp only [Option.some.injEq, Prod.mk.injEq] at H
 obtain ⟨rfl, rfl⟩ := H
 go_enter Try.func91, Try.ntmps91
 go_wp2
 go_ret2
 exact ⟨Zs, Zd⟩
def Qaz.j0 : Nat → Int → Int → Bool → Option (Int × Int)
 | 0, _, _, _ => none
 | k + 1, x0, x1, x15 => if x15 = T then (some (0, 2)) else ((Qa3.f x0).bind fun t544 => ((Qa3.f x1).bind fun t545 => ((Qa8.f t544 t545).bind fun bt546 => (if bt546.1 > 0 then (some (0, 3)) else ((Qa4.f bt546.2 (!((decide (x0 < 0)) == (decide (x1 < 0))))).bind fun bt548 => (some (bt548.1, bt548.2)))))))
def Qaz.f (k : Nat) (a0 : Int) (a1 : Int) : Option (Int × Int) := (QaP.f a0).bind fun t542 => (if t542 = T then ((QaP.f a1).bind fun t543 => (Qaz.j0 k a0 a1 (!t543))) else (Qaz.j0 k a0 a1 T))
theorem Qaz.mono_l : ∀ k, (∀ y0 y1 y2, LeO (Qaz.j0 k y0 y1 y2) (Qaz.j0 (k + 1) y0 y1 y2))
 | 0 => fun _ _ _ r h => by simp [Qaz.j0] at h
 | k + 1 => by
  have ih0 := Qaz.mono_l k
  intro y0 y1 y2
  unfold Qaz.j0
  exact ZM1 ih0
theorem Qaz.mono : ∀ a0 a1 k, LeO (Qaz.f k a0 a1) (Qaz.f (k + 1) a0 a1) := by
 intro a0 a1 k
 have ih0 := Qaz.mono_l k
 unfold Qaz.f
 exact ZM1 ih0
set_option maxHeartbeats 8000000 in
theorem Qaz.calls (k : Nat) (a0 : Int) (a1 : Int) (r1 : Int) (r2 : Int) (w : World) (h : Qaz.f k a0 a1 = some (r1, r2)) :
  Calls Try.prog 68 #[.int .i64 a0, .int .i64 a1] w fun e w' => e = .returned (.tuple #[.int .i64 r1, .int .i64 r2]) ∧ Drawn0 w w' := by
 have H : ((QaP.f a0).bind fun t542 => (if t542 = T then ((QaP.f a1).bind fun t543 => (Qaz.j0 k a0 a1 (!t543))) else (Qaz.j0 k a0 a1 T))) = some (r1, r2) := h
 clear h
 have HC3 := Aside0.mk H
 clear H
 go_enter Try.func68, Try.ntmps68
 go_upto_region 1 with (fail)
 go_cut [15] (fun v15 wc => ∃ (kq : Nat) (x15_2 : Bool), v15 = .bool x15_2 ∧ Aside0 (Qaz.j0 kq a0 a1 x15_2 = some (r1, r2)) ∧ Aside0 (kq ≤ k) ∧ Drawn0 w wc)
 case first =>
  have H := HC3.out
  clear HC3
  replace H := Option.bind_eq_some_iff.mp H
  obtain ⟨t542, A40, H⟩ := H
  replace H : (if t542 = T then ((QaP.f a1).bind fun t543 => (Qaz.j0 k a0 a1 (!t543))) else (Qaz.j0 k a0 a1 T)) = some (r1, r2) := H
  have A4 := Aside0.mk A40
  clear A40
  by_cases c5 : t542 = T
  ·subst c5
   have H1 : ((QaP.f a1).bind fun t543 => (Qaz.j0 k a0 a1 (!t543))) = some (r1, r2) := by rw [if_pos rfl] at H; exact H
   clear H
   have H := H1
   clear H1
   replace H := Option.bind_eq_some_iff.mp H
   obtain ⟨t543, A60, H⟩ := H
   replace H : (Qaz.j0 k a0 a1 (!t543)) = some (r1, r2) := H
   have A6 := Aside0.mk A60
   clear A60
   have H' := Aside0.mk H
   clear H
   go_wp2_with (first | ((with_reducible refine Qat (f := 88) rfl ?_); refine goesL_ (some 9) rfl rfl Try.func88 (by kernel_rfl) rfl #[.int .i64 a0] rfl (Zl) ?_; (with_reducible refine (QaP.calls a0 T _ A4.out).mono ?_); rintro e w' ⟨rfl, ⟨nd, rfl⟩⟩; refine ⟨_, rfl, ?_⟩) | (go_at_call 88; (with_reducible refine (QaP.calls a1 t543 _ A6.out).mono ?_); rintro e w' ⟨rfl, ⟨nd, rfl⟩⟩))
   go_meet
   case rel => exact ⟨_, (!t543), (Zs), H', ⟨by first | omega | exact Nat.le_refl _⟩, Zd⟩
  replace c5 := Bool.eq_false_iff.mpr c5
  subst c5
  have H1 : (Qaz.j0 k a0 a1 T) = some (r1, r2) := by rw [if_neg (show ¬ (F = T) by decide)] at H; exact H
  clear H
  have H := H1
  clear H1
  have H' := Aside0.mk H
  clear H
  go_wp2_with (first | ((with_reducible refine Qat (f := 88) rfl ?_); refine goesL_ (some 9) rfl rfl Try.func88 (by kernel_rfl) rfl #[.int .i64 a0] rfl (Zl) ?_; (with_reducible refine (QaP.calls a0 F _ A4.out).mono ?_); rintro e w' ⟨rfl, ⟨nd, rfl⟩⟩; refine ⟨_, rfl, ?_⟩))
  go_meet
  case rel => exact ⟨_, (T), (Zs), H', ⟨by first | omega | exact Nat.le_refl _⟩, Zd⟩
 case rest =>
  clear HC3
  try clear p2
  try clear c5
  try clear c6
  obtain ⟨kq, x15_2, rfl, HA, HJ2, ⟨mc2, rfl⟩⟩ := hcut
  cases kq with
  | zero => exact absurd HA.out (by simp [Qaz.j0])
  | succ kj2 =>
   have H := HA.out
   clear HA
   simp only [Qaz.j0] at H
   by_cases c7 : x15_2 = T
   ·subst c7
    have H1 : (some (0, 2)) = some (r1, r2) := by rw [if_pos rfl] at H; exact H
    clear H
    have H := H1
    clear H1
    simp only [Option.some.injEq, Prod.mk.injEq] at H
    obtain ⟨rfl, rfl⟩ := H
    go_wp2
    go_ret2
    exact ⟨Zs, Zd⟩
   replace c7 := Bool.eq_false_iff.mpr c7
   subst c7
   have H1 : ((Qa3.f a0).bind fun t544 => ((Qa3.f a1).bind fun t545 => ((Qa8.f t544 t545).bind fun bt546 => (if bt546.1 > 0 then (some (0, 3)) else ((Qa4.f bt546.2 (!((decide (a0 < 0)) == (decide (a1 < 0))))).bind fun bt548 => (some (bt548.1, bt548.2))))))) = some (r1, r2) := by rw [if_neg (show ¬ (F = T) by decide)] at H; exact H
   clear H
   have H := H1
   clear H1
   replace H := Option.bind_eq_some_iff.mp H
   obtain ⟨t544, A80, H⟩ := H
   replace H : ((Qa3.f a1).bind fun t545 => ((Qa8.f t544 t545).bind fun bt546 => (if bt546.1 > 0 then (some (0, 3)) else ((Qa4.f bt546.2 (!((decide (a0 < 0)) == (decide (a1 < 0))))).bind fun bt548 => (some (bt548.1, bt548.2)))))) = some (r1, r2) := H
   have A8 := Aside0.mk A80
   clear A80
   replace H := Option.bind_eq_some_iff.mp H
   obtain ⟨t545, A90, H⟩ := H
   replace H : ((Qa8.f t544 t545).bind fun bt546 => (if bt546.1 > 0 then (some (0, 3)) else ((Qa4.f bt546.2 (!((decide (a0 < 0)) == (decide (a1 < 0))))).bind fun bt548 => (some (bt548.1, bt548.2))))) = some (r1, r2) := H
   have A9 := Aside0.mk A90
   clear A90
   replace H := Option.bind_eq_some_iff.mp H
   obtain ⟨⟨t546, t547⟩, A100, H⟩ := H
   replace H : (if t546 > 0 then (some (0, 3)) else ((Qa4.f t547 (!((decide (a0 < 0)) == (decide (a1 < 0))))).bind fun bt548 => (some (bt548.1, bt548.2)))) = some (r1, r2) := H
   have A10 := Aside0.mk A100
   clear A100
   go_upto_if 25 with (first | ((with_reducible refine Qat (f := 90) rfl ?_); refine goesL_ (some 18) rfl rfl Try.func90 (by kernel_rfl) rfl #[.int .i64 a0] rfl (Zl) ?_; (with_reducible refine (Qa3.calls a0 t544 _ A8.out).mono ?_); rintro e w' ⟨rfl, ⟨nd, rfl⟩⟩; refine ⟨_, rfl, ?_⟩) | ((with_reducible refine Qat (f := 90) rfl ?_); refine goesL_ (some 20) rfl rfl Try.func90 (by kernel_rfl) rfl #[.int .i64 a1] rfl (Zl) ?_; (with_reducible refine (Qa3.calls a1 t545 _ A9.out).mono ?_); rintro e w' ⟨rfl, ⟨nd, rfl⟩⟩; refine ⟨_, rfl, ?_⟩) | ((with_reducible refine Qat (f := 89) rfl ?_); refine goesL_ (some 21) rfl rfl Try.func89 (by kernel_rfl) rfl #[.int .u64 t544, .int .u64 t545] rfl (Zl) ?_; (with_reducible refine (Qa8.calls t544 t545 t546 t547 _ A10.out).mono ?_); rintro e w' ⟨rfl, ⟨nd, rfl⟩⟩; refine ⟨_, rfl, ?_⟩))
   (try simp only [Act.put, Zj, Zk, Zm])
   by_cases c11 : t546 > 0
   ·rw [if_pos c11] at H
    have c11b0 : decide (0 < t546) = T := decide_eq_true c11
    clear c11
    (try simp only [c11b0])
    simp only [Option.some.injEq, Prod.mk.injEq] at H
    obtain ⟨rfl, rfl⟩ := H
    go_wp2
    go_ret2
    exact ⟨Zs, Zd⟩
   rw [if_neg c11] at H
   have c11b0 : decide (0 < t546) = F := decide_eq_false c11
   clear c11
   (try simp only [c11b0])
   replace H := Option.bind_eq_some_iff.mp H
   obtain ⟨⟨t548, t549⟩, A120, H⟩ := H
   replace H : (some (t548, t549)) = some (r1, r2) := H
   have A12 := Aside0.mk A120
   clear A120
   simp only [Option.some.injEq, Prod.mk.injEq] at H
   obtain ⟨rfl, rfl⟩ := H
   go_wp2_with (first | ((with_reducible refine Qat (f := 91) rfl ?_); refine goesL_ (some 32) rfl rfl Try.func91 (by kernel_rfl) rfl #[.int .u64 t547, .bool (!((decide (a0 < 0)) == (decide (a1 < 0))))] rfl (Zl) ?_; (with_reducible refine (Qa4.calls t547 (!((decide (a0 < 0)) == (decide (a1 < 0)))) t548 t549 _ A12.out).mono ?_); rintro e w' ⟨rfl, ⟨nd, rfl⟩⟩; refine ⟨_, rfl, ?_⟩))
   go_ret2
   exact ⟨Zs, Zd⟩
def Qa2.f (a0 : Int) : Option (Int × Int) := (QaP.f a0).bind fun t550 => (if t550 = T then (some (a0, 0)) else (some (0, 3)))
set_option maxHeartbeats 8000000 in
theorem Qa2.calls (a0 : Int) (r1 : Int) (r2 : Int) (w : World) (h : Qa2.f a0 = some (r1, r2)) :
  Calls Try.prog 92 #[.int .i64 a0] w fun e w' => e = .returned (.tuple #[.int .i64 r1, .int .i64 r2]) ∧ Drawn0 w w' := by
 have H : ((QaP.f a0).bind fun t550 => (if t550 = T then (some (a0, 0)) else (some (0, 3)))) = some (r1, r2) := h
 clear h
 replace H := Option.bind_eq_some_iff.mp H
 obtain ⟨t550, A20, H⟩ := H
 replace H : (if t550 = T then (some (a0, 0)) else (some (0, 3))) = some (r1, r2) := H
 have A2 := Aside0.mk A20
 clear A20
 go_enter Try.func92, Try.ntmps92
 go_upto_if 6 with (first | ((with_reducible refine Qat (f := 88) rfl ?_); refine goesL_ (some 5) rfl rfl Try.func88 (by kernel_rfl) rfl #[.int .i64 a0] rfl (Zl) ?_; (with_reducible refine (QaP.calls a0 t550 _ A2.out).mono ?_); rintro e w' ⟨rfl, ⟨nd, rfl⟩⟩; refine ⟨_, rfl, ?_⟩))
 (try simp only [Act.put, Zj, Zk, Zm])
 by_cases c3 : t550 = T
 ·subst c3
  have H1 : (some (a0, 0)) = some (r1, r2) := by rw [if_pos rfl] at H; exact H
  clear H
  have H := H1
  clear H1
  simp only [Option.some.injEq, Prod.mk.injEq] at H
  obtain ⟨rfl, rfl⟩ := H
  go_wp2
  go_ret2
  exact ⟨Zs, Zd⟩
 replace c3 := Bool.eq_false_iff.mpr c3
 subst c3
 have H1 : (some (0, 3)) = some (r1, r2) := by rw [if_neg (show ¬ (F = T) by decide)] at H; exact H
 clear H
 have H := H1
 clear H1
 simp only [Option.some.injEq, Prod.mk.injEq] at H
 obtain ⟨rfl, rfl⟩ := H
 go_wp2
 go_ret2
 exact ⟨Zs, Zd⟩
def Qbs.f (a0 : Int) (a1 : Int) : Option (Int × Int) := (QaP.f a0).bind fun t551 => (if t551 = T then ((QaP.f a1).bind fun t552 => (if t552 = T then ((Qa2.f (wrap64 (a0 + a1))).bind fun bt553 => (some (bt553.1, bt553.2))) else (some (0, 2)))) else (some (0, 2)))
set_option maxHeartbeats 8000000 in
theorem Qbs.calls (a0 : Int) (a1 : Int) (r1 : Int) (r2 : Int) (w : World) (h : Qbs.f a0 a1 = some (r1, r2)) :
  Calls Try.prog 69 #[.int .i64 a0, .int .i64 a1] w fun e w' => e = .returned (.tuple #[.int .i64 r1, .int .i64 r2]) ∧ Drawn0 w w' := by
 have H : ((QaP.f a0).bind fun t551 => (if t551 = T then ((QaP.f a1).bind fun t552 => (if t552 = T then ((Qa2.f (wrap64 (a0 + a1))).bind fun bt553 => (some (bt553.1, bt553.2))) else (some (0, 2)))) else (some (0, 2)))) = some (r1, r2) := h
 clear h
 replace H := Option.bind_eq_some_iff.mp H
 obtain ⟨t551, A30, H⟩ := H
 replace H : (if t551 = T then ((QaP.f a1).bind fun t552 => (if t552 = T then ((Qa2.f (wrap64 (a0 + a1))).bind fun bt553 => (some (bt553.1, bt553.2))) else (some (0, 2)))) else (some (0, 2))) = some (r1, r2) := H
 have A3 := Aside0.mk A30
 clear A30
 by_cases c4 : t551 = T
 ·subst c4
  have H1 : ((QaP.f a1).bind fun t552 => (if t552 = T then ((Qa2.f (wrap64 (a0 + a1))).bind fun bt553 => (some (bt553.1, bt553.2))) else (some (0, 2)))) = some (r1, r2) := by rw [if_pos rfl] at H; exact H
  clear H
  have H := H1
  clear H1
  replace H := Option.bind_eq_some_iff.mp H
  obtain ⟨t552, A50, H⟩ := H
  replace H : (if t552 = T then ((Qa2.f (wrap64 (a0 + a1))).bind fun bt553 => (some (bt553.1, bt553.2))) else (some (0, 2))) = some (r1, r2) := H
  have A5 := Aside0.mk A50
  clear A50
  go_enter Try.func69, Try.ntmps69
  go_upto_if 13 with (first | ((with_reducible refine Qat (f := 88) rfl ?_); refine goesL_ (some 7) rfl rfl Try.func88 (by kernel_rfl) rfl #[.int .i64 a0] rfl (Zl) ?_; (with_reducible refine (QaP.calls a0 T _ A3.out).mono ?_); rintro e w' ⟨rfl, ⟨nd, rfl⟩⟩; refine ⟨_, rfl, ?_⟩) | (go_at_call 88; (with_reducible refine (QaP.calls a1 t552 _ A5.out).mono ?_); rintro e w' ⟨rfl, ⟨nd, rfl⟩⟩))
  (try simp only [Act.put, Zj, Zk, Zm])
  by_cases c6 : t552 = T
  ·subst c6
   have H1 : ((Qa2.f (wrap64 (a0 + a1))).bind fun bt553 => (some (bt553.1, bt553.2))) = some (r1, r2) := by rw [if_pos rfl] at H; exact H
   clear H
   have H := H1
   clear H1
   replace H := Option.bind_eq_some_iff.mp H
   obtain ⟨⟨t553, t554⟩, A70, H⟩ := H
   replace H : (some (t553, t554)) = some (r1, r2) := H
   have A7 := Aside0.mk A70
   clear A70
   simp only [Option.some.injEq, Prod.mk.injEq] at H
   obtain ⟨rfl, rfl⟩ := H
   go_wp2_with (first | ((with_reducible refine Qat (f := 92) rfl ?_); refine goesL_ (some 17) rfl rfl Try.func92 (by kernel_rfl) rfl #[.int .i64 (wrap64 (a0 + a1))] rfl (Zl) ?_; (with_reducible refine (Qa2.calls (wrap64 (a0 + a1)) t553 t554 _ A7.out).mono ?_); rintro e w' ⟨rfl, ⟨nd, rfl⟩⟩; refine ⟨_, rfl, ?_⟩))
   go_ret2
   exact ⟨Zs, Zd⟩
  replace c6 := Bool.eq_false_iff.mpr c6
  subst c6
  have H1 : (some (0, 2)) = some (r1, r2) := by rw [if_neg (show ¬ (F = T) by decide)] at H; exact H
  clear H
  have H := H1
  clear H1
  simp only [Option.some.injEq, Prod.mk.injEq] at H
  obtain ⟨rfl, rfl⟩ := H
  go_wp2
  go_ret2
  exact ⟨Zs, Zd⟩
 replace c4 := Bool.eq_false_iff.mpr c4
 subst c4
 have H1 : (some (0, 2)) = some (r1, r2) := by rw [if_neg (show ¬ (F = T) by decide)] at H; exact H
 clear H
 have H := H1
 clear H1
 simp only [Option.some.injEq, Prod.mk.injEq] at H
 obtain ⟨rfl, rfl⟩ := H
 go_enter Try.func69, Try.ntmps69
 go_wp2_with (first | ((with_reducible refine Qat (f := 88) rfl ?_); refine goesL_ (some 7) rfl rfl Try.func88 (by kernel_rfl) rfl #[.int .i64 a0] rfl (Zl) ?_; (with_reducible refine (QaP.calls a0 F _ A3.out).mono ?_); rintro e w' ⟨rfl, ⟨nd, rfl⟩⟩; refine ⟨_, rfl, ?_⟩))
 go_ret2
 exact ⟨Zs, Zd⟩
def Qaf.l0 : Nat → List Int → List Int → Int → Option (Bool)
 | 0, _, _, _ => none
 | k + 1, x0, x1, x5 => if x5 < (x0.length : Int) then (if 0 ≤ x5 then (if x5 < (x1.length : Int) then (if (rd x0 x5) = (rd x1 x5) then (Qaf.l0 k x0 x1 (wrap64 (x5 + 1))) else (some F)) else (none)) else (none)) else (some T)
def Qaf.f (k : Nat) (l0 : List Int) (l1 : List Int) : Option (Bool) := if (l0.length : Int) = (l1.length : Int) then (Qaf.l0 k l0 l1 0) else (some F)
theorem Qaf.mono_l : ∀ k, (∀ y0 y1 y2, LeO (Qaf.l0 k y0 y1 y2) (Qaf.l0 (k + 1) y0 y1 y2))
 | 0 => fun _ _ _ r h => by simp [Qaf.l0] at h
 | k + 1 => by
  have ih0 := Qaf.mono_l k
  intro y0 y1 y2
  unfold Qaf.l0
  exact ZM1 ih0
theorem Qaf.mono : ∀ a0 a1 k, LeO (Qaf.f k a0 a1) (Qaf.f (k + 1) a0 a1) := by
 intro a0 a1 k
 have ih0 := Qaf.mono_l k
 unfold Qaf.f
 exact ZM1 ih0
set_option maxHeartbeats 8000000 in
theorem Qaf.calls (k : Nat) (A0 : Option Addr) (c0 : Nat) (l0 : List Int) (A1 : Option Addr) (c1 : Nat) (l1 : List Int) (r : Bool) (w : World) (hr0 : Kd.C (Kd.int .i64) w A0 l0.length l0) (hc0 : l0.length ≤ c0) (hr1 : Kd.C (Kd.int .i64) w A1 l1.length l1) (hc1 : l1.length ≤ c1) (h : Qaf.f k l0 l1 = some r) :
  Calls Try.prog 37 #[.slice A0 l0.length c0, .slice A1 l1.length c1] w fun e w' => e = .returned (.bool r) ∧ Drawn0 w w' := by
 have HR0 := Aside0.mk hr0
 have HC0 := Aside0.mk hc0
 clear hr0 hc0
 have HR1 := Aside0.mk hr1
 have HC1 := Aside0.mk hc1
 clear hr1 hc1
 have H : (if (l0.length : Int) = (l1.length : Int) then (Qaf.l0 k l0 l1 0) else (some F)) = some r := h
 clear h
 by_cases c3 : (l0.length : Int) = (l1.length : Int)
 ·rw [if_pos c3] at H
  have c3b0 : ((l0.length : Int) == (l1.length : Int)) = T := beq_iff_eq.mpr c3
  have c3b1 : ((l0.length : Int) != (l1.length : Int)) = F := bne_eq_false_iff_eq.mpr c3
  have c3b2 : (l0.length == l1.length) = T := by first | simpa using c3 | (simp at c3 ⊢; omega)
  clear c3
  have H' := Aside0.mk H
  clear H
  go_enter Try.func37, Try.ntmps37
  go_wp2
  repeat (go_quiet (fail); try go_wp2)
  go_loopg [5] k (fun kq v5 w' => ∃ (x5_1 : Int), v5 = .int .i64 x5_1 ∧ Aside0 (Qaf.l0 kq l0 l1 x5_1 = some r) ∧ Aside0 (kq ≤ k) ∧ Drawn0 w w')
  case atStart => exact ⟨(0), (Zs), H', ⟨Nat.le_refl _⟩, Zd⟩
  case round =>
   clear H'
   try clear c1
   try clear p2
   try clear c3
   try clear c3b0
   try clear c3b1
   try clear c3b2
   obtain ⟨x5_1, rfl, HA, HK1, ⟨m1, rfl⟩⟩ := hrel
   cases gk with
   | zero => exact absurd HA.out (by simp [Qaf.l0])
   | succ k1 =>
    have H := HA.out
    clear HA
    simp only [Qaf.l0] at H
    by_cases c4 : x5_1 < (l0.length : Int)
    ·rw [if_pos c4] at H
     have c4b0 : decide (x5_1 < (l0.length : Int)) = T := decide_eq_true c4
     clear c4
     (try simp only [c4b0])
     by_cases c5 : 0 ≤ x5_1
     ·rw [if_pos c5] at H
      have c5b0 : decide (0 ≤ x5_1) = T := decide_eq_true c5
      clear c5
      by_cases c6 : x5_1 < (l1.length : Int)
      ·rw [if_pos c6] at H
       have c6b0 : decide (x5_1 < (l1.length : Int)) = T := decide_eq_true c6
       clear c6
       have p568 : 0 ≤ (x5_1 : Int) := Ze
       have q568 : x5_1 < (l0.length : Int) := Ze
       obtain ⟨ad568, e568, hx568_0⟩ := Kd.at_int HR0.out x5_1 p568 q568
       cases e568
       replace p568 := eq_true p568
       replace q568 := eq_true q568
       have p569 : 0 ≤ (x5_1 : Int) := Ze
       have q569 : x5_1 < (l1.length : Int) := Ze
       obtain ⟨ad569, e569, hx569_0⟩ := Kd.at_int HR1.out x5_1 p569 q569
       cases e569
       replace p569 := eq_true p569
       replace q569 := eq_true q569
       go_upto_if 25 with (fail)
       repeat (go_quiet (fail); go_upto_if 25 with (fail))
       by_cases c7 : (rd l0 x5_1) = (rd l1 x5_1)
       ·rw [if_pos c7] at H
        have c7b0 : ((rd l0 x5_1) == (rd l1 x5_1)) = T := beq_iff_eq.mpr c7
        have c7b1 : ((rd l0 x5_1) != (rd l1 x5_1)) = F := bne_eq_false_iff_eq.mpr c7
        clear c7
        (try simp only [c7b0, c7b1])
        have H' := Aside0.mk H
        clear H
        go_wp2
        repeat (go_quiet (fail); try go_wp2)
        go_roundg k1
        case measure => have := HK1.out; omega
        case rel => exact ⟨(wrap64 (x5_1 + 1)), (Zs), H', ⟨by have := HK1.out; omega⟩, Zd⟩
       rw [if_neg c7] at H
       have c7b0 : ((rd l0 x5_1) == (rd l1 x5_1)) = F := beq_eq_false_iff_ne.mpr c7
       have c7b1 : ((rd l0 x5_1) != (rd l1 x5_1)) = T := bne_iff_ne.mpr c7
       (try simp only [c7b0, c7b1])
       obtain rfl := Option.some.inj H
       go_wp2
       repeat (go_quiet (fail); try go_wp2)
       go_ret
       exact ⟨Zs, Zd⟩
      rw [if_neg c6] at H
      exact absurd H (by simp)
     rw [if_neg c5] at H
     exact absurd H (by simp)
    rw [if_neg c4] at H
    have c4b0 : decide (x5_1 < (l0.length : Int)) = F := decide_eq_false c4
    clear c4
    (try simp only [c4b0])
    obtain rfl := Option.some.inj H
    go_wp2
    repeat (go_quiet (fail); try go_wp2)
    go_ret
    exact ⟨Zs, Zd⟩
 rw [if_neg c3] at H
 have c3b0 : ((l0.length : Int) == (l1.length : Int)) = F := beq_eq_false_iff_ne.mpr c3
 have c3b1 : ((l0.length : Int) != (l1.length : Int)) = T := bne_iff_ne.mpr c3
 have c3b2 : (l0.length == l1.length) = F := by first | simpa using c3 | (simp at c3 ⊢; omega)
 obtain rfl := Option.some.inj H
 go_enter Try.func37, Try.ntmps37
 go_wp2
 repeat (go_quiet (fail); try go_wp2)
 go_ret
 exact ⟨Zs, Zd⟩
def Qbc.f (a0 : Int) : Option (Bool) := (QaA.f a0 (-1099511627776) 1099511627776).bind fun t570 => (some (!t570))
set_option maxHeartbeats 8000000 in
theorem Qbc.calls (a0 : Int) (r : Bool) (w : World) (h : Qbc.f a0 = some r) :
  Calls Try.prog 73 #[.int .i64 a0] w fun e w' => e = .returned (.bool r) ∧ Drawn0 w w' := by
 have H : ((QaA.f a0 (-1099511627776) 1099511627776).bind fun t570 => (some (!t570))) = some r := h
 clear h
 replace H := Option.bind_eq_some_iff.mp H
 obtain ⟨t570, A20, H⟩ := H
 replace H : (some (!t570)) = some r := H
 have A2 := Aside0.mk A20
 clear A20
 obtain rfl := Option.some.inj H
 go_enter Try.func73, Try.ntmps73
 go_wp2_with (first | ((with_reducible refine Qat (f := 60) rfl ?_); refine goesL_ (some 4) rfl rfl Try.func60 (by kernel_rfl) rfl #[.int .i64 a0, .int .i64 (-1099511627776), .int .i64 1099511627776] rfl (Zl) ?_; (with_reducible refine (QaA.calls a0 (-1099511627776) 1099511627776 t570 _ A2.out).mono ?_); rintro e w' ⟨rfl, ⟨nd, rfl⟩⟩; refine ⟨_, rfl, ?_⟩))
 go_ret
 exact ⟨Zs, Zd⟩
def Qaq.l0 : Nat → List Int → Int → Int → Option (Int)
 | 0, _, _, _ => none
 | k + 1, x0, x7, x8 => if x8 < x7 then (if 0 ≤ x8 then (if x8 < (x0.length : Int) then ((Qbc.f (rd x0 x8)).bind fun t572 => (if t572 = T then (some x8) else (Qaq.l0 k x0 x7 (wrap64 (x8 + 1))))) else (none)) else (none)) else (some (-1))
def Qaq.f (k : Nat) (l0 : List Int)  : Option (Int) := Qaq.l0 k l0 (l0.length : Int) 0
theorem Qaq.mono_l : ∀ k, (∀ y0 y1 y2, LeO (Qaq.l0 k y0 y1 y2) (Qaq.l0 (k + 1) y0 y1 y2))
 | 0 => fun _ _ _ r h => by simp [Qaq.l0] at h
 | k + 1 => by
  have ih0 := Qaq.mono_l k
  intro y0 y1 y2
  unfold Qaq.l0
  exact ZM1 ih0
theorem Qaq.mono : ∀ a0 k, LeO (Qaq.f k a0) (Qaq.f (k + 1) a0) := by
 intro a0 k
 have ih0 := Qaq.mono_l k
 unfold Qaq.f
 exact ZM1 ih0
set_option maxHeartbeats 8000000 in
theorem Qaq.calls (k : Nat) (A0 : Option Addr) (c0 : Nat) (l0 : List Int)  (r : Int) (w : World) (hr0 : Kd.C (Kd.int .i64) w A0 l0.length l0) (hc0 : l0.length ≤ c0) (h : Qaq.f k l0 = some r) :
  Calls Try.prog 95 #[.slice A0 l0.length c0, .func (.func 73) #[] #[]] w fun e w' => e = .returned (.int .i64 r) ∧ Drawn0 w w' := by
 have HR0 := Aside0.mk hr0
 have HC0 := Aside0.mk hc0
 clear hr0 hc0
 have H : (Qaq.l0 k l0 (l0.length : Int) 0) = some r := h
 clear h
 have H' := Aside0.mk H
 clear H
 go_enter Try.func95, Try.ntmps95
 go_wp2
 go_loopg [8] k (fun kq v8 w' => ∃ (x8_1 : Int), v8 = .int .i64 x8_1 ∧ Aside0 (Qaq.l0 kq l0 (l0.length : Int) x8_1 = some r) ∧ Aside0 (kq ≤ k) ∧ Drawn0 w w')
 case atStart => exact ⟨(0), (Zs), H', ⟨Nat.le_refl _⟩, Zd⟩
 case round =>
  clear H'
  try clear p2
  obtain ⟨x8_1, rfl, HA, HK1, ⟨m1, rfl⟩⟩ := hrel
  cases gk with
  | zero => exact absurd HA.out (by simp [Qaq.l0])
  | succ k1 =>
   have H := HA.out
   clear HA
   simp only [Qaq.l0] at H
   by_cases c3 : x8_1 < (l0.length : Int)
   ·rw [if_pos c3] at H
    have c3b0 : decide (x8_1 < (l0.length : Int)) = T := decide_eq_true c3
    clear c3
    (try simp only [c3b0])
    by_cases c4 : 0 ≤ x8_1
    ·rw [if_pos c4] at H
     have c4b0 : decide (0 ≤ x8_1) = T := decide_eq_true c4
     clear c4
     by_cases c5 : x8_1 < (l0.length : Int)
     ·rw [if_pos c5] at H
      have c5b0 : decide (x8_1 < (l0.length : Int)) = T := decide_eq_true c5
      clear c5
      replace H := Option.bind_eq_some_iff.mp H
      obtain ⟨t572, A60, H⟩ := H
      replace H : (if t572 = T then (some x8_1) else (Qaq.l0 k1 l0 (l0.length : Int) (wrap64 (x8_1 + 1)))) = some r := H
      have A6 := Aside0.mk A60
      clear A60
      have p571 : 0 ≤ (x8_1 : Int) := Ze
      have q571 : x8_1 < (l0.length : Int) := Ze
      obtain ⟨ad571, e571, hx571_0⟩ := Kd.at_int HR0.out x8_1 p571 q571
      cases e571
      replace p571 := eq_true p571
      replace q571 := eq_true q571
      go_upto_if 16 with (first | (go_at_call 73; (with_reducible refine (Qbc.calls (rd l0 x8_1) t572 _ A6.out).mono ?_); rintro e w' ⟨rfl, ⟨nd, rfl⟩⟩))
      (try simp only [Act.put, Zj, Zk, Zm])
      by_cases c7 : t572 = T
      ·subst c7
       have H1 : (some x8_1) = some r := by rw [if_pos rfl] at H; exact H
       clear H
       have H := H1
       clear H1
       obtain rfl := Option.some.inj H
       go_wp2
       go_ret
       exact ⟨Zs, Zd⟩
      replace c7 := Bool.eq_false_iff.mpr c7
      subst c7
      have H1 : (Qaq.l0 k1 l0 (l0.length : Int) (wrap64 (x8_1 + 1))) = some r := by rw [if_neg (show ¬ (F = T) by decide)] at H; exact H
      clear H
      have H := H1
      clear H1
      have H' := Aside0.mk H
      clear H
      go_wp2
      go_roundg k1
      case measure => have := HK1.out; omega
      case rel => exact ⟨(wrap64 (x8_1 + 1)), (Zs), H', ⟨by have := HK1.out; omega⟩, Zd⟩
     rw [if_neg c5] at H
     exact absurd H (by simp)
    rw [if_neg c4] at H
    exact absurd H (by simp)
   rw [if_neg c3] at H
   have c3b0 : decide (x8_1 < (l0.length : Int)) = F := decide_eq_false c3
   clear c3
   (try simp only [c3b0])
   obtain rfl := Option.some.inj H
   go_wp2
   go_ret
   exact ⟨Zs, Zd⟩
def Qav.f (k : Nat) (l0 : List Int)  : Option (Bool) := (Qaq.f k l0).bind fun t573 => (some (decide (t573 ≥ 0)))
theorem Qav.mono : ∀ a0 k, LeO (Qav.f k a0) (Qav.f (k + 1) a0) := by
 intro a0 k
 unfold Qav.f
 exact ZM1 Qaq.mono
set_option maxHeartbeats 8000000 in
theorem Qav.calls (k : Nat) (A0 : Option Addr) (c0 : Nat) (l0 : List Int)  (r : Bool) (w : World) (hr0 : Kd.C (Kd.int .i64) w A0 l0.length l0) (hc0 : l0.length ≤ c0) (h : Qav.f k l0 = some r) :
  Calls Try.prog 72 #[.slice A0 l0.length c0, .func (.func 73) #[] #[]] w fun e w' => e = .returned (.bool r) ∧ Drawn0 w w' := by
 have HR0 := Aside0.mk hr0
 have HC0 := Aside0.mk hc0
 clear hr0 hc0
 have H : ((Qaq.f k l0).bind fun t573 => (some (decide (t573 ≥ 0)))) = some r := h
 clear h
 replace H := Option.bind_eq_some_iff.mp H
 obtain ⟨t573, A30, H⟩ := H
 replace H : (some (decide (t573 ≥ 0))) = some r := H
 have A3 := Aside0.mk A30
 clear A30
 obtain rfl := Option.some.inj H
 go_enter Try.func72, Try.ntmps72
 go_wp2_with (first | ((with_reducible refine Qat (f := 95) rfl ?_); refine goesL_ (some 7) rfl rfl Try.func95 (by kernel_rfl) rfl #[.slice A0 l0.length c0, .func (.func 73) #[] #[]] rfl (Zl) ?_; (with_reducible refine (Qaq.calls k _ _ l0  t573 _ ?side1 ?side2 A3.out).mono ?_); (case side1 => exact Zv HR0.out); (case side2 => exact HC0.out); rintro e w' ⟨rfl, ⟨nd, rfl⟩⟩; refine ⟨_, rfl, ?_⟩))
 go_ret
 exact ⟨Zs, Zd⟩
mutual
def Qap.j0 : Nat → List Int → Int → Bool → Option (Int × Int)
 | 0, _, _, _ => none
 | k + 1, x0, x1, x15 => if x15 = T then (some (0, 2)) else (if (x0.length : Int) > 1024 then (some (0, 8)) else (Qap.l0 k x1 0 x0 (x0.length : Int) 0))
def Qap.l0 : Nat → Int → Int → List Int → Int → Int → Option (Int × Int)
 | 0, _, _, _, _, _ => none
 | k + 1, x1, x6, x19, x20, x21 => if x21 < x20 then (if 0 ≤ x21 then (if x21 < (x19.length : Int) then ((Qa6.f (rd x19 x21)).bind fun t577 => (Qap.l0 k x1 (wrap64 (x6 + (wrap64 (Int.tdiv t577 1000)))) x19 x20 (wrap64 (x21 + 1)))) else (none)) else (none)) else ((Qaz.f k x6 x1).bind fun bt578 => (some (bt578.1, bt578.2)))
end
def Qap.f (k : Nat) (l0 : List Int) (a1 : Int) : Option (Int × Int) := (QaA.f a1 0 68719476736).bind fun t574 => (if t574 = T then ((Qav.f k l0).bind fun t575 => (Qap.j0 k l0 a1 t575)) else (Qap.j0 k l0 a1 T))
theorem Qap.mono_l : ∀ k, (∀ y0 y1 y2, LeO (Qap.j0 k y0 y1 y2) (Qap.j0 (k + 1) y0 y1 y2)) ∧ (∀ y0 y1 y2 y3 y4, LeO (Qap.l0 k y0 y1 y2 y3 y4) (Qap.l0 (k + 1) y0 y1 y2 y3 y4))
 | 0 => ⟨fun _ _ _ r h => by simp [Qap.j0] at h, fun _ _ _ _ _ r h => by simp [Qap.l0] at h⟩
 | k + 1 => by
  obtain ⟨ih0, ih1⟩ := Qap.mono_l k
  refine ⟨?_, ?_⟩
  ·intro y0 y1 y2
   unfold Qap.j0
   exact ZM4 ih0 ih1 Qaz.mono Qav.mono
  intro y0 y1 y2 y3 y4
  unfold Qap.l0
  exact ZM4 ih0 ih1 Qaz.mono Qav.mono
theorem Qap.mono : ∀ a0 a1 k, LeO (Qap.f k a0 a1) (Qap.f (k + 1) a0 a1) := by
 intro a0 a1 k
 obtain ⟨ih0, ih1⟩ := Qap.mono_l k
 unfold Qap.f
 exact ZM4 ih0 ih1 Qaz.mono Qav.mono
set_option maxHeartbeats 8000000 in
theorem Qap.calls (k : Nat) (A0 : Option Addr) (c0 : Nat) (l0 : List Int) (a1 : Int) (r1 : Int) (r2 : Int) (w : World) (hr0 : Kd.C (Kd.int .i64) w A0 l0.length l0) (hc0 : l0.length ≤ c0) (h : Qap.f k l0 a1 = some (r1, r2)) :
  Calls Try.prog 40 #[.slice A0 l0.length c0, .int .i64 a1] w fun e w' => e = .returned (.tuple #[.int .i64 r1, .int .i64 r2]) ∧ Below w.heap.size w w' := by
 have HR0 := Aside0.mk hr0
 have HC0 := Aside0.mk hc0
 clear hr0 hc0
 have HB := Aside0.mk (Below.refl w.heap.size w)
 have H : ((QaA.f a1 0 68719476736).bind fun t574 => (if t574 = T then ((Qav.f k l0).bind fun t575 => (Qap.j0 k l0 a1 t575)) else (Qap.j0 k l0 a1 T))) = some (r1, r2) := h
 clear h
 have HC3 := Aside0.mk H
 clear H
 go_enter Try.func40, Try.ntmps40
 go_upto_region 1 with (fail)
 go_cut [15] (fun v15 wc => ∃ (kq : Nat) (x15_2 : Bool), v15 = .bool x15_2 ∧ Aside0 (Qap.j0 kq l0 a1 x15_2 = some (r1, r2)) ∧ Aside0 (kq ≤ k) ∧ Aside0 (Below w.heap.size w wc))
 case first =>
  have H := HC3.out
  clear HC3
  replace H := Option.bind_eq_some_iff.mp H
  obtain ⟨t574, A40, H⟩ := H
  replace H : (if t574 = T then ((Qav.f k l0).bind fun t575 => (Qap.j0 k l0 a1 t575)) else (Qap.j0 k l0 a1 T)) = some (r1, r2) := H
  have A4 := Aside0.mk A40
  clear A40
  by_cases c5 : t574 = T
  ·subst c5
   have H1 : ((Qav.f k l0).bind fun t575 => (Qap.j0 k l0 a1 t575)) = some (r1, r2) := by rw [if_pos rfl] at H; exact H
   clear H
   have H := H1
   clear H1
   replace H := Option.bind_eq_some_iff.mp H
   obtain ⟨t575, A60, H⟩ := H
   replace H : (Qap.j0 k l0 a1 t575) = some (r1, r2) := H
   have A6 := Aside0.mk A60
   clear A60
   have H' := Aside0.mk H
   clear H
   go_wp2_with (first | ((with_reducible refine Qat (f := 60) rfl ?_); refine goesL_ (some 10) rfl rfl Try.func60 (by kernel_rfl) rfl #[.int .i64 a1, .int .i64 0, .int .i64 68719476736] rfl (Zl) ?_; (with_reducible refine (QaA.calls a1 0 68719476736 T _ A4.out).mono ?_); rintro e w' ⟨rfl, ⟨nd, rfl⟩⟩; refine ⟨_, rfl, ?_⟩) | (go_at_call 72; (with_reducible refine (Qav.calls k _ _ l0  t575 _ ?side1 ?side2 A6.out).mono ?_); (case side1 => exact Zv (Kd.C_below HR0.out (Zb))); (case side2 => exact HC0.out); rintro e w' ⟨rfl, ⟨nd, rfl⟩⟩))
   go_meet
   case rel => exact ⟨_, (t575), (Zs), H', ⟨by first | omega | exact Nat.le_refl _⟩, ⟨Zb⟩⟩
  replace c5 := Bool.eq_false_iff.mpr c5
  subst c5
  have H1 : (Qap.j0 k l0 a1 T) = some (r1, r2) := by rw [if_neg (show ¬ (F = T) by decide)] at H; exact H
  clear H
  have H := H1
  clear H1
  have H' := Aside0.mk H
  clear H
  go_wp2_with (first | ((with_reducible refine Qat (f := 60) rfl ?_); refine goesL_ (some 10) rfl rfl Try.func60 (by kernel_rfl) rfl #[.int .i64 a1, .int .i64 0, .int .i64 68719476736] rfl (Zl) ?_; (with_reducible refine (QaA.calls a1 0 68719476736 F _ A4.out).mono ?_); rintro e w' ⟨rfl, ⟨nd, rfl⟩⟩; refine ⟨_, rfl, ?_⟩))
  go_meet
  case rel => exact ⟨_, (T), (Zs), H', ⟨by first | omega | exact Nat.le_refl _⟩, ⟨Zb⟩⟩
 case rest =>
  clear HC3
  try clear p2
  try clear c4
  try clear c5
  try clear c6
  obtain ⟨kq, x15_2, rfl, HA, HJ2, HB⟩ := hcut
  cases kq with
  | zero => exact absurd HA.out (by simp [Qap.j0])
  | succ kj2 =>
   have H := HA.out
   clear HA
   simp only [Qap.j0] at H
   by_cases c7 : x15_2 = T
   ·subst c7
    have H1 : (some (0, 2)) = some (r1, r2) := by rw [if_pos rfl] at H; exact H
    clear H
    have H := H1
    clear H1
    simp only [Option.some.injEq, Prod.mk.injEq] at H
    obtain ⟨rfl, rfl⟩ := H
    go_wp2
    go_ret2
    exact ⟨Zq, Zb⟩
   replace c7 := Bool.eq_false_iff.mpr c7
   subst c7
   have H1 : (if (l0.length : Int) > 1024 then (some (0, 8)) else (Qap.l0 kj2 a1 0 l0 (l0.length : Int) 0)) = some (r1, r2) := by rw [if_neg (show ¬ (F = T) by decide)] at H; exact H
   clear H
   have H := H1
   clear H1
   by_cases c8 : (l0.length : Int) > 1024
   ·rw [if_pos c8] at H
    have c8b0 : decide (1024 < (l0.length : Int)) = T := decide_eq_true c8
    have c8b1 : decide (1024 < l0.length) = T := decide_eq_true (by omega)
    clear c8
    (try simp only [c8b0, c8b1])
    simp only [Option.some.injEq, Prod.mk.injEq] at H
    obtain ⟨rfl, rfl⟩ := H
    go_wp2
    go_ret2
    exact ⟨Zq, Zb⟩
   rw [if_neg c8] at H
   have c8b0 : decide (1024 < (l0.length : Int)) = F := decide_eq_false c8
   have c8b1 : decide (1024 < l0.length) = F := decide_eq_false (by omega)
   clear c8
   (try simp only [c8b0, c8b1])
   have H' := Aside0.mk H
   clear H
   go_wp2
   go_loopg [6, 21] kj2 (fun kq v6 v21 w' => ∃ (x6_2 : Int) (x21_2 : Int), v6 = .int .i64 x6_2 ∧ v21 = .int .i64 x21_2 ∧ Aside0 (Qap.l0 kq a1 x6_2 l0 (l0.length : Int) x21_2 = some (r1, r2)) ∧ Aside0 (kq ≤ kj2) ∧ Aside0 (Below w.heap.size w w'))
   case atStart => exact ⟨(0), (0), (Zs), (Zs), H', ⟨Nat.le_refl _⟩, ⟨Zb⟩⟩
   case round =>
    clear H'
    try clear p2
    try clear c4
    try clear c5
    try clear c6
    try clear c7
    try clear c8
    try clear c8b0
    try clear c8b1
    try clear p2
    obtain ⟨x6_2, x21_2, rfl, rfl, HA, HK2, HB⟩ := hrel
    cases gk with
    | zero => exact absurd HA.out (by simp [Qap.l0])
    | succ k2 =>
     have H := HA.out
     clear HA
     simp only [Qap.l0] at H
     by_cases c9 : x21_2 < (l0.length : Int)
     ·rw [if_pos c9] at H
      have c9b0 : decide (x21_2 < (l0.length : Int)) = T := decide_eq_true c9
      clear c9
      (try simp only [c9b0])
      by_cases c10 : 0 ≤ x21_2
      ·rw [if_pos c10] at H
       have c10b0 : decide (0 ≤ x21_2) = T := decide_eq_true c10
       clear c10
       by_cases c11 : x21_2 < (l0.length : Int)
       ·rw [if_pos c11] at H
        have c11b0 : decide (x21_2 < (l0.length : Int)) = T := decide_eq_true c11
        clear c11
        replace H := Option.bind_eq_some_iff.mp H
        obtain ⟨t577, A120, H⟩ := H
        replace H : (Qap.l0 k2 a1 (wrap64 (x6_2 + (wrap64 (Int.tdiv t577 1000)))) l0 (l0.length : Int) (wrap64 (x21_2 + 1))) = some (r1, r2) := H
        have A12 := Aside0.mk A120
        clear A120
        have H' := Aside0.mk H
        clear H
        have p576 : 0 ≤ (x21_2 : Int) := Ze
        have q576 : x21_2 < (l0.length : Int) := Ze
        obtain ⟨ad576, e576, hx576_0⟩ := Kd.at_int HR0.out x21_2 p576 q576
        cases e576
        replace hx576_0 := Zx HB.out hx576_0
        replace p576 := eq_true p576
        replace q576 := eq_true q576
        go_wp2_with (first | ((with_reducible refine Qat (f := 63) rfl ?_); refine goesL_ (some 27) rfl rfl Try.func63 (by kernel_rfl) rfl #[.int .i64 (rd l0 x21_2)] rfl (Zl) ?_; (with_reducible refine (Qa6.calls (rd l0 x21_2) t577 _ A12.out).mono ?_); rintro e w13 ⟨rfl, hb⟩; refine ⟨_, rfl, ?_⟩; replace HB := Aside0.mk (Qax (Zb) hb); (try clear hb); (try clear hb2); (try clear hk); (try clear hi)))
        go_roundg k2
        case measure => have := HJ2.out; have := HK2.out; omega
        case rel => exact ⟨(wrap64 (x6_2 + (wrap64 (Int.tdiv t577 1000)))), (wrap64 (x21_2 + 1)), (Zs), (Zs), H', ⟨by have := HJ2.out; have := HK2.out; omega⟩, ⟨Zb⟩⟩
       rw [if_neg c11] at H
       exact absurd H (by simp)
      rw [if_neg c10] at H
      exact absurd H (by simp)
     rw [if_neg c9] at H
     have c9b0 : decide (x21_2 < (l0.length : Int)) = F := decide_eq_false c9
     clear c9
     (try simp only [c9b0])
     replace H := Option.bind_eq_some_iff.mp H
     obtain ⟨⟨t578, t579⟩, A140, H⟩ := H
     replace H : (some (t578, t579)) = some (r1, r2) := H
     have A14 := Aside0.mk A140
     clear A140
     simp only [Option.some.injEq, Prod.mk.injEq] at H
     obtain ⟨rfl, rfl⟩ := H
     go_wp2_with (first | ((with_reducible refine Qat (f := 68) rfl ?_); refine goesL_ (some 33) rfl rfl Try.func68 (by kernel_rfl) rfl #[.int .i64 x6_2, .int .i64 a1] rfl (Zl) ?_; (with_reducible refine (Qaz.calls k2 x6_2 a1 t578 t579 _ A14.out).mono ?_); rintro e w' ⟨rfl, ⟨nd, rfl⟩⟩; refine ⟨_, rfl, ?_⟩))
     go_ret2
     exact ⟨Zq, Zb⟩
mutual
def Qal.l0 : Nat → List (S91) → Int → Option (Int)
 | 0, _, _ => none
 | k + 1, x0, x3 => if x3 < (x0.length : Int) then (if 0 ≤ x3 then (if ((rd_T91 x0 x3).f0) < 0 then (Qal.j1 k x0 x3 T) else (if ((rd_T91 x0 x3).f0) > 73048 then (Qal.j1 k x0 x3 T) else (if ((rd_T91 x0 x3).f1) < 0 then (Qal.j1 k x0 x3 T) else (if ((rd_T91 x0 x3).f1) > 73048 then (Qal.j1 k x0 x3 T) else (Qal.j1 k x0 x3 (((rd_T91 x0 x3).f0) == ((rd_T91 x0 x3).f1))))))) else (none)) else (some 0)
def Qal.j1 : Nat → List (S91) → Int → Bool → Option (Int)
 | 0, _, _, _ => none
 | k + 1, x0, x3, x55 => if x55 = T then (some 15) else (if 0 ≤ x3 then (if x3 < (x0.length : Int) then (if ((rd_T91 x0 x3).f2) < 0 then (some 2) else (if ((rd_T91 x0 x3).f2) > 68719476736 then (some 2) else (Qal.l0 k x0 (wrap64 (x3 + 1))))) else (none)) else (none))
end
def Qal.f (k : Nat) (l0 : List (S91)) : Option (Int) := if (l0.length : Int) > 1024 then (some 8) else (Qal.l0 k l0 0)
theorem Qal.mono_l : ∀ k, (∀ y0 y1, LeO (Qal.l0 k y0 y1) (Qal.l0 (k + 1) y0 y1)) ∧ (∀ y0 y1 y2, LeO (Qal.j1 k y0 y1 y2) (Qal.j1 (k + 1) y0 y1 y2))
 | 0 => ⟨fun _ _ r h => by simp [Qal.l0] at h, fun _ _ _ r h => by simp [Qal.j1] at h⟩
 | k + 1 => by
  obtain ⟨ih0, ih1⟩ := Qal.mono_l k
  refine ⟨?_, ?_⟩
  ·intro y0 y1
   unfold Qal.l0
   exact ZM2 ih0 ih1
  intro y0 y1 y2
  unfold Qal.j1
  exact ZM2 ih0 ih1
theorem Qal.mono : ∀ a0 k, LeO (Qal.f k a0) (Qal.f (k + 1) a0) := by
 intro a0 k
 obtain ⟨ih0, ih1⟩ := Qal.mono_l k
 unfold Qal.f
 exact ZM2 ih0 ih1
set_option maxHeartbeats 8000000 in
theorem Qal.calls (k : Nat) (A0 : Option Addr) (c0 : Nat) (l0 : List (S91)) (r : Int) (w : World) (hr0 : Kd.C k91 w A0 l0.length l0) (hc0 : l0.length ≤ c0) (h : Qal.f k l0 = some r) :
  Calls Try.prog 39 #[.slice A0 l0.length c0] w fun e w' => e = .returned (.int .i64 r) ∧ Drawn0 w w' := by
 have HR0 := Aside0.mk hr0
 have HC0 := Aside0.mk hc0
 clear hr0 hc0
 have H : (if (l0.length : Int) > 1024 then (some 8) else (Qal.l0 k l0 0)) = some r := h
 clear h
 by_cases c2 : (l0.length : Int) > 1024
 ·rw [if_pos c2] at H
  have c2b0 : decide (1024 < (l0.length : Int)) = T := decide_eq_true c2
  have c2b1 : decide (1024 < l0.length) = T := decide_eq_true (by omega)
  clear c2
  obtain rfl := Option.some.inj H
  go_enter Try.func39, Try.ntmps39
  go_wp2
  repeat (go_quiet (fail); try go_wp2)
  go_ret
  exact ⟨Zs, Zd⟩
 rw [if_neg c2] at H
 have c2b0 : decide (1024 < (l0.length : Int)) = F := decide_eq_false c2
 have c2b1 : decide (1024 < l0.length) = F := decide_eq_false (by omega)
 clear c2
 have H' := Aside0.mk H
 clear H
 go_enter Try.func39, Try.ntmps39
 go_wp2
 repeat (go_quiet (fail); try go_wp2)
 go_loopg [3] k (fun kq v3 w' => ∃ (x3_1 : Int), v3 = .int .i64 x3_1 ∧ Aside0 (Qal.l0 kq l0 x3_1 = some r) ∧ Aside0 (kq ≤ k) ∧ Drawn0 w w')
 case atStart => exact ⟨(0), (Zs), H', ⟨Nat.le_refl _⟩, Zd⟩
 case round =>
  clear H'
  try clear c2
  try clear c2b0
  try clear c2b1
  try clear p2
  obtain ⟨x3_1, rfl, HA, HK1, ⟨m1, rfl⟩⟩ := hrel
  cases gk with
  | zero => exact absurd HA.out (by simp [Qal.l0])
  | succ k1 =>
   have H := HA.out
   clear HA
   simp only [Qal.l0] at H
   by_cases c3 : x3_1 < (l0.length : Int)
   ·rw [if_pos c3] at H
    have c3b0 : decide (x3_1 < (l0.length : Int)) = T := decide_eq_true c3
    clear c3
    (try simp only [c3b0])
    have HC4 := Aside0.mk H
    clear H
    go_upto_region 6 with (fail)
    repeat (go_quiet (fail); go_upto_region 6 with (fail))
    go_cut [55] (fun v55 wc => ∃ (kq : Nat) (x55_3 : Bool), v55 = .bool x55_3 ∧ Aside0 (Qal.j1 kq l0 x3_1 x55_3 = some r) ∧ Aside0 (kq ≤ k1) ∧ Drawn0 w wc)
    case first =>
     have H := HC4.out
     clear HC4
     by_cases c5 : 0 ≤ x3_1
     ·rw [if_pos c5] at H
      have c5b0 : decide (0 ≤ x3_1) = T := decide_eq_true c5
      clear c5
      by_cases c6 : ((rd_T91 l0 x3_1).f0) < 0
      ·rw [if_pos c6] at H
       have c6b0 : decide (((rd_T91 l0 x3_1).f0) < 0) = T := decide_eq_true c6
       clear c6
       have H' := Aside0.mk H
       clear H
       have p614 : 0 ≤ (x3_1 : Int) := Ze
       have q614 : x3_1 < (l0.length : Int) := Ze
       obtain ⟨ad614, e614, hx614_0, hx614_1, hx614_2⟩ := at_T91 HR0.out x3_1 p614 q614
       cases e614
       replace p614 := eq_true p614
       replace q614 := eq_true q614
       go_wp2
       repeat (go_quiet (fail); try go_wp2)
       go_meet
       case rel => exact ⟨_, (T), (Zs), H', ⟨by have := HK1.out; first | omega | exact Nat.le_refl _⟩, Zd⟩
      rw [if_neg c6] at H
      have c6b0 : decide (((rd_T91 l0 x3_1).f0) < 0) = F := decide_eq_false c6
      clear c6
      by_cases c7 : ((rd_T91 l0 x3_1).f0) > 73048
      ·rw [if_pos c7] at H
       have c7b0 : decide (73048 < ((rd_T91 l0 x3_1).f0)) = T := decide_eq_true c7
       clear c7
       have H' := Aside0.mk H
       clear H
       have p614 : 0 ≤ (x3_1 : Int) := Ze
       have q614 : x3_1 < (l0.length : Int) := Ze
       obtain ⟨ad614, e614, hx614_0, hx614_1, hx614_2⟩ := at_T91 HR0.out x3_1 p614 q614
       cases e614
       replace p614 := eq_true p614
       replace q614 := eq_true q614
       have p615 : 0 ≤ (x3_1 : Int) := Ze
       have q615 : x3_1 < (l0.length : Int) := Ze
       obtain ⟨ad615, e615, hx615_0, hx615_1, hx615_2⟩ := at_T91 HR0.out x3_1 p615 q615
       obtain rfl : ad614 = ad615 := (by injection e615)
       replace p615 := eq_true p615
       replace q615 := eq_true q615
       go_wp2
       repeat (go_quiet (fail); try go_wp2)
       go_meet
       case rel => exact ⟨_, (T), (Zs), H', ⟨by have := HK1.out; first | omega | exact Nat.le_refl _⟩, Zd⟩
      rw [if_neg c7] at H
      have c7b0 : decide (73048 < ((rd_T91 l0 x3_1).f0)) = F := decide_eq_false c7
      clear c7
      by_cases c8 : ((rd_T91 l0 x3_1).f1) < 0
      ·rw [if_pos c8] at H
       have c8b0 : decide (((rd_T91 l0 x3_1).f1) < 0) = T := decide_eq_true c8
       clear c8
       have H' := Aside0.mk H
       clear H
       have p614 : 0 ≤ (x3_1 : Int) := Ze
       have q614 : x3_1 < (l0.length : Int) := Ze
       obtain ⟨ad614, e614, hx614_0, hx614_1, hx614_2⟩ := at_T91 HR0.out x3_1 p614 q614
       cases e614
       replace p614 := eq_true p614
       replace q614 := eq_true q614
       have p615 : 0 ≤ (x3_1 : Int) := Ze
       have q615 : x3_1 < (l0.length : Int) := Ze
       obtain ⟨ad615, e615, hx615_0, hx615_1, hx615_2⟩ := at_T91 HR0.out x3_1 p615 q615
       obtain rfl : ad614 = ad615 := (by injection e615)
       replace p615 := eq_true p615
       replace q615 := eq_true q615
       have p616 : 0 ≤ (x3_1 : Int) := Ze
       have q616 : x3_1 < (l0.length : Int) := Ze
       obtain ⟨ad616, e616, hx616_0, hx616_1, hx616_2⟩ := at_T91 HR0.out x3_1 p616 q616
       obtain rfl : ad614 = ad616 := (by injection e616)
       replace p616 := eq_true p616
       replace q616 := eq_true q616
       go_wp2
       repeat (go_quiet (fail); try go_wp2)
       go_meet
       case rel => exact ⟨_, (T), (Zs), H', ⟨by have := HK1.out; first | omega | exact Nat.le_refl _⟩, Zd⟩
      rw [if_neg c8] at H
      have c8b0 : decide (((rd_T91 l0 x3_1).f1) < 0) = F := decide_eq_false c8
      clear c8
      by_cases c9 : ((rd_T91 l0 x3_1).f1) > 73048
      ·rw [if_pos c9] at H
       have c9b0 : decide (73048 < ((rd_T91 l0 x3_1).f1)) = T := decide_eq_true c9
       clear c9
       have H' := Aside0.mk H
       clear H
       have p614 : 0 ≤ (x3_1 : Int) := Ze
       have q614 : x3_1 < (l0.length : Int) := Ze
       obtain ⟨ad614, e614, hx614_0, hx614_1, hx614_2⟩ := at_T91 HR0.out x3_1 p614 q614
       cases e614
       replace p614 := eq_true p614
       replace q614 := eq_true q614
       have p615 : 0 ≤ (x3_1 : Int) := Ze
       have q615 : x3_1 < (l0.length : Int) := Ze
       obtain ⟨ad615, e615, hx615_0, hx615_1, hx615_2⟩ := at_T91 HR0.out x3_1 p615 q615
       obtain rfl : ad614 = ad615 := (by injection e615)
       replace p615 := eq_true p615
       replace q615 := eq_true q615
       have p616 : 0 ≤ (x3_1 : Int) := Ze
       have q616 : x3_1 < (l0.length : Int) := Ze
       obtain ⟨ad616, e616, hx616_0, hx616_1, hx616_2⟩ := at_T91 HR0.out x3_1 p616 q616
       obtain rfl : ad614 = ad616 := (by injection e616)
       replace p616 := eq_true p616
       replace q616 := eq_true q616
       have p617 : 0 ≤ (x3_1 : Int) := Ze
       have q617 : x3_1 < (l0.length : Int) := Ze
       obtain ⟨ad617, e617, hx617_0, hx617_1, hx617_2⟩ := at_T91 HR0.out x3_1 p617 q617
       obtain rfl : ad614 = ad617 := (by injection e617)
       replace p617 := eq_true p617
       replace q617 := eq_true q617
       go_wp2
       repeat (go_quiet (fail); try go_wp2)
       go_meet
       case rel => exact ⟨_, (T), (Zs), H', ⟨by have := HK1.out; first | omega | exact Nat.le_refl _⟩, Zd⟩
      rw [if_neg c9] at H
      have c9b0 : decide (73048 < ((rd_T91 l0 x3_1).f1)) = F := decide_eq_false c9
      clear c9
      have H' := Aside0.mk H
      clear H
      have p614 : 0 ≤ (x3_1 : Int) := Ze
      have q614 : x3_1 < (l0.length : Int) := Ze
      obtain ⟨ad614, e614, hx614_0, hx614_1, hx614_2⟩ := at_T91 HR0.out x3_1 p614 q614
      cases e614
      replace p614 := eq_true p614
      replace q614 := eq_true q614
      have p615 : 0 ≤ (x3_1 : Int) := Ze
      have q615 : x3_1 < (l0.length : Int) := Ze
      obtain ⟨ad615, e615, hx615_0, hx615_1, hx615_2⟩ := at_T91 HR0.out x3_1 p615 q615
      obtain rfl : ad614 = ad615 := (by injection e615)
      replace p615 := eq_true p615
      replace q615 := eq_true q615
      have p616 : 0 ≤ (x3_1 : Int) := Ze
      have q616 : x3_1 < (l0.length : Int) := Ze
      obtain ⟨ad616, e616, hx616_0, hx616_1, hx616_2⟩ := at_T91 HR0.out x3_1 p616 q616
      obtain rfl : ad614 = ad616 := (by injection e616)
      replace p616 := eq_true p616
      replace q616 := eq_true q616
      have p617 : 0 ≤ (x3_1 : Int) := Ze
      have q617 : x3_1 < (l0.length : Int) := Ze
      obtain ⟨ad617, e617, hx617_0, hx617_1, hx617_2⟩ := at_T91 HR0.out x3_1 p617 q617
      obtain rfl : ad614 = ad617 := (by injection e617)
      replace p617 := eq_true p617
      replace q617 := eq_true q617
      have p618 : 0 ≤ (x3_1 : Int) := Ze
      have q618 : x3_1 < (l0.length : Int) := Ze
      obtain ⟨ad618, e618, hx618_0, hx618_1, hx618_2⟩ := at_T91 HR0.out x3_1 p618 q618
      obtain rfl : ad614 = ad618 := (by injection e618)
      replace p618 := eq_true p618
      replace q618 := eq_true q618
      have p619 : 0 ≤ (x3_1 : Int) := Ze
      have q619 : x3_1 < (l0.length : Int) := Ze
      obtain ⟨ad619, e619, hx619_0, hx619_1, hx619_2⟩ := at_T91 HR0.out x3_1 p619 q619
      obtain rfl : ad614 = ad619 := (by injection e619)
      replace p619 := eq_true p619
      replace q619 := eq_true q619
      go_wp2
      repeat (go_quiet (fail); try go_wp2)
      go_meet
      case rel => exact ⟨_, ((((rd_T91 l0 x3_1).f0) == ((rd_T91 l0 x3_1).f1))), (Zs), H', ⟨by have := HK1.out; first | omega | exact Nat.le_refl _⟩, Zd⟩
     rw [if_neg c5] at H
     exact absurd H (by simp)
    case rest =>
     clear HC4
     try clear c2
     try clear c2b0
     try clear c2b1
     try clear p2
     try clear c3
     try clear c3b0
     try clear c5
     try clear c5b0
     try clear c6
     try clear c6b0
     try clear p6
     try clear q6
     try clear hx6
     try clear c7
     try clear c7b0
     try clear c8
     try clear c8b0
     try clear c9
     try clear c9b0
     try clear hx614_0
     try clear hx614_1
     try clear hx614_2
     try clear hx615_0
     try clear hx615_1
     try clear hx615_2
     try clear hx616_0
     try clear hx616_1
     try clear hx616_2
     try clear hx617_0
     try clear hx617_1
     try clear hx617_2
     try clear hx618_0
     try clear hx618_1
     try clear hx618_2
     try clear hx619_0
     try clear hx619_1
     try clear hx619_2
     try clear p2
     try clear p614
     try clear p615
     try clear p616
     try clear p617
     try clear p618
     try clear p619
     try clear q614
     try clear q615
     try clear q616
     try clear q617
     try clear q618
     try clear q619
     obtain ⟨kq, x55_3, rfl, HA, HJ3, ⟨mc3, rfl⟩⟩ := hcut
     cases kq with
     | zero => exact absurd HA.out (by simp [Qal.j1])
     | succ kj3 =>
      have H := HA.out
      clear HA
      simp only [Qal.j1] at H
      by_cases c10 : x55_3 = T
      ·subst c10
       have H1 : (some 15) = some r := by rw [if_pos rfl] at H; exact H
       clear H
       have H := H1
       clear H1
       obtain rfl := Option.some.inj H
       go_wp2
       repeat (go_quiet (fail); try go_wp2)
       go_ret
       exact ⟨Zs, Zd⟩
      replace c10 := Bool.eq_false_iff.mpr c10
      subst c10
      have H1 : (if 0 ≤ x3_1 then (if x3_1 < (l0.length : Int) then (if ((rd_T91 l0 x3_1).f2) < 0 then (some 2) else (if ((rd_T91 l0 x3_1).f2) > 68719476736 then (some 2) else (Qal.l0 kj3 l0 (wrap64 (x3_1 + 1))))) else (none)) else (none)) = some r := by rw [if_neg (show ¬ (F = T) by decide)] at H; exact H
      clear H
      have H := H1
      clear H1
      by_cases c11 : 0 ≤ x3_1
      ·rw [if_pos c11] at H
       have c11b0 : decide (0 ≤ x3_1) = T := decide_eq_true c11
       clear c11
       by_cases c12 : x3_1 < (l0.length : Int)
       ·rw [if_pos c12] at H
        have c12b0 : decide (x3_1 < (l0.length : Int)) = T := decide_eq_true c12
        clear c12
        by_cases c13 : ((rd_T91 l0 x3_1).f2) < 0
        ·rw [if_pos c13] at H
         have c13b0 : decide (((rd_T91 l0 x3_1).f2) < 0) = T := decide_eq_true c13
         clear c13
         obtain rfl := Option.some.inj H
         have p620 : 0 ≤ (x3_1 : Int) := Ze
         have q620 : x3_1 < (l0.length : Int) := Ze
         obtain ⟨ad620, e620, hx620_0, hx620_1, hx620_2⟩ := at_T91 HR0.out x3_1 p620 q620
         cases e620
         replace p620 := eq_true p620
         replace q620 := eq_true q620
         go_wp2
         repeat (go_quiet (fail); try go_wp2)
         go_ret
         exact ⟨Zs, Zd⟩
        rw [if_neg c13] at H
        have c13b0 : decide (((rd_T91 l0 x3_1).f2) < 0) = F := decide_eq_false c13
        clear c13
        have p620 : 0 ≤ (x3_1 : Int) := Ze
        have q620 : x3_1 < (l0.length : Int) := Ze
        obtain ⟨ad620, e620, hx620_0, hx620_1, hx620_2⟩ := at_T91 HR0.out x3_1 p620 q620
        cases e620
        replace p620 := eq_true p620
        replace q620 := eq_true q620
        have p621 : 0 ≤ (x3_1 : Int) := Ze
        have q621 : x3_1 < (l0.length : Int) := Ze
        obtain ⟨ad621, e621, hx621_0, hx621_1, hx621_2⟩ := at_T91 HR0.out x3_1 p621 q621
        obtain rfl : ad620 = ad621 := (by injection e621)
        replace p621 := eq_true p621
        replace q621 := eq_true q621
        go_upto_if 69 with (fail)
        repeat (go_quiet (fail); go_upto_if 69 with (fail))
        by_cases c14 : ((rd_T91 l0 x3_1).f2) > 68719476736
        ·rw [if_pos c14] at H
         have c14b0 : decide (68719476736 < ((rd_T91 l0 x3_1).f2)) = T := decide_eq_true c14
         clear c14
         (try simp only [c14b0])
         obtain rfl := Option.some.inj H
         go_wp2
         repeat (go_quiet (fail); try go_wp2)
         go_ret
         exact ⟨Zs, Zd⟩
        rw [if_neg c14] at H
        have c14b0 : decide (68719476736 < ((rd_T91 l0 x3_1).f2)) = F := decide_eq_false c14
        clear c14
        (try simp only [c14b0])
        have H' := Aside0.mk H
        clear H
        go_wp2
        repeat (go_quiet (fail); try go_wp2)
        go_roundg kj3
        case measure => have := HK1.out; have := HJ3.out; omega
        case rel => exact ⟨(wrap64 (x3_1 + 1)), (Zs), H', ⟨by have := HK1.out; have := HJ3.out; omega⟩, Zd⟩
       rw [if_neg c12] at H
       exact absurd H (by simp)
      rw [if_neg c11] at H
      exact absurd H (by simp)
   rw [if_neg c3] at H
   have c3b0 : decide (x3_1 < (l0.length : Int)) = F := decide_eq_false c3
   clear c3
   (try simp only [c3b0])
   obtain rfl := Option.some.inj H
   go_wp2
   repeat (go_quiet (fail); try go_wp2)
   go_ret
   exact ⟨Zs, Zd⟩
def QaS.f (a0 : Int) : Option (Bool) := if a0 ≥ (-1099511627776) then (some (decide (a0 ≤ 1099511627776))) else (some F)
set_option maxHeartbeats 8000000 in
theorem QaS.calls (a0 : Int) (r : Bool) (w : World) (h : QaS.f a0 = some r) :
  Calls Try.prog 64 #[.int .i64 a0] w fun e w' => e = .returned (.bool r) ∧ Drawn0 w w' := by
 have H : (if a0 ≥ (-1099511627776) then (some (decide (a0 ≤ 1099511627776))) else (some F)) = some r := h
 clear h
 by_cases c2 : a0 ≥ (-1099511627776)
 ·rw [if_pos c2] at H
  have c2b0 : decide ((-1099511627776) ≤ a0) = T := decide_eq_true c2
  clear c2
  obtain rfl := Option.some.inj H
  go_enter Try.func64, Try.ntmps64
  go_wp2
  go_ret
  exact ⟨Zs, Zd⟩
 rw [if_neg c2] at H
 have c2b0 : decide ((-1099511627776) ≤ a0) = F := decide_eq_false c2
 clear c2
 obtain rfl := Option.some.inj H
 go_enter Try.func64, Try.ntmps64
 go_wp2
 go_ret
 exact ⟨Zs, Zd⟩
def Qas.l0 : Nat → List Int → Int → Int → Option (Int)
 | 0, _, _, _ => none
 | k + 1, x0, x1, x5 => if x5 < (x0.length : Int) then (if 0 ≤ x5 then (if (rd x0 x5) = x1 then (some x5) else (Qas.l0 k x0 x1 (wrap64 (x5 + 1)))) else (none)) else (some (-1))
def Qas.f (k : Nat) (l0 : List Int) (a1 : Int) : Option (Int) := Qas.l0 k l0 a1 0
theorem Qas.mono_l : ∀ k, (∀ y0 y1 y2, LeO (Qas.l0 k y0 y1 y2) (Qas.l0 (k + 1) y0 y1 y2))
 | 0 => fun _ _ _ r h => by simp [Qas.l0] at h
 | k + 1 => by
  have ih0 := Qas.mono_l k
  intro y0 y1 y2
  unfold Qas.l0
  exact ZM1 ih0
theorem Qas.mono : ∀ a0 a1 k, LeO (Qas.f k a0 a1) (Qas.f (k + 1) a0 a1) := by
 intro a0 a1 k
 have ih0 := Qas.mono_l k
 unfold Qas.f
 exact ZM1 ih0
set_option maxHeartbeats 8000000 in
theorem Qas.calls (k : Nat) (A0 : Option Addr) (c0 : Nat) (l0 : List Int) (a1 : Int) (r : Int) (w : World) (hr0 : Kd.C (Kd.int .i64) w A0 l0.length l0) (hc0 : l0.length ≤ c0) (h : Qas.f k l0 a1 = some r) :
  Calls Try.prog 65 #[.slice A0 l0.length c0, .int .i64 a1] w fun e w' => e = .returned (.int .i64 r) ∧ Drawn0 w w' := by
 have HR0 := Aside0.mk hr0
 have HC0 := Aside0.mk hc0
 clear hr0 hc0
 have H : (Qas.l0 k l0 a1 0) = some r := h
 clear h
 have H' := Aside0.mk H
 clear H
 go_enter Try.func65, Try.ntmps65
 go_wp2
 go_loopg [5] k (fun kq v5 w' => ∃ (x5_1 : Int), v5 = .int .i64 x5_1 ∧ Aside0 (Qas.l0 kq l0 a1 x5_1 = some r) ∧ Aside0 (kq ≤ k) ∧ Drawn0 w w')
 case atStart => exact ⟨(0), (Zs), H', ⟨Nat.le_refl _⟩, Zd⟩
 case round =>
  clear H'
  try clear p2
  obtain ⟨x5_1, rfl, HA, HK1, ⟨m1, rfl⟩⟩ := hrel
  cases gk with
  | zero => exact absurd HA.out (by simp [Qas.l0])
  | succ k1 =>
   have H := HA.out
   clear HA
   simp only [Qas.l0] at H
   by_cases c3 : x5_1 < (l0.length : Int)
   ·rw [if_pos c3] at H
    have c3b0 : decide (x5_1 < (l0.length : Int)) = T := decide_eq_true c3
    clear c3
    (try simp only [c3b0])
    by_cases c4 : 0 ≤ x5_1
    ·rw [if_pos c4] at H
     have c4b0 : decide (0 ≤ x5_1) = T := decide_eq_true c4
     clear c4
     have p622 : 0 ≤ (x5_1 : Int) := Ze
     have q622 : x5_1 < (l0.length : Int) := Ze
     obtain ⟨ad622, e622, hx622_0⟩ := Kd.at_int HR0.out x5_1 p622 q622
     cases e622
     replace p622 := eq_true p622
     replace q622 := eq_true q622
     go_upto_if 17 with (fail)
     by_cases c5 : (rd l0 x5_1) = a1
     ·rw [if_pos c5] at H
      have c5b0 : ((rd l0 x5_1) == a1) = T := beq_iff_eq.mpr c5
      have c5b1 : ((rd l0 x5_1) != a1) = F := bne_eq_false_iff_eq.mpr c5
      clear c5
      (try simp only [c5b0, c5b1])
      obtain rfl := Option.some.inj H
      go_wp2
      go_ret
      exact ⟨Zs, Zd⟩
     rw [if_neg c5] at H
     have c5b0 : ((rd l0 x5_1) == a1) = F := beq_eq_false_iff_ne.mpr c5
     have c5b1 : ((rd l0 x5_1) != a1) = T := bne_iff_ne.mpr c5
     (try simp only [c5b0, c5b1])
     have H' := Aside0.mk H
     clear H
     go_wp2
     go_roundg k1
     case measure => have := HK1.out; omega
     case rel => exact ⟨(wrap64 (x5_1 + 1)), (Zs), H', ⟨by have := HK1.out; omega⟩, Zd⟩
    rw [if_neg c4] at H
    exact absurd H (by simp)
   rw [if_neg c3] at H
   have c3b0 : decide (x5_1 < (l0.length : Int)) = F := decide_eq_false c3
   clear c3
   (try simp only [c3b0])
   obtain rfl := Option.some.inj H
   go_wp2
   go_ret
   exact ⟨Zs, Zd⟩
mutual
def Qam.j0 : Nat → Int → Int → Option (Int)
 | 0, _, _ => none
 | k + 1, x0, x1 => if x0 ≤ 0 then (Qam.j1 k x0 x1 T) else (Qam.j1 k x0 x1 (decide (x1 ≥ 0)))
def Qam.j1 : Nat → Int → Int → Bool → Option (Int)
 | 0, _, _, _ => none
 | k + 1, x0, x1, x14 => if x14 = T then (some 0) else (if x0 > (wrap64 (-x1)) then (some (wrap64 (Int.tdiv (wrap64 (-x1)) 1000))) else (some (wrap64 (Int.tdiv x0 1000))))
end
def Qam.f (k : Nat) (a0 : Int) (a1 : Int) : Option (Int) := if a0 < 0 then (Qam.j0 k a1 a0) else (Qam.j0 k a0 a1)
theorem Qam.mono_l : ∀ k, (∀ y0 y1, LeO (Qam.j0 k y0 y1) (Qam.j0 (k + 1) y0 y1)) ∧ (∀ y0 y1 y2, LeO (Qam.j1 k y0 y1 y2) (Qam.j1 (k + 1) y0 y1 y2))
 | 0 => ⟨fun _ _ r h => by simp [Qam.j0] at h, fun _ _ _ r h => by simp [Qam.j1] at h⟩
 | k + 1 => by
  obtain ⟨ih0, ih1⟩ := Qam.mono_l k
  refine ⟨?_, ?_⟩
  ·intro y0 y1
   unfold Qam.j0
   exact ZM2 ih0 ih1
  intro y0 y1 y2
  unfold Qam.j1
  exact ZM2 ih0 ih1
theorem Qam.mono : ∀ a0 a1 k, LeO (Qam.f k a0 a1) (Qam.f (k + 1) a0 a1) := by
 intro a0 a1 k
 obtain ⟨ih0, ih1⟩ := Qam.mono_l k
 unfold Qam.f
 exact ZM2 ih0 ih1
set_option maxHeartbeats 8000000 in
theorem Qam.calls (k : Nat) (a0 : Int) (a1 : Int) (r : Int) (w : World) (h : Qam.f k a0 a1 = some r) :
  Calls Try.prog 66 #[.int .i64 a0, .int .i64 a1] w fun e w' => e = .returned (.int .i64 r) ∧ Drawn0 w w' := by
 have H : (if a0 < 0 then (Qam.j0 k a1 a0) else (Qam.j0 k a0 a1)) = some r := h
 clear h
 have HC3 := Aside0.mk H
 clear H
 go_enter Try.func66, Try.ntmps66
 go_upto_if 6 with (fail)
 go_cut [0, 1] (fun v0 v1 wc => ∃ (kq : Nat) (x0_2 : Int) (x1_2 : Int), v0 = .int .i64 x0_2 ∧ v1 = .int .i64 x1_2 ∧ Aside0 (Qam.j0 kq x0_2 x1_2 = some r) ∧ Aside0 (kq ≤ k) ∧ Drawn0 w wc)
 case first =>
  have H := HC3.out
  clear HC3
  by_cases c4 : a0 < 0
  ·rw [if_pos c4] at H
   have c4b0 : decide (a0 < 0) = T := decide_eq_true c4
   clear c4
   (try simp only [c4b0])
   have H' := Aside0.mk H
   clear H
   go_wp2
   go_meet
   case rel => exact ⟨_, (a1), (a0), (Zs), (Zs), H', ⟨by first | omega | exact Nat.le_refl _⟩, Zd⟩
  rw [if_neg c4] at H
  have c4b0 : decide (a0 < 0) = F := decide_eq_false c4
  clear c4
  (try simp only [c4b0])
  have H' := Aside0.mk H
  clear H
  go_wp2
  go_meet
  case rel => exact ⟨_, (a0), (a1), (Zs), (Zs), H', ⟨by first | omega | exact Nat.le_refl _⟩, Zd⟩
 case rest =>
  clear HC3
  try clear p2
  try clear c4
  try clear c4b0
  obtain ⟨kq, x0_2, x1_2, rfl, rfl, HA, HJ2, ⟨mc2, rfl⟩⟩ := hcut
  cases kq with
  | zero => exact absurd HA.out (by simp [Qam.j0])
  | succ kj2 =>
   have H := HA.out
   clear HA
   simp only [Qam.j0] at H
   have HC5 := Aside0.mk H
   clear H
   go_upto_region 3 with (fail)
   go_cut [14] (fun v14 wc => ∃ (kq : Nat) (x14_4 : Bool), v14 = .bool x14_4 ∧ Aside0 (Qam.j1 kq x0_2 x1_2 x14_4 = some r) ∧ Aside0 (kq ≤ kj2) ∧ Drawn0 w wc)
   case first =>
    have H := HC5.out
    clear HC5
    by_cases c6 : x0_2 ≤ 0
    ·rw [if_pos c6] at H
     have c6b0 : decide (x0_2 ≤ 0) = T := decide_eq_true c6
     clear c6
     have H' := Aside0.mk H
     clear H
     go_wp2
     go_meet
     case rel => exact ⟨_, (T), (Zs), H', ⟨by have := HJ2.out; first | omega | exact Nat.le_refl _⟩, Zd⟩
    rw [if_neg c6] at H
    have c6b0 : decide (x0_2 ≤ 0) = F := decide_eq_false c6
    clear c6
    have H' := Aside0.mk H
    clear H
    go_wp2
    go_meet
    case rel => exact ⟨_, (decide (x1_2 ≥ 0)), (Zs), H', ⟨by have := HJ2.out; first | omega | exact Nat.le_refl _⟩, Zd⟩
   case rest =>
    clear HC5
    try clear c2
    try clear p2
    try clear c4
    try clear c4b0
    try clear c6
    try clear c6b0
    try clear p2
    obtain ⟨kq, x14_4, rfl, HA, HJ4, ⟨mc4, rfl⟩⟩ := hcut
    cases kq with
    | zero => exact absurd HA.out (by simp [Qam.j1])
    | succ kj4 =>
     have H := HA.out
     clear HA
     simp only [Qam.j1] at H
     by_cases c7 : x14_4 = T
     ·subst c7
      have H1 : (some 0) = some r := by rw [if_pos rfl] at H; exact H
      clear H
      have H := H1
      clear H1
      obtain rfl := Option.some.inj H
      go_wp2
      go_ret
      exact ⟨Zs, Zd⟩
     replace c7 := Bool.eq_false_iff.mpr c7
     subst c7
     have H1 : (if x0_2 > (wrap64 (-x1_2)) then (some (wrap64 (Int.tdiv (wrap64 (-x1_2)) 1000))) else (some (wrap64 (Int.tdiv x0_2 1000)))) = some r := by rw [if_neg (show ¬ (F = T) by decide)] at H; exact H
     clear H
     have H := H1
     clear H1
     by_cases c8 : x0_2 > (wrap64 (-x1_2))
     ·rw [if_pos c8] at H
      have c8b0 : decide ((wrap64 (-x1_2)) < x0_2) = T := decide_eq_true c8
      clear c8
      (try simp only [c8b0])
      obtain rfl := Option.some.inj H
      go_wp2
      go_ret
      exact ⟨Zs, Zd⟩
     rw [if_neg c8] at H
     have c8b0 : decide ((wrap64 (-x1_2)) < x0_2) = F := decide_eq_false c8
     clear c8
     (try simp only [c8b0])
     obtain rfl := Option.some.inj H
     go_wp2
     go_ret
     exact ⟨Zs, Zd⟩
def QaL.f (a0 : Int) (a1 : Int) : Option (Int) := if a0 < 0 then (some (wrap64 (a0 + (wrap64 (1000 * a1))))) else (some (wrap64 (a0 - (wrap64 (1000 * a1)))))
set_option maxHeartbeats 8000000 in
theorem QaL.calls (a0 : Int) (a1 : Int) (r : Int) (w : World) (h : QaL.f a0 a1 = some r) :
  Calls Try.prog 67 #[.int .i64 a0, .int .i64 a1] w fun e w' => e = .returned (.int .i64 r) ∧ Drawn0 w w' := by
 have H : (if a0 < 0 then (some (wrap64 (a0 + (wrap64 (1000 * a1))))) else (some (wrap64 (a0 - (wrap64 (1000 * a1)))))) = some r := h
 clear h
 by_cases c3 : a0 < 0
 ·rw [if_pos c3] at H
  have c3b0 : decide (a0 < 0) = T := decide_eq_true c3
  clear c3
  obtain rfl := Option.some.inj H
  go_enter Try.func67, Try.ntmps67
  go_wp2
  go_ret
  exact ⟨Zs, Zd⟩
 rw [if_neg c3] at H
 have c3b0 : decide (a0 < 0) = F := decide_eq_false c3
 clear c3
 obtain rfl := Option.some.inj H
 go_enter Try.func67, Try.ntmps67
 go_wp2
 go_ret
 exact ⟨Zs, Zd⟩
def QaI.f (a0 : Int) : Option (Bool) := if a0 ≥ (-1152921504606846976) then (some (decide (a0 ≤ 1152921504606846976))) else (some F)
set_option maxHeartbeats 8000000 in
theorem QaI.calls (a0 : Int) (r : Bool) (w : World) (h : QaI.f a0 = some r) :
  Calls Try.prog 93 #[.int .i64 a0] w fun e w' => e = .returned (.bool r) ∧ Drawn0 w w' := by
 have H : (if a0 ≥ (-1152921504606846976) then (some (decide (a0 ≤ 1152921504606846976))) else (some F)) = some r := h
 clear h
 by_cases c2 : a0 ≥ (-1152921504606846976)
 ·rw [if_pos c2] at H
  have c2b0 : decide ((-1152921504606846976) ≤ a0) = T := decide_eq_true c2
  clear c2
  obtain rfl := Option.some.inj H
  go_enter Try.func93, Try.ntmps93
  go_wp2
  go_ret
  exact ⟨Zs, Zd⟩
 rw [if_neg c2] at H
 have c2b0 : decide ((-1152921504606846976) ≤ a0) = F := decide_eq_false c2
 clear c2
 obtain rfl := Option.some.inj H
 go_enter Try.func93, Try.ntmps93
 go_wp2
 go_ret
 exact ⟨Zs, Zd⟩
def QaT.f (a0 : Int) : Option (Int) := if a0 < 0 then (some (wrap64 (-a0))) else (some a0)
set_option maxHeartbeats 8000000 in
theorem QaT.calls (a0 : Int) (r : Int) (w : World) (h : QaT.f a0 = some r) :
  Calls Try.prog 94 #[.int .i64 a0] w fun e w' => e = .returned (.int .i64 r) ∧ Drawn0 w w' := by
 have H : (if a0 < 0 then (some (wrap64 (-a0))) else (some a0)) = some r := h
 clear h
 by_cases c2 : a0 < 0
 ·rw [if_pos c2] at H
  have c2b0 : decide (a0 < 0) = T := decide_eq_true c2
  clear c2
  obtain rfl := Option.some.inj H
  go_enter Try.func94, Try.ntmps94
  go_wp2
  go_ret
  exact ⟨Zs, Zd⟩
 rw [if_neg c2] at H
 have c2b0 : decide (a0 < 0) = F := decide_eq_false c2
 clear c2
 obtain rfl := Option.some.inj H
 go_enter Try.func94, Try.ntmps94
 go_wp2
 go_ret
 exact ⟨Zs, Zd⟩
def Qao.j0 : Nat → Int → Int → Bool → Option (Int × Int)
 | 0, _, _, _ => none
 | k + 1, x0, x1, x13 => if x13 = T then (some (0, 2)) else (if x0 = 0 then (some (wrap64 (x0 * x1), 0)) else ((QaT.f x1).bind fun t656 => ((QaT.f x0).bind fun t657 => (if t657 = 0 then (none) else (if t656 > (wrap64 (Int.tdiv (1152921504606846976 : Int) t657)) then (some (0, 3)) else (some (wrap64 (x0 * x1), 0)))))))
def Qao.f (k : Nat) (a0 : Int) (a1 : Int) : Option (Int × Int) := (QaI.f a0).bind fun t654 => (if t654 = T then ((QaI.f a1).bind fun t655 => (Qao.j0 k a0 a1 (!t655))) else (Qao.j0 k a0 a1 T))
theorem Qao.mono_l : ∀ k, (∀ y0 y1 y2, LeO (Qao.j0 k y0 y1 y2) (Qao.j0 (k + 1) y0 y1 y2))
 | 0 => fun _ _ _ r h => by simp [Qao.j0] at h
 | k + 1 => by
  have ih0 := Qao.mono_l k
  intro y0 y1 y2
  unfold Qao.j0
  exact ZM1 ih0
theorem Qao.mono : ∀ a0 a1 k, LeO (Qao.f k a0 a1) (Qao.f (k + 1) a0 a1) := by
 intro a0 a1 k
 have ih0 := Qao.mono_l k
 unfold Qao.f
 exact ZM1 ih0
set_option maxHeartbeats 8000000 in
theorem Qao.calls (k : Nat) (a0 : Int) (a1 : Int) (r1 : Int) (r2 : Int) (w : World) (h : Qao.f k a0 a1 = some (r1, r2)) :
  Calls Try.prog 70 #[.int .i64 a0, .int .i64 a1] w fun e w' => e = .returned (.tuple #[.int .i64 r1, .int .i64 r2]) ∧ Drawn0 w w' := by
 have H : ((QaI.f a0).bind fun t654 => (if t654 = T then ((QaI.f a1).bind fun t655 => (Qao.j0 k a0 a1 (!t655))) else (Qao.j0 k a0 a1 T))) = some (r1, r2) := h
 clear h
 have HC3 := Aside0.mk H
 clear H
 go_enter Try.func70, Try.ntmps70
 go_upto_region 1 with (fail)
 go_cut [13] (fun v13 wc => ∃ (kq : Nat) (x13_2 : Bool), v13 = .bool x13_2 ∧ Aside0 (Qao.j0 kq a0 a1 x13_2 = some (r1, r2)) ∧ Aside0 (kq ≤ k) ∧ Drawn0 w wc)
 case first =>
  have H := HC3.out
  clear HC3
  replace H := Option.bind_eq_some_iff.mp H
  obtain ⟨t654, A40, H⟩ := H
  replace H : (if t654 = T then ((QaI.f a1).bind fun t655 => (Qao.j0 k a0 a1 (!t655))) else (Qao.j0 k a0 a1 T)) = some (r1, r2) := H
  have A4 := Aside0.mk A40
  clear A40
  by_cases c5 : t654 = T
  ·subst c5
   have H1 : ((QaI.f a1).bind fun t655 => (Qao.j0 k a0 a1 (!t655))) = some (r1, r2) := by rw [if_pos rfl] at H; exact H
   clear H
   have H := H1
   clear H1
   replace H := Option.bind_eq_some_iff.mp H
   obtain ⟨t655, A60, H⟩ := H
   replace H : (Qao.j0 k a0 a1 (!t655)) = some (r1, r2) := H
   have A6 := Aside0.mk A60
   clear A60
   have H' := Aside0.mk H
   clear H
   go_wp2_with (first | ((with_reducible refine Qat (f := 93) rfl ?_); refine goesL_ (some 7) rfl rfl Try.func93 (by kernel_rfl) rfl #[.int .i64 a0] rfl (Zl) ?_; (with_reducible refine (QaI.calls a0 T _ A4.out).mono ?_); rintro e w' ⟨rfl, ⟨nd, rfl⟩⟩; refine ⟨_, rfl, ?_⟩) | (go_at_call 93; (with_reducible refine (QaI.calls a1 t655 _ A6.out).mono ?_); rintro e w' ⟨rfl, ⟨nd, rfl⟩⟩))
   go_meet
   case rel => exact ⟨_, (!t655), (Zs), H', ⟨by first | omega | exact Nat.le_refl _⟩, Zd⟩
  replace c5 := Bool.eq_false_iff.mpr c5
  subst c5
  have H1 : (Qao.j0 k a0 a1 T) = some (r1, r2) := by rw [if_neg (show ¬ (F = T) by decide)] at H; exact H
  clear H
  have H := H1
  clear H1
  have H' := Aside0.mk H
  clear H
  go_wp2_with (first | ((with_reducible refine Qat (f := 93) rfl ?_); refine goesL_ (some 7) rfl rfl Try.func93 (by kernel_rfl) rfl #[.int .i64 a0] rfl (Zl) ?_; (with_reducible refine (QaI.calls a0 F _ A4.out).mono ?_); rintro e w' ⟨rfl, ⟨nd, rfl⟩⟩; refine ⟨_, rfl, ?_⟩))
  go_meet
  case rel => exact ⟨_, (T), (Zs), H', ⟨by first | omega | exact Nat.le_refl _⟩, Zd⟩
 case rest =>
  clear HC3
  try clear p2
  try clear c5
  obtain ⟨kq, x13_2, rfl, HA, HJ2, ⟨mc2, rfl⟩⟩ := hcut
  cases kq with
  | zero => exact absurd HA.out (by simp [Qao.j0])
  | succ kj2 =>
   have H := HA.out
   clear HA
   simp only [Qao.j0] at H
   by_cases c7 : x13_2 = T
   ·subst c7
    have H1 : (some (0, 2)) = some (r1, r2) := by rw [if_pos rfl] at H; exact H
    clear H
    have H := H1
    clear H1
    simp only [Option.some.injEq, Prod.mk.injEq] at H
    obtain ⟨rfl, rfl⟩ := H
    go_wp2
    go_ret2
    exact ⟨Zs, Zd⟩
   replace c7 := Bool.eq_false_iff.mpr c7
   subst c7
   have H1 : (if a0 = 0 then (some (wrap64 (a0 * a1), 0)) else ((QaT.f a1).bind fun t656 => ((QaT.f a0).bind fun t657 => (if t657 = 0 then (none) else (if t656 > (wrap64 (Int.tdiv (1152921504606846976 : Int) t657)) then (some (0, 3)) else (some (wrap64 (a0 * a1), 0))))))) = some (r1, r2) := by rw [if_neg (show ¬ (F = T) by decide)] at H; exact H
   clear H
   have H := H1
   clear H1
   by_cases c8 : a0 = 0
   ·rw [if_pos c8] at H
    have c8b0 : (a0 == 0) = T := beq_iff_eq.mpr c8
    have c8b1 : (a0 != 0) = F := bne_eq_false_iff_eq.mpr c8
    clear c8
    simp only [Option.some.injEq, Prod.mk.injEq] at H
    obtain ⟨rfl, rfl⟩ := H
    go_wp2
    go_ret2
    exact ⟨Zs, Zd⟩
   rw [if_neg c8] at H
   have c8b0 : (a0 == 0) = F := beq_eq_false_iff_ne.mpr c8
   have c8b1 : (a0 != 0) = T := bne_iff_ne.mpr c8
   replace H := Option.bind_eq_some_iff.mp H
   obtain ⟨t656, A90, H⟩ := H
   replace H : ((QaT.f a0).bind fun t657 => (if t657 = 0 then (none) else (if t656 > (wrap64 (Int.tdiv (1152921504606846976 : Int) t657)) then (some (0, 3)) else (some (wrap64 (a0 * a1), 0))))) = some (r1, r2) := H
   have A9 := Aside0.mk A90
   clear A90
   replace H := Option.bind_eq_some_iff.mp H
   obtain ⟨t657, A100, H⟩ := H
   replace H : (if t657 = 0 then (none) else (if t656 > (wrap64 (Int.tdiv (1152921504606846976 : Int) t657)) then (some (0, 3)) else (some (wrap64 (a0 * a1), 0)))) = some (r1, r2) := H
   have A10 := Aside0.mk A100
   clear A100
   by_cases c11 : t657 = 0
   ·rw [if_pos c11] at H
    exact absurd H (by simp)
   rw [if_neg c11] at H
   have c11b0 : (t657 == 0) = F := beq_eq_false_iff_ne.mpr c11
   have c11b1 : (t657 != 0) = T := bne_iff_ne.mpr c11
   go_upto_if 23 with (first | (go_at_call 94; (with_reducible refine (QaT.calls a1 t656 _ A9.out).mono ?_); rintro e w' ⟨rfl, ⟨nd, rfl⟩⟩) | (go_at_call 94; (with_reducible refine (QaT.calls a0 t657 _ A10.out).mono ?_); rintro e w' ⟨rfl, ⟨nd, rfl⟩⟩))
   (try simp only [Act.put, Zj, Zk, Zm])
   by_cases c12 : t656 > (wrap64 (Int.tdiv (1152921504606846976 : Int) t657))
   ·rw [if_pos c12] at H
    have c12b0 : decide ((wrap64 (Int.tdiv (1152921504606846976 : Int) t657)) < t656) = T := decide_eq_true c12
    clear c12
    (try simp only [c12b0])
    simp only [Option.some.injEq, Prod.mk.injEq] at H
    obtain ⟨rfl, rfl⟩ := H
    go_wp2
    go_ret2
    exact ⟨Zs, Zd⟩
   rw [if_neg c12] at H
   have c12b0 : decide ((wrap64 (Int.tdiv (1152921504606846976 : Int) t657)) < t656) = F := decide_eq_false c12
   clear c12
   (try simp only [c12b0])
   simp only [Option.some.injEq, Prod.mk.injEq] at H
   obtain ⟨rfl, rfl⟩ := H
   go_wp2
   go_ret2
   exact ⟨Zs, Zd⟩
def Qau.l0 : Nat → List Int → Int → Int → Int → Option (Int × Int)
 | 0, _, _, _, _ => none
 | k + 1, x0, x4, x5, x6 => if x6 < (x0.length : Int) then (if 0 ≤ x6 then ((QaI.f (rd x0 x6)).bind fun t659 => (if t659 = T then (Qau.l0 k x0 (wrap64 (x4 + (wrap64 (Int.tdiv (rd x0 x6) 1073741824)))) (wrap64 (x5 + (Int.tmod (rd x0 x6) 1073741824))) (wrap64 (x6 + 1))) else (some (0, 2)))) else (none)) else (if (wrap64 (x4 + (wrap64 (Int.tdiv x5 1073741824)))) < (-1073741825) then (some (0, 3)) else (if (wrap64 (x4 + (wrap64 (Int.tdiv x5 1073741824)))) > 1073741825 then (some (0, 3)) else ((QaI.f (wrap64 ((wrap64 ((wrap64 (x4 + (wrap64 (Int.tdiv x5 1073741824)))) * 1073741824)) + (Int.tmod x5 1073741824)))).bind fun t662 => (if t662 = T then (some (wrap64 ((wrap64 ((wrap64 (x4 + (wrap64 (Int.tdiv x5 1073741824)))) * 1073741824)) + (Int.tmod x5 1073741824)), 0)) else (some (0, 3))))))
def Qau.f (k : Nat) (l0 : List Int) : Option (Int × Int) := Qau.l0 k l0 0 0 0
theorem Qau.mono_l : ∀ k, (∀ y0 y1 y2 y3, LeO (Qau.l0 k y0 y1 y2 y3) (Qau.l0 (k + 1) y0 y1 y2 y3))
 | 0 => fun _ _ _ _ r h => by simp [Qau.l0] at h
 | k + 1 => by
  have ih0 := Qau.mono_l k
  intro y0 y1 y2 y3
  unfold Qau.l0
  exact ZM1 ih0
theorem Qau.mono : ∀ a0 k, LeO (Qau.f k a0) (Qau.f (k + 1) a0) := by
 intro a0 k
 have ih0 := Qau.mono_l k
 unfold Qau.f
 exact ZM1 ih0
set_option maxHeartbeats 8000000 in
theorem Qau.calls (k : Nat) (A0 : Option Addr) (c0 : Nat) (l0 : List Int) (r1 : Int) (r2 : Int) (w : World) (hr0 : Kd.C (Kd.int .i64) w A0 l0.length l0) (hc0 : l0.length ≤ c0) (h : Qau.f k l0 = some (r1, r2)) :
  Calls Try.prog 71 #[.slice A0 l0.length c0] w fun e w' => e = .returned (.tuple #[.int .i64 r1, .int .i64 r2]) ∧ Drawn0 w w' := by
 have HR0 := Aside0.mk hr0
 have HC0 := Aside0.mk hc0
 clear hr0 hc0
 have H : (Qau.l0 k l0 0 0 0) = some (r1, r2) := h
 clear h
 have H' := Aside0.mk H
 clear H
 go_enter Try.func71, Try.ntmps71
 go_wp2
 go_loopg [4, 5, 6] k (fun kq v4 v5 v6 w' => ∃ (x4_1 : Int) (x5_1 : Int) (x6_1 : Int), v4 = .int .i64 x4_1 ∧ v5 = .int .i64 x5_1 ∧ v6 = .int .i64 x6_1 ∧ Aside0 (Qau.l0 kq l0 x4_1 x5_1 x6_1 = some (r1, r2)) ∧ Aside0 (kq ≤ k) ∧ Drawn0 w w')
 case atStart => exact ⟨(0), (0), (0), (Zs), (Zs), (Zs), H', ⟨Nat.le_refl _⟩, Zd⟩
 case round =>
  clear H'
  obtain ⟨x4_1, x5_1, x6_1, rfl, rfl, rfl, HA, HK1, ⟨m1, rfl⟩⟩ := hrel
  cases gk with
  | zero => exact absurd HA.out (by simp [Qau.l0])
  | succ k1 =>
   have H := HA.out
   clear HA
   simp only [Qau.l0] at H
   by_cases c2 : x6_1 < (l0.length : Int)
   ·rw [if_pos c2] at H
    have c2b0 : decide (x6_1 < (l0.length : Int)) = T := decide_eq_true c2
    clear c2
    (try simp only [c2b0])
    by_cases c3 : 0 ≤ x6_1
    ·rw [if_pos c3] at H
     have c3b0 : decide (0 ≤ x6_1) = T := decide_eq_true c3
     clear c3
     replace H := Option.bind_eq_some_iff.mp H
     obtain ⟨t659, A40, H⟩ := H
     replace H : (if t659 = T then (Qau.l0 k1 l0 (wrap64 (x4_1 + (wrap64 (Int.tdiv (rd l0 x6_1) 1073741824)))) (wrap64 (x5_1 + (Int.tmod (rd l0 x6_1) 1073741824))) (wrap64 (x6_1 + 1))) else (some (0, 2))) = some (r1, r2) := H
     have A4 := Aside0.mk A40
     clear A40
     have p658 : 0 ≤ (x6_1 : Int) := Ze
     have q658 : x6_1 < (l0.length : Int) := Ze
     obtain ⟨ad658, e658, hx658_0⟩ := Kd.at_int HR0.out x6_1 p658 q658
     cases e658
     replace p658 := eq_true p658
     replace q658 := eq_true q658
     go_upto_if 18 with (first | ((with_reducible refine Qat (f := 93) rfl ?_); refine goesL_ (some 17) rfl rfl Try.func93 (by kernel_rfl) rfl #[.int .i64 (rd l0 x6_1)] rfl (Zl) ?_; (with_reducible refine (QaI.calls (rd l0 x6_1) t659 _ A4.out).mono ?_); rintro e w' ⟨rfl, ⟨nd, rfl⟩⟩; refine ⟨_, rfl, ?_⟩))
     (try simp only [Act.put, Zj, Zk, Zm])
     by_cases c5 : t659 = T
     ·subst c5
      have H1 : (Qau.l0 k1 l0 (wrap64 (x4_1 + (wrap64 (Int.tdiv (rd l0 x6_1) 1073741824)))) (wrap64 (x5_1 + (Int.tmod (rd l0 x6_1) 1073741824))) (wrap64 (x6_1 + 1))) = some (r1, r2) := by rw [if_pos rfl] at H; exact H
      clear H
      have H := H1
      clear H1
      have H' := Aside0.mk H
      clear H
      have p660 : 0 ≤ (x6_1 : Int) := Ze
      have q660 : x6_1 < (l0.length : Int) := Ze
      obtain ⟨ad660, e660, hx660_0⟩ := Kd.at_int HR0.out x6_1 p660 q660
      obtain rfl : ad658 = ad660 := (by injection e660)
      replace p660 := eq_true p660
      replace q660 := eq_true q660
      have p661 : 0 ≤ (x6_1 : Int) := Ze
      have q661 : x6_1 < (l0.length : Int) := Ze
      obtain ⟨ad661, e661, hx661_0⟩ := Kd.at_int HR0.out x6_1 p661 q661
      obtain rfl : ad658 = ad661 := (by injection e661)
      replace p661 := eq_true p661
      replace q661 := eq_true q661
      go_wp2
      go_roundg k1
      case measure => have := HK1.out; omega
      case rel => exact ⟨(wrap64 (x4_1 + (wrap64 (Int.tdiv (rd l0 x6_1) 1073741824)))), (wrap64 (x5_1 + (Int.tmod (rd l0 x6_1) 1073741824))), (wrap64 (x6_1 + 1)), (Zs), (Zs), (Zs), H', ⟨by have := HK1.out; omega⟩, Zd⟩
     replace c5 := Bool.eq_false_iff.mpr c5
     subst c5
     have H1 : (some (0, 2)) = some (r1, r2) := by rw [if_neg (show ¬ (F = T) by decide)] at H; exact H
     clear H
     have H := H1
     clear H1
     simp only [Option.some.injEq, Prod.mk.injEq] at H
     obtain ⟨rfl, rfl⟩ := H
     go_wp2
     go_ret2
     exact ⟨Zs, Zd⟩
    rw [if_neg c3] at H
    exact absurd H (by simp)
   rw [if_neg c2] at H
   have c2b0 : decide (x6_1 < (l0.length : Int)) = F := decide_eq_false c2
   clear c2
   (try simp only [c2b0])
   by_cases c6 : (wrap64 (x4_1 + (wrap64 (Int.tdiv x5_1 1073741824)))) < (-1073741825)
   ·rw [if_pos c6] at H
    have c6b0 : decide ((wrap64 (x4_1 + (wrap64 (Int.tdiv x5_1 1073741824)))) < (-1073741825)) = T := decide_eq_true c6
    clear c6
    simp only [Option.some.injEq, Prod.mk.injEq] at H
    obtain ⟨rfl, rfl⟩ := H
    go_wp2
    go_ret2
    exact ⟨Zs, Zd⟩
   rw [if_neg c6] at H
   have c6b0 : decide ((wrap64 (x4_1 + (wrap64 (Int.tdiv x5_1 1073741824)))) < (-1073741825)) = F := decide_eq_false c6
   clear c6
   by_cases c7 : (wrap64 (x4_1 + (wrap64 (Int.tdiv x5_1 1073741824)))) > 1073741825
   ·rw [if_pos c7] at H
    have c7b0 : decide (1073741825 < (wrap64 (x4_1 + (wrap64 (Int.tdiv x5_1 1073741824))))) = T := decide_eq_true c7
    clear c7
    simp only [Option.some.injEq, Prod.mk.injEq] at H
    obtain ⟨rfl, rfl⟩ := H
    go_wp2
    go_ret2
    exact ⟨Zs, Zd⟩
   rw [if_neg c7] at H
   have c7b0 : decide (1073741825 < (wrap64 (x4_1 + (wrap64 (Int.tdiv x5_1 1073741824))))) = F := decide_eq_false c7
   clear c7
   replace H := Option.bind_eq_some_iff.mp H
   obtain ⟨t662, A80, H⟩ := H
   replace H : (if t662 = T then (some (wrap64 ((wrap64 ((wrap64 (x4_1 + (wrap64 (Int.tdiv x5_1 1073741824)))) * 1073741824)) + (Int.tmod x5_1 1073741824)), 0)) else (some (0, 3))) = some (r1, r2) := H
   have A8 := Aside0.mk A80
   clear A80
   go_upto_if 52 with (first | (go_at_call 93; (with_reducible refine (QaI.calls (wrap64 ((wrap64 ((wrap64 (x4_1 + (wrap64 (Int.tdiv x5_1 1073741824)))) * 1073741824)) + (Int.tmod x5_1 1073741824))) t662 _ A8.out).mono ?_); rintro e w' ⟨rfl, ⟨nd, rfl⟩⟩))
   (try simp only [Act.put, Zj, Zk, Zm])
   by_cases c9 : t662 = T
   ·subst c9
    have H1 : (some (wrap64 ((wrap64 ((wrap64 (x4_1 + (wrap64 (Int.tdiv x5_1 1073741824)))) * 1073741824)) + (Int.tmod x5_1 1073741824)), 0)) = some (r1, r2) := by rw [if_pos rfl] at H; exact H
    clear H
    have H := H1
    clear H1
    simp only [Option.some.injEq, Prod.mk.injEq] at H
    obtain ⟨rfl, rfl⟩ := H
    go_wp2
    go_ret2
    exact ⟨Zs, Zd⟩
   replace c9 := Bool.eq_false_iff.mpr c9
   subst c9
   have H1 : (some (0, 3)) = some (r1, r2) := by rw [if_neg (show ¬ (F = T) by decide)] at H; exact H
   clear H
   have H := H1
   clear H1
   simp only [Option.some.injEq, Prod.mk.injEq] at H
   obtain ⟨rfl, rfl⟩ := H
   go_wp2
   go_ret2
   exact ⟨Zs, Zd⟩
def mdSgn (q : Int) (b : Bool) : Int × Int := if q > 1152921504606846976 then (0, 3) else if b = T then (wrap64 (-(wrap64 q)), 0) else (wrap64 q, 0)
theorem md_sgn (q : Int) (b : Bool) : Qa4.f q b = some ((mdSgn q b).1, (mdSgn q b).2) := by
 unfold Qa4.f mdSgn
 repeat' split
 all_goals rfl
theorem Qdx (q : Int) (b : Bool) (h : 0 ≤ q) : mdSgn q b = if 1152921504606846976 < q then (0, 3) else (if b = T then -q else q, 0) := by
 unfold mdSgn
 by_cases c : q > 1152921504606846976
 ·rw [if_pos c, if_pos c]
 rw [if_neg c, if_neg c]
 cases b <;> simp [wrap64] <;> omega
theorem Qd3 (a : Int) (h1 : -1152921504606846976 ≤ a) : QaT.f a = some (a.natAbs : Int) := by
 unfold QaT.f wrap64
 split <;> (congr 1; omega)
mutual
def Qag.j0 : Nat → List Int → Int → Bool → Option (Int × Int)
 | 0, _, _, _ => none
 | k + 1, x0, x1, x14 => if x14 = T then (some (0, 2)) else (Qag.l0 k x0 x1 0 0)
def Qag.l0 : Nat → List Int → Int → Int → Int → Option (Int × Int)
 | 0, _, _, _, _ => none
 | k + 1, x0, x1, x6, x7 => if x7 < (x0.length : Int) then (if 0 ≤ x7 then ((QaS.f (rd x0 x7)).bind fun t711 => (if t711 = T then (Qag.l0 k x0 x1 x6 (wrap64 (x7 + 1))) else (some (0, 2)))) else (none)) else (if (x0.length : Int) > 1024 then (some (0, 8)) else (Qag.l1 k x0 x1 x6 0))
def Qag.l1 : Nat → List Int → Int → Int → Int → Option (Int × Int)
 | 0, _, _, _, _ => none
 | k + 1, x0, x1, x6, x8 => if x8 < (x0.length : Int) then (if 0 ≤ x8 then (if (rd x0 x8) < 0 then (Qag.l1 k x0 x1 (wrap64 (x6 + (wrap64 (Int.tdiv (wrap64 (-(rd x0 x8))) 1000)))) (wrap64 (x8 + 1))) else (Qag.l1 k x0 x1 (wrap64 (x6 + (wrap64 (Int.tdiv (rd x0 x8) 1000)))) (wrap64 (x8 + 1)))) else (none)) else ((Qao.f k x6 x1).bind fun bt715 => (some (bt715.1, bt715.2)))
end
def Qag.f (k : Nat) (l0 : List Int) (a1 : Int) : Option (Int × Int) := if a1 < 0 then (Qag.j0 k l0 a1 T) else (Qag.j0 k l0 a1 (decide (a1 > 68719476736)))
theorem Qag.mono_l : ∀ k, (∀ y0 y1 y2, LeO (Qag.j0 k y0 y1 y2) (Qag.j0 (k + 1) y0 y1 y2)) ∧ (∀ y0 y1 y2 y3, LeO (Qag.l0 k y0 y1 y2 y3) (Qag.l0 (k + 1) y0 y1 y2 y3)) ∧ (∀ y0 y1 y2 y3, LeO (Qag.l1 k y0 y1 y2 y3) (Qag.l1 (k + 1) y0 y1 y2 y3))
 | 0 => ⟨fun _ _ _ r h => by simp [Qag.j0] at h, fun _ _ _ _ r h => by simp [Qag.l0] at h, fun _ _ _ _ r h => by simp [Qag.l1] at h⟩
 | k + 1 => by
  obtain ⟨ih0, ih1, ih2⟩ := Qag.mono_l k
  refine ⟨?_, ?_, ?_⟩
  ·intro y0 y1 y2
   unfold Qag.j0
   exact ZM4 ih0 ih1 ih2 Qao.mono
  ·intro y0 y1 y2 y3
   unfold Qag.l0
   exact ZM4 ih0 ih1 ih2 Qao.mono
  intro y0 y1 y2 y3
  unfold Qag.l1
  exact ZM4 ih0 ih1 ih2 Qao.mono
theorem Qag.mono : ∀ a0 a1 k, LeO (Qag.f k a0 a1) (Qag.f (k + 1) a0 a1) := by
 intro a0 a1 k
 obtain ⟨ih0, ih1, ih2⟩ := Qag.mono_l k
 unfold Qag.f
 exact ZM4 ih0 ih1 ih2 Qao.mono
set_option maxHeartbeats 8000000 in
theorem Qag.calls (k : Nat) (A0 : Option Addr) (c0 : Nat) (l0 : List Int) (a1 : Int) (r1 : Int) (r2 : Int) (w : World) (hr0 : Kd.C (Kd.int .i64) w A0 l0.length l0) (hc0 : l0.length ≤ c0) (h : Qag.f k l0 a1 = some (r1, r2)) :
  Calls Try.prog 41 #[.slice A0 l0.length c0, .int .i64 a1] w fun e w' => e = .returned (.tuple #[.int .i64 r1, .int .i64 r2]) ∧ Drawn0 w w' := by
 have HR0 := Aside0.mk hr0
 have HC0 := Aside0.mk hc0
 clear hr0 hc0
 have H : (if a1 < 0 then (Qag.j0 k l0 a1 T) else (Qag.j0 k l0 a1 (decide (a1 > 68719476736)))) = some (r1, r2) := h
 clear h
 have HC3 := Aside0.mk H
 clear H
 go_enter Try.func41, Try.ntmps41
 go_upto_region 1 with (fail)
 go_cut [14] (fun v14 wc => ∃ (kq : Nat) (x14_2 : Bool), v14 = .bool x14_2 ∧ Aside0 (Qag.j0 kq l0 a1 x14_2 = some (r1, r2)) ∧ Aside0 (kq ≤ k) ∧ Drawn0 w wc)
 case first =>
  have H := HC3.out
  clear HC3
  by_cases c4 : a1 < 0
  ·rw [if_pos c4] at H
   have c4b0 : decide (a1 < 0) = T := decide_eq_true c4
   clear c4
   have H' := Aside0.mk H
   clear H
   go_wp2
   go_meet
   case rel => exact ⟨_, (T), (Zs), H', ⟨by first | omega | exact Nat.le_refl _⟩, Zd⟩
  rw [if_neg c4] at H
  have c4b0 : decide (a1 < 0) = F := decide_eq_false c4
  clear c4
  have H' := Aside0.mk H
  clear H
  go_wp2
  go_meet
  case rel => exact ⟨_, (decide (a1 > 68719476736)), (Zs), H', ⟨by first | omega | exact Nat.le_refl _⟩, Zd⟩
 case rest =>
  clear HC3
  try clear p2
  try clear c4
  try clear c4b0
  obtain ⟨kq, x14_2, rfl, HA, HJ2, ⟨mc2, rfl⟩⟩ := hcut
  cases kq with
  | zero => exact absurd HA.out (by simp [Qag.j0])
  | succ kj2 =>
   have H := HA.out
   clear HA
   simp only [Qag.j0] at H
   by_cases c5 : x14_2 = T
   ·subst c5
    have H1 : (some (0, 2)) = some (r1, r2) := by rw [if_pos rfl] at H; exact H
    clear H
    have H := H1
    clear H1
    simp only [Option.some.injEq, Prod.mk.injEq] at H
    obtain ⟨rfl, rfl⟩ := H
    go_wp2
    go_ret2
    exact ⟨Zs, Zd⟩
   replace c5 := Bool.eq_false_iff.mpr c5
   subst c5
   have H1 : (Qag.l0 kj2 l0 a1 0 0) = some (r1, r2) := by rw [if_neg (show ¬ (F = T) by decide)] at H; exact H
   clear H
   have H := H1
   clear H1
   have H' := Aside0.mk H
   clear H
   go_wp2
   go_loopg [7] kj2 (fun kq v7 w' => ∃ (x7_2 : Int), v7 = .int .i64 x7_2 ∧ Aside0 (Qag.l0 kq l0 a1 0 x7_2 = some (r1, r2)) ∧ Aside0 (kq ≤ kj2) ∧ Drawn0 w w')
   case atStart => exact ⟨(0), (Zs), H', ⟨Nat.le_refl _⟩, Zd⟩
   case round =>
    clear H'
    try clear c2
    try clear p2
    try clear c4
    try clear c4b0
    try clear c5
    try clear p2
    obtain ⟨x7_2, rfl, HA, HK2, ⟨m2, rfl⟩⟩ := hrel
    cases gk with
    | zero => exact absurd HA.out (by simp [Qag.l0])
    | succ k2 =>
     have H := HA.out
     clear HA
     simp only [Qag.l0] at H
     by_cases c6 : x7_2 < (l0.length : Int)
     ·rw [if_pos c6] at H
      have c6b0 : decide (x7_2 < (l0.length : Int)) = T := decide_eq_true c6
      clear c6
      (try simp only [c6b0])
      by_cases c7 : 0 ≤ x7_2
      ·rw [if_pos c7] at H
       have c7b0 : decide (0 ≤ x7_2) = T := decide_eq_true c7
       clear c7
       replace H := Option.bind_eq_some_iff.mp H
       obtain ⟨t711, A80, H⟩ := H
       replace H : (if t711 = T then (Qag.l0 k2 l0 a1 0 (wrap64 (x7_2 + 1))) else (some (0, 2))) = some (r1, r2) := H
       have A8 := Aside0.mk A80
       clear A80
       have p710 : 0 ≤ (x7_2 : Int) := Ze
       have q710 : x7_2 < (l0.length : Int) := Ze
       obtain ⟨ad710, e710, hx710_0⟩ := Kd.at_int HR0.out x7_2 p710 q710
       cases e710
       replace p710 := eq_true p710
       replace q710 := eq_true q710
       go_upto_if 26 with (first | ((with_reducible refine Qat (f := 64) rfl ?_); refine goesL_ (some 25) rfl rfl Try.func64 (by kernel_rfl) rfl #[.int .i64 (rd l0 x7_2)] rfl (Zl) ?_; (with_reducible refine (QaS.calls (rd l0 x7_2) t711 _ A8.out).mono ?_); rintro e w' ⟨rfl, ⟨nd, rfl⟩⟩; refine ⟨_, rfl, ?_⟩))
       (try simp only [Act.put, Zj, Zk, Zm])
       by_cases c9 : t711 = T
       ·subst c9
        have H1 : (Qag.l0 k2 l0 a1 0 (wrap64 (x7_2 + 1))) = some (r1, r2) := by rw [if_pos rfl] at H; exact H
        clear H
        have H := H1
        clear H1
        have H' := Aside0.mk H
        clear H
        go_wp2
        go_roundg k2
        case measure => have := HJ2.out; have := HK2.out; omega
        case rel => exact ⟨(wrap64 (x7_2 + 1)), (Zs), H', ⟨by have := HJ2.out; have := HK2.out; omega⟩, Zd⟩
       replace c9 := Bool.eq_false_iff.mpr c9
       subst c9
       have H1 : (some (0, 2)) = some (r1, r2) := by rw [if_neg (show ¬ (F = T) by decide)] at H; exact H
       clear H
       have H := H1
       clear H1
       simp only [Option.some.injEq, Prod.mk.injEq] at H
       obtain ⟨rfl, rfl⟩ := H
       go_wp2
       go_ret2
       exact ⟨Zs, Zd⟩
      rw [if_neg c7] at H
      exact absurd H (by simp)
     rw [if_neg c6] at H
     have c6b0 : decide (x7_2 < (l0.length : Int)) = F := decide_eq_false c6
     clear c6
     (try simp only [c6b0])
     by_cases c10 : (l0.length : Int) > 1024
     ·rw [if_pos c10] at H
      have c10b0 : decide (1024 < (l0.length : Int)) = T := decide_eq_true c10
      have c10b1 : decide (1024 < l0.length) = T := decide_eq_true (by omega)
      clear c10
      (try simp only [c10b0, c10b1])
      simp only [Option.some.injEq, Prod.mk.injEq] at H
      obtain ⟨rfl, rfl⟩ := H
      go_wp2
      go_ret2
      exact ⟨Zs, Zd⟩
     rw [if_neg c10] at H
     have c10b0 : decide (1024 < (l0.length : Int)) = F := decide_eq_false c10
     have c10b1 : decide (1024 < l0.length) = F := decide_eq_false (by omega)
     clear c10
     (try simp only [c10b0, c10b1])
     have H' := Aside0.mk H
     clear H
     go_wp2
     go_loopg [6, 8] k2 (fun kq v6 v8 w' => ∃ (x6_3 : Int) (x8_3 : Int), v6 = .int .i64 x6_3 ∧ v8 = .int .i64 x8_3 ∧ Aside0 (Qag.l1 kq l0 a1 x6_3 x8_3 = some (r1, r2)) ∧ Aside0 (kq ≤ k2) ∧ Drawn0 w w')
     case atStart => exact ⟨(0), (0), (Zs), (Zs), H', ⟨Nat.le_refl _⟩, Zd⟩
     case round =>
      clear H'
      try clear c1
      try clear c2
      try clear p2
      try clear c4
      try clear c4b0
      try clear c5
      try clear c6
      try clear c6b0
      try clear p6
      try clear c7
      try clear c7b0
      try clear p7
      try clear q7
      try clear hx7
      try clear c9
      try clear c10
      try clear c10b0
      try clear c10b1
      try clear hx710_0
      try clear p2
      try clear p710
      try clear q710
      obtain ⟨x6_3, x8_3, rfl, rfl, HA, HK3, ⟨m3, rfl⟩⟩ := hrel
      cases gk with
      | zero => exact absurd HA.out (by simp [Qag.l1])
      | succ k3 =>
       have H := HA.out
       clear HA
       simp only [Qag.l1] at H
       by_cases c11 : x8_3 < (l0.length : Int)
       ·rw [if_pos c11] at H
        have c11b0 : decide (x8_3 < (l0.length : Int)) = T := decide_eq_true c11
        clear c11
        (try simp only [c11b0])
        by_cases c12 : 0 ≤ x8_3
        ·rw [if_pos c12] at H
         have c12b0 : decide (0 ≤ x8_3) = T := decide_eq_true c12
         clear c12
         have p712 : 0 ≤ (x8_3 : Int) := Ze
         have q712 : x8_3 < (l0.length : Int) := Ze
         obtain ⟨ad712, e712, hx712_0⟩ := Kd.at_int HR0.out x8_3 p712 q712
         cases e712
         replace p712 := eq_true p712
         replace q712 := eq_true q712
         go_upto_if 40 with (fail)
         by_cases c13 : (rd l0 x8_3) < 0
         ·rw [if_pos c13] at H
          have c13b0 : decide ((rd l0 x8_3) < 0) = T := decide_eq_true c13
          clear c13
          (try simp only [c13b0])
          have H' := Aside0.mk H
          clear H
          have p713 : 0 ≤ (x8_3 : Int) := Ze
          have q713 : x8_3 < (l0.length : Int) := Ze
          obtain ⟨ad713, e713, hx713_0⟩ := Kd.at_int HR0.out x8_3 p713 q713
          obtain rfl : ad712 = ad713 := (by injection e713)
          replace p713 := eq_true p713
          replace q713 := eq_true q713
          go_wp2
          go_roundg k3
          case measure => have := HJ2.out; have := HK2.out; have := HK3.out; omega
          case rel => exact ⟨(wrap64 (x6_3 + (wrap64 (Int.tdiv (wrap64 (-(rd l0 x8_3))) 1000)))), (wrap64 (x8_3 + 1)), (Zs), (Zs), H', ⟨by have := HJ2.out; have := HK2.out; have := HK3.out; omega⟩, Zd⟩
         rw [if_neg c13] at H
         have c13b0 : decide ((rd l0 x8_3) < 0) = F := decide_eq_false c13
         clear c13
         (try simp only [c13b0])
         have H' := Aside0.mk H
         clear H
         have p714 : 0 ≤ (x8_3 : Int) := Ze
         have q714 : x8_3 < (l0.length : Int) := Ze
         obtain ⟨ad714, e714, hx714_0⟩ := Kd.at_int HR0.out x8_3 p714 q714
         obtain rfl : ad712 = ad714 := (by injection e714)
         replace p714 := eq_true p714
         replace q714 := eq_true q714
         go_wp2
         go_roundg k3
         case measure => have := HJ2.out; have := HK2.out; have := HK3.out; omega
         case rel => exact ⟨(wrap64 (x6_3 + (wrap64 (Int.tdiv (rd l0 x8_3) 1000)))), (wrap64 (x8_3 + 1)), (Zs), (Zs), H', ⟨by have := HJ2.out; have := HK2.out; have := HK3.out; omega⟩, Zd⟩
        rw [if_neg c12] at H
        exact absurd H (by simp)
       rw [if_neg c11] at H
       have c11b0 : decide (x8_3 < (l0.length : Int)) = F := decide_eq_false c11
       clear c11
       (try simp only [c11b0])
       replace H := Option.bind_eq_some_iff.mp H
       obtain ⟨⟨t715, t716⟩, A140, H⟩ := H
       replace H : (some (t715, t716)) = some (r1, r2) := H
       have A14 := Aside0.mk A140
       clear A140
       simp only [Option.some.injEq, Prod.mk.injEq] at H
       obtain ⟨rfl, rfl⟩ := H
       go_wp2_with (first | ((with_reducible refine Qat (f := 70) rfl ?_); refine goesL_ (some 58) rfl rfl Try.func70 (by kernel_rfl) rfl #[.int .i64 x6_3, .int .i64 a1] rfl (Zl) ?_; (with_reducible refine (Qao.calls k3 x6_3 a1 t715 t716 _ A14.out).mono ?_); rintro e w' ⟨rfl, ⟨nd, rfl⟩⟩; refine ⟨_, rfl, ?_⟩))
       go_ret2
       exact ⟨Zs, Zd⟩
end Go.Proofs.Ytggbflplbblgbaa.Pr
