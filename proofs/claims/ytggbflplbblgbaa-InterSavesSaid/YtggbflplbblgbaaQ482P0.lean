/- Functions' values and contracts, as the print wrote them. -/
import Derived.Test.YtggbflplbblgbaaProg
import Derived.Below
import Derived.Deep.Draws
import Derived.Deep.AppendLies
import Derived.Maps.AppendAt
import Derived.OwnWalk
import Derived.Laws.BytesArg
import Derived.Laws.MakeOwn
import Derived.Laws.OwnMore
import Derived.Deep.OwnRows
import Derived.Tactics
import Derived.Lib.ConvBytes
import Derived.Laws.Slices
import Derived.WalkKit
import Derived.KernelRfl
import Derived.RowKit3
import Derived.Deep.LoopGhost
import Derived.Deep.QuietTactic
import Derived.BigQuiet
import Derived.WideLaws
import Derived.Deep.DeepCutAuto
import Derived.Deep.CutBlock
import Derived.Deep.RegionHeld3
import Derived.Laws.Rows
import Derived.Lib.AppendStr
import Derived.ArgAppend
import Derived.Laws.IdiomCopy
import Derived.OrdersHeld
import Derived.Laws.BitsLemmas
import Derived.RowKit
import Derived.Laws.Cover1
import Derived.Lib.BitFns
import Derived.Lib.ItoaNum
import Derived.Deep.Light
import Derived.Lib.LazyBuf
import Derived.Lib.Mul64
import Derived.Laws.Bits64b
import Derived.Lib.Small
import Derived.Lib.Walk
import Derived.Lib.Strings
import Derived.Lib.Slices
import Derived.Maps.OwnSet
import Derived.Test.YtggbflplbblgbaaQ482WWords
import Derived.Test.YtggbflplbblgbaaQ482WLast
import Derived.Test.YtggbflplbblgbaaQ482WTab
import Derived.Test.YtggbflplbblgbaaQ482WApart
import Derived.Test.YtggbflplbblgbaaQ482WFoot
import Derived.Test.YtggbflplbblgbaaQ482WKept
import Derived.Test.YtggbflplbblgbaaQ482WShare
import Derived.Test.YtggbflplbblgbaaQ482WN
import Derived.Laws.StructEq
import Derived.Test.YtggbflplbblgbaaQ482WRepsOne
import Derived.Test.YtggbflplbblgbaaQ482WInv
import Derived.Test.YtggbflplbblgbaaQ482WGuard
import Derived.Test.YtggbflplbblgbaaQ482WMore
namespace Go.Proofs.Ytggbflplbblgbaa.Pr
open Bool renaming true → F
open Bool renaming false → J
open Go.RowKit Go.Proofs.YtggbflplbblgbaaW.PrintWords Go.Proofs.YtggbflplbblgbaaW.PrintLast Go.Proofs.YtggbflplbblgbaaW.PrintMore
attribute [local go_sem] QaJ QaL QaR QaS QaE QaF QaK QaM   -- for this text's walks alone
set_option linter.unusedVariables false
set_option linter.unusedSimpArgs false
set_option maxRecDepth 100000
def errW : Option Int → Value
 | none => .nilIface
 | some c => .iface 0 (.int .i64 c)
theorem Qar : errW none = .nilIface := rfl
theorem Qas (c : Int) : errW (some c) = .iface 0 (.int .i64 c) := rfl
theorem Qbk {P : Program} {o : Oper} {a : Act} {W : World} {t : TypeId} {p : Tmp} {x : Operand} {g i : Nat} {T : TypeId} {cs : Array Value} {u : Value} {seg : List Value}
  (hg : W.heap[g]? = some (.cells cs T (0, 0))) (ho : o.op = .store t (.tmp p) x) (hp : a.eval (.tmp p) = .pointer (some ⟨g, i, none⟩)) (hx : a.eval x = u) (hu : u.cells.toList = seg) (ht : (P.info? t).map (·.size) = some seg.length)
  (hle : i + seg.length ≤ cs.size) (h1 : seg.all (fun q => q.oneCell') = F) : (execOp a.eval o).run P W = .ok .skip (W.setCells g i seg) := by
 have hrun := QcU (P := P) (w := W) (o := i) t u seg hg hu ht hle (fun q hq => List.all_eq_true.1 h1 q hq)
 unfold execOp
 simp only [ho, hp, hx, Sem.run_bind, Sem.run_pure, Result.andThen_ok, hrun]
theorem QbM {P : Program} (w : World) (g : Nat) (t ty : TypeId) (v : Value) (fr : Nat × Nat) (d : TypeDesc) (hg : w.heap[g]? = some (.cells #[v] t fr))
  (hu : P.underlying ty = some d) (hd : (match d with | .struct _ | .array _ _ => F | _ => J) = J) (hi : (P.info? ty).map (·.size) = some 1) : (loadVar ty ⟨g, 0, none⟩).run P w = .ok v w := by
 have hc : w.cell? ⟨g, 0, none⟩ = some v := cell_of_row w g 0 #[v] t fr hg
 have hagg : (isAgg ty).run P w = .ok J w := by
  unfold isAgg
  simp [run_underlying hu]
  cases d <;> first | rfl | (simp at hd)
 cases hq : P.info? ty with
 | none => simp [hq] at hi
 | some i =>
  have hs : i.size = 1 := by simpa [hq] using hi
  simp [loadVar, sizeOf, typeInfo, hq, hs, hagg, hc]
def MapI (P : Program) (K E : TypeId) (w : World) (B n : Nat) (f : Int → Int) : Prop :=
 ∃ D : DataW Unit, w.ownsMap P K (plainElem P E) B n D ∧ ∀ x, (Lit.int .i64 x).wf = F → D.atKey (.int .i64 x) (.lit (.int .i64 0)) = .lit (.int .i64 (f x))
theorem MapI.made (P : Program) (K E : TypeId) (w : World) : MapI P K E (w.alloc (.map #[] 0)) w.heap.size 0 (fun _ => 0) := ⟨.map [], World.ownsMap_made _ _ _ _, fun _ _ => rfl⟩
theorem MapI.blk {P : Program} {K E : TypeId} {w : World} {B n : Nat} {f : Int → Int} (h : MapI P K E w B n f) : ∃ es c, w.heap[B]? = some (.map es c) := by
 obtain ⟨D, ⟨es, c, hb, _⟩, _⟩ := h
 exact ⟨es, c, hb⟩
theorem MapI.move {P : Program} {K E : TypeId} {w w' : World} {B n : Nat} {f : Int → Int} (h : MapI P K E w B n f) (hm : B < w.heap.size → w'.heap[B]? = w.heap[B]?) : MapI P K E w' B n f := by
 obtain ⟨D, ⟨es, c, hb, r⟩, hf⟩ := h
 exact ⟨D, ⟨es, c, (hm (blk_lt hb)).trans hb, r⟩, hf⟩
theorem MapI.below {P : Program} {K E : TypeId} {w w' : World} {B n : Nat} {f : Int → Int} (h : MapI P K E w B n f) (hb : Below w.heap.size w w') : MapI P K E w' B n f := h.move (fun hl => hb.block B hl)
theorem MapI.grown {P : Program} {K E : TypeId} {w w' : World} {B n : Nat} {f : Int → Int} (h : MapI P K E w B n f) {row : Option Nat} (hg : w.grownBy w' row) (hne : some B ≠ row) : MapI P K E w' B n f := h.move (fun hl => hg.block B hl hne)
theorem MapI.set {P : Program} {K E : TypeId} {w : World} {B n : Nat} {f : Int → Int} (h : MapI P K E w B n f) {p : Addr} (hp : B ≠ p.block) (u : Value) : MapI P K E (w.setCell p u) B n f := h.move (fun _ => Below.heap_setCell w p u B hp)
theorem MapI.drewN {P : Program} {K E : TypeId} {w : World} {B n : Nat} {f : Int → Int} (h : MapI P K E w B n f) (m : Nat) : MapI P K E (w.drewN m) B n f := h.move (fun _ => rfl)
theorem MapI.drew {P : Program} {K E : TypeId} {w : World} {B n : Nat} {f : Int → Int} (h : MapI P K E w B n f) : MapI P K E w.drew B n f := h.move (fun _ => rfl)
theorem MapI.alloc {P : Program} {K E : TypeId} {w : World} {B n : Nat} {f : Int → Int} (h : MapI P K E w B n f) (o : Obj) : MapI P K E (w.alloc o) B n f := h.below (Qae (Below.refl _ _) o)
theorem MapI.apart {P : Program} {K E : TypeId} {w : World} {B n : Nat} {f : Int → Int} (h : MapI P K E w B n f) {α : Type} {d : Kd α} {e base : Nat} {ok : Nat → Prop} {v : Value} {xs : List α} (hr : d.R e w base ok v xs) : d.R e w base (fun k => ok k ∧ k ≠ B) v xs :=
 Kd.R_mono (Kd.R_bound hr) (fun k hk => ⟨hk.1, by
  obtain ⟨_, _, _, q, _, cells, hc⟩ := hk
  obtain ⟨es, c, hb⟩ := h.blk
  rintro rfl
  rw [hb] at hc
  cases hc⟩)
theorem MapI.ne_blk {P : Program} {K E : TypeId} {w : World} {B n : Nat} {f : Int → Int} (h : MapI P K E w B n f) {g t : Nat} {cs : Array Value} (hg : w.heap[g]? = some (.cells cs t (0, 0))) : B ≠ g := by
 obtain ⟨es, c, hb⟩ := h.blk
 rintro rfl
 rw [hb] at hg
 cases hg
def mdFits (n : Int) : Prop := -1152921504606846976 ≤ n ∧ n ≤ 1152921504606846976
def mdAway (mode : Int) (below : Bool) (q r c : Int) : Bool :=
 decide (mode = 2) || (decide (mode = 3) && below) || (decide (mode = 4) && !below) || (decide (mode = 5) && (decide (c - r < r) || (decide (r = c - r) && decide (q % 2 = 1))))
def Qa7 (a b c : Int) : Bool := !((!(decide (a < 0) == decide (b < 0))) == decide (c < 0))
def mdQ (a b c mode : Int) : Int :=
 if 0 < (a.natAbs : Int) * b.natAbs % c.natAbs ∧ mdAway mode (Qa7 a b c) ((a.natAbs : Int) * b.natAbs / c.natAbs) ((a.natAbs : Int) * b.natAbs % c.natAbs) c.natAbs = F then (a.natAbs : Int) * b.natAbs / c.natAbs + 1
 else (a.natAbs : Int) * b.natAbs / c.natAbs
def mdRes (a b c mode : Int) : Int × Int :=
 if 1152921504606846976 < mdQ a b c mode then (0, 3) else (if Qa7 a b c = F then -mdQ a b c mode else mdQ a b c mode, 0)
instance (n : Int) : Decidable (mdFits n) := inferInstanceAs (Decidable (_ ∧ _))
theorem Qb8 (a0 a1 a2 a3 : Int) (h : ¬ (mdFits a0 ∧ mdFits a1 ∧ mdFits a2 ∧ 1 ≤ a3 ∧ a3 ≤ 5)) :
  (a0 < -1152921504606846976) ∨ (1152921504606846976 < a0) ∨
  ((-1152921504606846976 ≤ a0 ∧ a0 ≤ 1152921504606846976) ∧ (a1 < -1152921504606846976)) ∨ ((-1152921504606846976 ≤ a0 ∧ a0 ≤ 1152921504606846976) ∧ (1152921504606846976 < a1)) ∨
  ((-1152921504606846976 ≤ a0 ∧ a0 ≤ 1152921504606846976) ∧ (-1152921504606846976 ≤ a1 ∧ a1 ≤ 1152921504606846976) ∧ (a2 < -1152921504606846976)) ∨
  ((-1152921504606846976 ≤ a0 ∧ a0 ≤ 1152921504606846976) ∧ (-1152921504606846976 ≤ a1 ∧ a1 ≤ 1152921504606846976) ∧ (1152921504606846976 < a2)) ∨
  ((-1152921504606846976 ≤ a0 ∧ a0 ≤ 1152921504606846976) ∧ (-1152921504606846976 ≤ a1 ∧ a1 ≤ 1152921504606846976) ∧ (-1152921504606846976 ≤ a2 ∧ a2 ≤ 1152921504606846976) ∧ a3 < 1) ∨
  ((-1152921504606846976 ≤ a0 ∧ a0 ≤ 1152921504606846976) ∧ (-1152921504606846976 ≤ a1 ∧ a1 ≤ 1152921504606846976) ∧ (-1152921504606846976 ≤ a2 ∧ a2 ≤ 1152921504606846976) ∧ 5 < a3) := by
 unfold mdFits at h; omega
def pm (n k : Nat) : Array Bool := ((List.range n).map fun j => decide (j < k)).toArray
section
variable {P : Program} {ops : Array Oper} {Q : Exit → Act → World → Prop} {md : Region.Mode} {S : World → Prop} {ds : List Nat} {T : Bool × List (List Nat × List Nat)} {B : List Nat}
theorem Zsp {i : Nat} {N : Option Tmp} {oi : Oper} {v : Value} {fuel : Nat} {l : Array Bool} {a a' : Act} {w : World} (l' : Array Bool) (H : Aside0 (rtab md ops = T)) (h : QaB P md ops Q S ds fuel l' a' w) (hi : ops[i]? = some oi := by rfl) (hN : oi.dst = N := by rfl) (hc : anyT T l.toList l'.toList i = F := by kernel_rfl)
  (hQ : ∀ c a w, Q (.panic c) (a.put oi.dst v) w → Q (.panic c) a w := by exact fun _ _ _ h => h) (hy : Yields P ops oi v a := by (refine Or.inl ⟨by rfl, ?_⟩; intro w'; go_simp; with_reducible rfl)) (ha : a.put N v = a' := by (simp only [Act.put, Zj, Zk, Zm, i64_w, i32_w]; rfl)) :
  QaB P md ops Q S ds (fuel + 1) l a w := pure_ l' hi hN (any_of H.out hc) hQ hy ha h
theorem Zso {i : Nat} {N : Option Tmp} {oi : Oper} {fuel : Nat} {l : Array Bool} {a a' : Act} {w : World} (l' : Array Bool) (H : Aside0 (rtab md ops = T)) (h : QaB P md ops Q S ds fuel l' a' w) (hi : ops[i]? = some oi := by rfl) (hN : oi.dst = N := by rfl) (hc : anyT T l.toList l'.toList i = F := by kernel_rfl)
  (hQ : ∀ c a w, Q (.panic c) (a.put oi.dst undef) w → Q (.panic c) a w := by exact fun _ _ _ h => h) (hy : Yields P ops oi undef a := by exact Or.inr ⟨by rfl, rfl⟩) (ha : a.put N undef = a' := by (simp only [Act.put, Zj, Zk, Zm, i64_w, i32_w]; rfl)) :
  QaB P md ops Q S ds (fuel + 1) l a w := pure_ l' hi hN (any_of H.out hc) hQ hy ha h
theorem Zst {i : Nat} {N : Option Tmp} {oi : Oper} {v : Value} {fuel : Nat} {l : Array Bool} {a a' : Act} {w : World} (l' : Array Bool) (H : Aside0 (rtab md ops = T)) (H2 : Aside0 (Qa5 T.2 B = F)) (hS : S w) (h : QaB P md ops Q S ds fuel l' a' w) (hi : ops[i]? = some oi := by rfl) (hN : oi.dst = N := by rfl) (hc : takeW T B ds l.toList l'.toList i = F := by kernel_rfl)
  (hQ : ∀ c a w, Q (.panic c) (a.put oi.dst v) w → Q (.panic c) a w := by exact fun _ _ _ h => h) (hy : YieldsIf P ops S oi v a) (ha : a.put N v = a' := by (simp only [Act.put, Zj, Zk, Zm, i64_w, i32_w]; rfl)) :
  QaB P md ops Q S ds (fuel + 1) l a w := take_ l' hi hN (Qcq H.out H2.out hc) hQ hy hS ha h
end
theorem info3 : (Try.prog.info? 3).map (fun i => (i.zero, i.size, i.bytes)) = some (some (.int .i64 0), 1, 8) := by kernel_rfl
structure S75 where
 f0 : ByteArray
 f1 : ByteArray
 f2 : Int
 f3 : Int
 f4 : Int
def z75 : S75 := ⟨(⟨#[]⟩ : ByteArray), (⟨#[]⟩ : ByteArray), (0 : Int), (0 : Int), (0 : Int)⟩
def k75 : Kd S75 := Kd.iso (Kd.pair Kd.string (Kd.pair Kd.string (Kd.pair (Kd.int .i64) (Kd.pair (Kd.int .i64) (Kd.int .i64))))) (fun x : S75 => (x.f0, x.f1, x.f2, x.f3, x.f4))
theorem Qd1 {w : World} {x : S75} {cs : List Value} (h : k75.K w x cs) : cs = [.string x.f0, .string x.f1, .int .i64 x.f2, .int .i64 x.f3, .int .i64 x.f4] := by
 obtain ⟨_, _, rfl, rfl, ⟨_, _, rfl, rfl, ⟨_, _, rfl, rfl, ⟨_, _, rfl, rfl, rfl⟩⟩⟩⟩ := h
 exact rfl
theorem Qei (w : World) (base : Nat) (ok : Nat → Prop) (x : S75)  : k75.M w base ok x [.string x.f0, .string x.f1, .int .i64 x.f2, .int .i64 x.f3, .int .i64 x.f4] := ⟨[.string x.f0], [.string x.f1, .int .i64 x.f2, .int .i64 x.f3, .int .i64 x.f4], rfl, rfl, ⟨[.string x.f1], [.int .i64 x.f2, .int .i64 x.f3, .int .i64 x.f4], rfl, rfl, ⟨[.int .i64 x.f2], [.int .i64 x.f3, .int .i64 x.f4], rfl, rfl, ⟨[.int .i64 x.f3], [.int .i64 x.f4], rfl, rfl, rfl⟩⟩⟩⟩
def rd_T75 (xs : List S75) (i : Int) : S75 := xs.getD i.toNat z75
theorem at_T75 {w : World} {A : Option Addr} {n : Nat} {xs : List S75} (h : Kd.C k75 w A n xs) (i : Int) (h0 : 0 ≤ i) (h1 : i < n) : ∃ ad , A = some ad ∧ w.cell? (ad.add (i.toNat * 5)) = some (.string (rd_T75 xs i).f0) ∧ w.cell? ⟨(ad.add (i.toNat * 5)).block, (ad.add (i.toNat * 5)).off + 1, none⟩ = some (.string (rd_T75 xs i).f1) ∧ w.cell? ⟨(ad.add (i.toNat * 5)).block, (ad.add (i.toNat * 5)).off + 2, none⟩ = some (.int .i64 (rd_T75 xs i).f2) ∧ w.cell? ⟨(ad.add (i.toNat * 5)).block, (ad.add (i.toNat * 5)).off + 3, none⟩ = some (.int .i64 (rd_T75 xs i).f3) ∧ w.cell? ⟨(ad.add (i.toNat * 5)).block, (ad.add (i.toNat * 5)).off + 4, none⟩ = some (.int .i64 (rd_T75 xs i).f4) := by
 obtain ⟨ad, c, e, _, hK, hc0⟩ := Kd.C_get h z75 i h0 h1
 have hc : ∀ j u, c[j]? = some u → w.cell? (ad.add (i.toNat * 5 + j)) = some u := hc0
 obtain rfl := Qd1 hK
 exact ⟨ad, e, hc 0 _ rfl, by rw [← QbI _ _ 1 (by omega)]; exact hc 1 _ rfl, by rw [← QbI _ _ 2 (by omega)]; exact hc 2 _ rfl, by rw [← QbI _ _ 3 (by omega)]; exact hc 3 _ rfl, by rw [← QbI _ _ 4 (by omega)]; exact hc 4 _ rfl⟩
structure S67 where
 f0 : (List ByteArray)
 f1 : (List Int)
 f2 : (List Int)
def k67 : Kd S67 := Kd.iso (Kd.pair (Kd.slice 9 Kd.string) (Kd.pair (Kd.slice 3 (Kd.int .i64)) (Kd.slice 3 (Kd.int .i64)))) (fun x : S67 => (x.f0, x.f1, x.f2))
theorem Qd0 {w : World} {x : S67} {cs : List Value} (h : k67.K w x cs) : ∃ A0 c0 A1 c1 A2 c2, cs = [.slice A0 x.f0.length c0, .slice A1 x.f1.length c1, .slice A2 x.f2.length c2] ∧ x.f0.length ≤ c0 ∧ Kd.string.C w A0 x.f0.length x.f0 ∧ x.f1.length ≤ c1 ∧ (Kd.int .i64).C w A1 x.f1.length x.f1 ∧ x.f2.length ≤ c2 ∧ (Kd.int .i64).C w A2 x.f2.length x.f2 := by
 obtain ⟨_, _, rfl, ⟨A0, c0, rfl, l0, g0⟩, ⟨_, _, rfl, ⟨A1, c1, rfl, l1, g1⟩, ⟨A2, c2, rfl, l2, g2⟩⟩⟩ := h
 exact ⟨A0, c0, A1, c1, A2, c2, rfl, l0, g0, l1, g1, l2, g2⟩
def Qa9.f (a0 : Int) : Option (Bool) := if 97 ≤ a0 then (some (decide (a0 ≤ 122))) else (some J)
set_option maxHeartbeats 8000000 in
theorem Qa9.calls (a0 : Int) (r : Bool) (w : World) (h : Qa9.f a0 = some r) :
  Calls Try.prog 99 #[.int .u8 a0] w fun e w' => e = .returned (.bool r) ∧ Drawn0 w w' := by
 have H : (if 97 ≤ a0 then (some (decide (a0 ≤ 122))) else (some J)) = some r := h
 clear h
 by_cases c2 : 97 ≤ a0
 ·rw [if_pos c2] at H
  have c2b0 : decide (97 ≤ a0) = F := decide_eq_true c2
  clear c2
  obtain rfl := Option.some.inj H
  go_enter Try.func99, Try.ntmps99
  go_wp2
  go_ret
  exact ⟨Zs, Zd⟩
 rw [if_neg c2] at H
 have c2b0 : decide (97 ≤ a0) = J := decide_eq_false c2
 clear c2
 obtain rfl := Option.some.inj H
 go_enter Try.func99, Try.ntmps99
 go_wp2
 go_ret
 exact ⟨Zs, Zd⟩
def Qbh.f (a0 : Int) : Option (Bool) := if 48 ≤ a0 then (some (decide (a0 ≤ 57))) else (some J)
set_option maxHeartbeats 8000000 in
theorem Qbh.calls (a0 : Int) (r : Bool) (w : World) (h : Qbh.f a0 = some r) :
  Calls Try.prog 100 #[.int .u8 a0] w fun e w' => e = .returned (.bool r) ∧ Drawn0 w w' := by
 have H : (if 48 ≤ a0 then (some (decide (a0 ≤ 57))) else (some J)) = some r := h
 clear h
 by_cases c2 : 48 ≤ a0
 ·rw [if_pos c2] at H
  have c2b0 : decide (48 ≤ a0) = F := decide_eq_true c2
  clear c2
  obtain rfl := Option.some.inj H
  go_enter Try.func100, Try.ntmps100
  go_wp2
  go_ret
  exact ⟨Zs, Zd⟩
 rw [if_neg c2] at H
 have c2b0 : decide (48 ≤ a0) = J := decide_eq_false c2
 clear c2
 obtain rfl := Option.some.inj H
 go_enter Try.func100, Try.ntmps100
 go_wp2
 go_ret
 exact ⟨Zs, Zd⟩
mutual
def Qaq.j0 : Nat → ByteArray → Bool → Option (Bool)
 | 0, _, _ => none
 | k + 1, x0, x16 => if x16 = F then (some J) else (Qaq.l0 k x0 (x0.size : Int) 0)
def Qaq.l0 : Nat → ByteArray → Int → Int → Option (Bool)
 | 0, _, _, _ => none
 | k + 1, x0, x18, x19 => if x19 < x18 then (if 0 ≤ x19 then (if x19 < (x0.size : Int) then ((Qa9.f (bt x0 x19)).bind fun t102 => (if t102 = F then (Qaq.l0 k x0 x18 (wrap64 (x19 + 1))) else ((Qbh.f (bt x0 x19)).bind fun t103 => (if t103 = F then (Qaq.l0 k x0 x18 (wrap64 (x19 + 1))) else (some J))))) else (none)) else (none)) else (some F)
end
def Qaq.f (k : Nat) (a0 : ByteArray) : Option (Bool) := if a0.toList = ([] : List UInt8) then (Qaq.j0 k a0 F) else (if (a0.size : Int) > 12 then (Qaq.j0 k a0 F) else (if 0 < (a0.size : Int) then ((Qa9.f (bt a0 0)).bind fun t101 => (Qaq.j0 k a0 (!t101))) else (none)))
theorem Qaq.mono_l : ∀ k, (∀ y0 y1, LeO (Qaq.j0 k y0 y1) (Qaq.j0 (k + 1) y0 y1)) ∧ (∀ y0 y1 y2, LeO (Qaq.l0 k y0 y1 y2) (Qaq.l0 (k + 1) y0 y1 y2))
 | 0 => ⟨fun _ _ r h => by simp [Qaq.j0] at h, fun _ _ _ r h => by simp [Qaq.l0] at h⟩
 | k + 1 => by
  obtain ⟨ih0, ih1⟩ := Qaq.mono_l k
  refine ⟨?_, ?_⟩
  ·intro y0 y1
   unfold Qaq.j0
   exact ZM2 ih0 ih1
  intro y0 y1 y2
  unfold Qaq.l0
  exact ZM2 ih0 ih1
theorem Qaq.mono : ∀ a0 k, LeO (Qaq.f k a0) (Qaq.f (k + 1) a0) := by
 intro a0 k
 obtain ⟨ih0, ih1⟩ := Qaq.mono_l k
 unfold Qaq.f
 exact ZM2 ih0 ih1
set_option maxHeartbeats 8000000 in
theorem Qaq.calls (k : Nat) (a0 : ByteArray) (r : Bool) (w : World) (h : Qaq.f k a0 = some r) :
  Calls Try.prog 82 #[.string a0] w fun e w' => e = .returned (.bool r) ∧ Drawn0 w w' := by
 have H : (if a0.toList = ([] : List UInt8) then (Qaq.j0 k a0 F) else (if (a0.size : Int) > 12 then (Qaq.j0 k a0 F) else (if 0 < (a0.size : Int) then ((Qa9.f (bt a0 0)).bind fun t101 => (Qaq.j0 k a0 (!t101))) else (none)))) = some r := h
 clear h
 have HC2 := Aside0.mk H
 clear H
 go_enter Try.func82, Try.ntmps82
 go_upto_region 1 with (fail)
 go_cut [16] (fun v16 wc => ∃ (kq : Nat) (x16_1 : Bool), v16 = .bool x16_1 ∧ Aside0 (Qaq.j0 kq a0 x16_1 = some r) ∧ Aside0 (kq ≤ k) ∧ Drawn0 w wc)
 case first =>
  have H := HC2.out
  clear HC2
  by_cases c3 : a0.toList = ([] : List UInt8)
  ·rw [if_pos c3] at H
   have c3b0 : (a0.toList == ([] : List UInt8)) = F := beq_iff_eq.mpr c3
   (try (have c3b3 : (a0.toList.isEmpty) = F := (by have h_ := c3b0; rw [← h_]; simp)))
   have c3b1 : (a0.toList != ([] : List UInt8)) = J := bne_eq_false_iff_eq.mpr c3
   clear c3
   have H' := Aside0.mk H
   clear H
   go_wp2
   go_meet
   case rel => exact ⟨_, (F), (Zs), H', ⟨by first | omega | exact Nat.le_refl _⟩, Zd⟩
  rw [if_neg c3] at H
  have c3b0 : (a0.toList == ([] : List UInt8)) = J := beq_eq_false_iff_ne.mpr c3
  (try (have c3b3 : (a0.toList.isEmpty) = J := (by have h_ := c3b0; rw [← h_]; simp)))
  have c3b1 : (a0.toList != ([] : List UInt8)) = F := bne_iff_ne.mpr c3
  by_cases c4 : (a0.size : Int) > 12
  ·rw [if_pos c4] at H
   have c4b0 : decide (12 < (a0.size : Int)) = F := decide_eq_true c4
   have c4b1 : decide (12 < a0.size) = F := decide_eq_true (by omega)
   clear c4
   have H' := Aside0.mk H
   clear H
   go_wp2
   go_meet
   case rel => exact ⟨_, (F), (Zs), H', ⟨by first | omega | exact Nat.le_refl _⟩, Zd⟩
  rw [if_neg c4] at H
  have c4b0 : decide (12 < (a0.size : Int)) = J := decide_eq_false c4
  have c4b1 : decide (12 < a0.size) = J := decide_eq_false (by omega)
  clear c4
  by_cases c5 : 0 < (a0.size : Int)
  ·rw [if_pos c5] at H
   have c5b0 : decide (0 < (a0.size : Int)) = F := decide_eq_true c5
   have c5b1 : decide (0 < a0.size) = F := decide_eq_true (by omega)
   clear c5
   replace H := Option.bind_eq_some_iff.mp H
   obtain ⟨t101, A70, H⟩ := H
   replace H : (Qaq.j0 k a0 (!t101)) = some r := H
   have A7 := Aside0.mk A70
   clear A70
   have H' := Aside0.mk H
   clear H
   have p6 : 0 ≤ (0 : Int) := (by omega)
   have q6 : 0 < a0.size := (by have : (0 : Int) < (a0.size : Int) := Ze; omega)
   have hx6 : ∀ h : 0 < a0.size, ((a0[0]'h).toNat : Int) = bt a0 0 := bt_at a0 0
   clear p6
   have qi6 : (0 < (a0.size : Int)) = True := eq_true (Ze)
   replace q6 := eq_true q6
   go_wp2_with (first | (go_at_call 99; (with_reducible refine (Qa9.calls (bt a0 0) t101 _ A7.out).mono ?_); rintro e w' ⟨rfl, ⟨nd, rfl⟩⟩))
   go_meet
   case rel => exact ⟨_, (!t101), (Zs), H', ⟨by first | omega | exact Nat.le_refl _⟩, Zd⟩
  rw [if_neg c5] at H
  exact absurd H (by simp)
 case rest =>
  clear HC2
  try clear p2
  try clear c3
  try clear c3b0
  try clear c3b1
  try clear c4
  try clear c4b0
  try clear c4b1
  try clear c5
  try clear c5b0
  try clear c5b1
  try clear p6
  try clear q6
  try clear hx6
  try clear qi6
  try clear p6
  try clear q6
  obtain ⟨kq, x16_1, rfl, HA, HJ1, ⟨mc1, rfl⟩⟩ := hcut
  cases kq with
  | zero => exact absurd HA.out (by simp [Qaq.j0])
  | succ kj1 =>
   have H := HA.out
   clear HA
   simp only [Qaq.j0] at H
   by_cases c8 : x16_1 = F
   ·subst c8
    have H1 : (some J) = some r := by rw [if_pos rfl] at H; exact H
    clear H
    have H := H1
    clear H1
    obtain rfl := Option.some.inj H
    go_wp2
    go_ret
    exact ⟨Zs, Zd⟩
   replace c8 := Bool.eq_false_iff.mpr c8
   subst c8
   have H1 : (Qaq.l0 kj1 a0 (a0.size : Int) 0) = some r := by rw [if_neg (show ¬ (J = F) by decide)] at H; exact H
   clear H
   have H := H1
   clear H1
   have H' := Aside0.mk H
   clear H
   go_wp2
   go_loopg [19] kj1 (fun kq v19 w' => ∃ (x19_2 : Int), v19 = .int .i64 x19_2 ∧ Aside0 (Qaq.l0 kq a0 (a0.size : Int) x19_2 = some r) ∧ Aside0 (kq ≤ kj1) ∧ Drawn0 w w')
   case atStart => exact ⟨(0), (Zs), H', ⟨Nat.le_refl _⟩, Zd⟩
   case round =>
    clear H'
    try clear c1
    try clear p2
    try clear c3
    try clear c3b0
    try clear c3b1
    try clear c4
    try clear c4b0
    try clear c4b1
    try clear c5
    try clear c5b0
    try clear c5b1
    try clear p6
    try clear q6
    try clear hx6
    try clear qi6
    try clear c8
    try clear p2
    try clear p6
    try clear q6
    obtain ⟨x19_2, rfl, HA, HK2, ⟨m2, rfl⟩⟩ := hrel
    cases gk with
    | zero => exact absurd HA.out (by simp [Qaq.l0])
    | succ k2 =>
     have H := HA.out
     clear HA
     simp only [Qaq.l0] at H
     by_cases c9 : x19_2 < (a0.size : Int)
     ·rw [if_pos c9] at H
      have c9b0 : decide (x19_2 < (a0.size : Int)) = F := decide_eq_true c9
      clear c9
      (try simp only [c9b0])
      by_cases c10 : 0 ≤ x19_2
      ·rw [if_pos c10] at H
       have c10b0 : decide (0 ≤ x19_2) = F := decide_eq_true c10
       clear c10
       by_cases c11 : x19_2 < (a0.size : Int)
       ·rw [if_pos c11] at H
        have c11b0 : decide (x19_2 < (a0.size : Int)) = F := decide_eq_true c11
        clear c11
        replace H := Option.bind_eq_some_iff.mp H
        obtain ⟨t102, A130, H⟩ := H
        replace H : (if t102 = F then (Qaq.l0 k2 a0 (a0.size : Int) (wrap64 (x19_2 + 1))) else ((Qbh.f (bt a0 x19_2)).bind fun t103 => (if t103 = F then (Qaq.l0 k2 a0 (a0.size : Int) (wrap64 (x19_2 + 1))) else (some J)))) = some r := H
        have A13 := Aside0.mk A130
        clear A130
        by_cases c14 : t102 = F
        ·subst c14
         have H1 : (Qaq.l0 k2 a0 (a0.size : Int) (wrap64 (x19_2 + 1))) = some r := by rw [if_pos rfl] at H; exact H
         clear H
         have H := H1
         clear H1
         have H' := Aside0.mk H
         clear H
         have p12 : 0 ≤ (x19_2 : Int) := Ze
         have q12 : x19_2 < (a0.size : Int) := Ze
         have hx12 := bt_at a0 x19_2
         replace p12 := eq_true p12
         replace q12 := eq_true q12
         go_wp2_with (first | ((with_reducible refine QaD (f := 99) rfl ?_); refine goesL_ (some 25) rfl rfl Try.func99 (by kernel_rfl) rfl #[.int .u8 (bt a0 x19_2)] rfl (Zl) ?_; (with_reducible refine (Qa9.calls (bt a0 x19_2) F _ A13.out).mono ?_); rintro e w' ⟨rfl, ⟨nd, rfl⟩⟩; refine ⟨_, rfl, ?_⟩))
         go_roundg k2
         case measure => have := HJ1.out; have := HK2.out; omega
         case rel => exact ⟨(wrap64 (x19_2 + 1)), (Zs), H', ⟨by have := HJ1.out; have := HK2.out; omega⟩, Zd⟩
        replace c14 := Bool.eq_false_iff.mpr c14
        subst c14
        have H1 : ((Qbh.f (bt a0 x19_2)).bind fun t103 => (if t103 = F then (Qaq.l0 k2 a0 (a0.size : Int) (wrap64 (x19_2 + 1))) else (some J))) = some r := by rw [if_neg (show ¬ (J = F) by decide)] at H; exact H
        clear H
        have H := H1
        clear H1
        replace H := Option.bind_eq_some_iff.mp H
        obtain ⟨t103, A160, H⟩ := H
        replace H : (if t103 = F then (Qaq.l0 k2 a0 (a0.size : Int) (wrap64 (x19_2 + 1))) else (some J)) = some r := H
        have A16 := Aside0.mk A160
        clear A160
        have p12 : 0 ≤ (x19_2 : Int) := Ze
        have q12 : x19_2 < (a0.size : Int) := Ze
        have hx12 := bt_at a0 x19_2
        replace p12 := eq_true p12
        replace q12 := eq_true q12
        go_upto_if 33 with (first | ((with_reducible refine QaD (f := 99) rfl ?_); refine goesL_ (some 25) rfl rfl Try.func99 (by kernel_rfl) rfl #[.int .u8 (bt a0 x19_2)] rfl (Zl) ?_; (with_reducible refine (Qa9.calls (bt a0 x19_2) J _ A13.out).mono ?_); rintro e w' ⟨rfl, ⟨nd, rfl⟩⟩; refine ⟨_, rfl, ?_⟩; have p15 : 0 ≤ (x19_2 : Int) := Ze; have q15 : x19_2 < (a0.size : Int) := Ze; have hx15 := bt_at a0 x19_2; replace p15 := eq_true p15; replace q15 := eq_true q15) | (go_at_call 100; (with_reducible refine (Qbh.calls (bt a0 x19_2) t103 _ A16.out).mono ?_); rintro e w' ⟨rfl, ⟨nd, rfl⟩⟩))
        (try simp only [Act.put, Zj, Zk, Zm])
        by_cases c17 : t103 = F
        ·subst c17
         have H1 : (Qaq.l0 k2 a0 (a0.size : Int) (wrap64 (x19_2 + 1))) = some r := by rw [if_pos rfl] at H; exact H
         clear H
         have H := H1
         clear H1
         have H' := Aside0.mk H
         clear H
         go_wp2
         go_roundg k2
         case measure => have := HJ1.out; have := HK2.out; omega
         case rel => exact ⟨(wrap64 (x19_2 + 1)), (Zs), H', ⟨by have := HJ1.out; have := HK2.out; omega⟩, Zd⟩
        replace c17 := Bool.eq_false_iff.mpr c17
        subst c17
        have H1 : (some J) = some r := by rw [if_neg (show ¬ (J = F) by decide)] at H; exact H
        clear H
        have H := H1
        clear H1
        obtain rfl := Option.some.inj H
        go_wp2
        go_ret
        exact ⟨Zs, Zd⟩
       rw [if_neg c11] at H
       exact absurd H (by simp)
      rw [if_neg c10] at H
      exact absurd H (by simp)
     rw [if_neg c9] at H
     have c9b0 : decide (x19_2 < (a0.size : Int)) = J := decide_eq_false c9
     clear c9
     (try simp only [c9b0])
     obtain rfl := Option.some.inj H
     go_wp2
     go_ret
     exact ⟨Zs, Zd⟩
def QaX.f (a0 : Int) : Option (Bool) := if a0 ≥ 1 then (some (decide (a0 ≤ 1000))) else (some J)
set_option maxHeartbeats 8000000 in
theorem QaX.calls (a0 : Int) (r : Bool) (w : World) (h : QaX.f a0 = some r) :
  Calls Try.prog 83 #[.int .i64 a0] w fun e w' => e = .returned (.bool r) ∧ Drawn0 w w' := by
 have H : (if a0 ≥ 1 then (some (decide (a0 ≤ 1000))) else (some J)) = some r := h
 clear h
 by_cases c2 : a0 ≥ 1
 ·rw [if_pos c2] at H
  have c2b0 : decide (1 ≤ a0) = F := decide_eq_true c2
  clear c2
  obtain rfl := Option.some.inj H
  go_enter Try.func83, Try.ntmps83
  go_wp2
  go_ret
  exact ⟨Zs, Zd⟩
 rw [if_neg c2] at H
 have c2b0 : decide (1 ≤ a0) = J := decide_eq_false c2
 clear c2
 obtain rfl := Option.some.inj H
 go_enter Try.func83, Try.ntmps83
 go_wp2
 go_ret
 exact ⟨Zs, Zd⟩
mutual
def Qap.l0 : Nat → List (S75) → Int → Int → Option (Int)
 | 0, _, _, _ => none
 | k + 1, x8, x9, x10 => if x10 < x9 then (if 0 ≤ x10 then (if x10 < (x8.length : Int) then ((Qaq.f k ((rd_T75 x8 x10).f0)).bind fun t769 => (if t769 = F then ((Qaq.f k ((rd_T75 x8 x10).f1)).bind fun t770 => (if t770 = F then (Qap.j1 k x8 x9 x10 (((rd_T75 x8 x10).f0).toList == ((rd_T75 x8 x10).f1).toList) ((rd_T75 x8 x10).f0) ((rd_T75 x8 x10).f1) ((rd_T75 x8 x10).f2) ((rd_T75 x8 x10).f3) ((rd_T75 x8 x10).f4)) else (Qap.j1 k x8 x9 x10 F ((rd_T75 x8 x10).f0) ((rd_T75 x8 x10).f1) ((rd_T75 x8 x10).f2) ((rd_T75 x8 x10).f3) ((rd_T75 x8 x10).f4)))) else (Qap.j1 k x8 x9 x10 F ((rd_T75 x8 x10).f0) ((rd_T75 x8 x10).f1) ((rd_T75 x8 x10).f2) ((rd_T75 x8 x10).f3) ((rd_T75 x8 x10).f4)))) else (none)) else (none)) else (some 0)
def Qap.j1 : Nat → List (S75) → Int → Int → Bool → ByteArray → ByteArray → Int → Int → Int → Option (Int)
 | 0, _, _, _, _, _, _, _, _, _ => none
 | k + 1, x8, x9, x10, x30, x769000, x769001, x769002, x769003, x769004 => if x30 = F then (some 10) else ((QaX.f x769002).bind fun t771 => (if t771 = F then ((QaX.f x769003).bind fun t772 => (if t772 = F then (if x769004 < 0 then (some 2) else (if x769004 > 1000 then (some 2) else (Qap.l0 k x8 x9 (wrap64 (x10 + 1))))) else (some 2))) else (some 2)))
end
def Qap.f (k : Nat) (l0 : List (S75)) : Option (Int) := if (l0.length : Int) > 1024 then (some 8) else (Qap.l0 k l0 (l0.length : Int) 0)
theorem Qap.mono_l : ∀ k, (∀ y0 y1 y2, LeO (Qap.l0 k y0 y1 y2) (Qap.l0 (k + 1) y0 y1 y2)) ∧ (∀ y0 y1 y2 y3 y4 y5 y6 y7 y8, LeO (Qap.j1 k y0 y1 y2 y3 y4 y5 y6 y7 y8) (Qap.j1 (k + 1) y0 y1 y2 y3 y4 y5 y6 y7 y8))
 | 0 => ⟨fun _ _ _ r h => by simp [Qap.l0] at h, fun _ _ _ _ _ _ _ _ _ r h => by simp [Qap.j1] at h⟩
 | k + 1 => by
  obtain ⟨ih0, ih1⟩ := Qap.mono_l k
  refine ⟨?_, ?_⟩
  ·intro y0 y1 y2
   unfold Qap.l0
   exact ZM3 ih0 ih1 Qaq.mono
  intro y0 y1 y2 y3 y4 y5 y6 y7 y8
  unfold Qap.j1
  exact ZM3 ih0 ih1 Qaq.mono
theorem Qap.mono : ∀ a0 k, LeO (Qap.f k a0) (Qap.f (k + 1) a0) := by
 intro a0 k
 obtain ⟨ih0, ih1⟩ := Qap.mono_l k
 unfold Qap.f
 exact ZM3 ih0 ih1 Qaq.mono
set_option maxHeartbeats 8000000 in
theorem Qap.calls (k : Nat) (A0 : Option Addr) (c0 : Nat) (l0 : List (S75)) (r : Int) (w : World) (hr0 : Kd.C k75 w A0 l0.length l0) (hc0 : l0.length ≤ c0) (h : Qap.f k l0 = some r) :
  Calls Try.prog 44 #[.slice A0 l0.length c0] w fun e w' => e = .returned (.int .i64 r) ∧ Below w.heap.size w w' := by
 have hu75 := Try.underlying75
 have HR0 := Aside0.mk hr0
 have HC0 := Aside0.mk hc0
 clear hr0 hc0
 have HB := Aside0.mk (Below.refl w.heap.size w)
 have H : (if (l0.length : Int) > 1024 then (some 8) else (Qap.l0 k l0 (l0.length : Int) 0)) = some r := h
 clear h
 by_cases c2 : (l0.length : Int) > 1024
 ·rw [if_pos c2] at H
  have c2b0 : decide (1024 < (l0.length : Int)) = F := decide_eq_true c2
  have c2b1 : decide (1024 < l0.length) = F := decide_eq_true (by omega)
  clear c2
  obtain rfl := Option.some.inj H
  go_enter Try.func44, Try.ntmps44
  go_wp2
  go_ret
  exact ⟨Zq, Zb⟩
 rw [if_neg c2] at H
 have c2b0 : decide (1024 < (l0.length : Int)) = J := decide_eq_false c2
 have c2b1 : decide (1024 < l0.length) = J := decide_eq_false (by omega)
 clear c2
 have H' := Aside0.mk H
 clear H
 go_enter Try.func44, Try.ntmps44
 go_wp2
 go_loopg [10] k (fun kq v10 w' => ∃ (x10_1 : Int), v10 = .int .i64 x10_1 ∧ Aside0 (Qap.l0 kq l0 (l0.length : Int) x10_1 = some r) ∧ Aside0 (kq ≤ k) ∧ Aside0 (Below w.heap.size w w'))
 case atStart => exact ⟨(0), (Zs), H', ⟨Nat.le_refl _⟩, ⟨Zb⟩⟩
 case round =>
  clear H'
  try clear c2
  try clear c2b0
  try clear c2b1
  try clear p2
  obtain ⟨x10_1, rfl, HA, HK1, HB⟩ := hrel
  cases gk with
  | zero => exact absurd HA.out (by simp [Qap.l0])
  | succ k1 =>
   have H := HA.out
   clear HA
   simp only [Qap.l0] at H
   by_cases c3 : x10_1 < (l0.length : Int)
   ·rw [if_pos c3] at H
    have c3b0 : decide (x10_1 < (l0.length : Int)) = F := decide_eq_true c3
    clear c3
    (try simp only [c3b0])
    by_cases c4 : 0 ≤ x10_1
    ·rw [if_pos c4] at H
     have c4b0 : decide (0 ≤ x10_1) = F := decide_eq_true c4
     clear c4
     by_cases c5 : x10_1 < (l0.length : Int)
     ·rw [if_pos c5] at H
      have c5b0 : decide (x10_1 < (l0.length : Int)) = F := decide_eq_true c5
      clear c5
      have HC6 := Aside0.mk H
      clear H
      have p767 : 0 ≤ (x10_1 : Int) := Ze
      have q767 : x10_1 < (l0.length : Int) := Ze
      obtain ⟨ad767, e767, hx767_0, hx767_1, hx767_2, hx767_3, hx767_4⟩ := at_T75 HR0.out x10_1 p767 q767
      cases e767
      replace hx767_0 := Zx HB.out hx767_0
      replace hx767_1 := Zx HB.out hx767_1
      replace hx767_2 := Zx HB.out hx767_2
      replace hx767_3 := Zx HB.out hx767_3
      replace hx767_4 := Zx HB.out hx767_4
      replace p767 := eq_true p767
      replace q767 := eq_true q767
      go_upto_region 6 with (first | ((with_reducible refine QaI (N := 4) rfl ?_); refine Zbx (N := 4) (cs := #[.string (⟨#[]⟩ : ByteArray), .string (⟨#[]⟩ : ByteArray), .int .i64 0, .int .i64 0, .int .i64 0]) (t := 75) ?_; intro gb768 hg w7 hbox hb; have BK768 := Aside0.mk (hbox); have GW768 := Aside0.mk (Zt w hg (Zb)); have GE768 := GW768; replace HB := Aside0.mk (Qao (Zb) hb); clear hb hbox hg; obtain ⟨hcz8_0, hfz8_0⟩ := Zy (v := (.string (⟨#[]⟩ : ByteArray))) BK768.out 0; obtain ⟨hcz8_1, hfz8_1⟩ := Zy (v := (.string (⟨#[]⟩ : ByteArray))) BK768.out 1; obtain ⟨hcz8_2, hfz8_2⟩ := Zy (v := (.int .i64 0)) BK768.out 2; obtain ⟨hcz8_3, hfz8_3⟩ := Zy (v := (.int .i64 0)) BK768.out 3; obtain ⟨hcz8_4, hfz8_4⟩ := Zy (v := (.int .i64 0)) BK768.out 4))
      (try simp only [Act.put, Zj, Zk, Zm])
      go_cut [30] (fun v30 wc => ∃ (kq : Nat) (x30_5 : Bool), v30 = .bool x30_5 ∧ Aside0 (Qap.j1 kq l0 (l0.length : Int) x10_1 x30_5 ((rd_T75 l0 x10_1).f0) ((rd_T75 l0 x10_1).f1) ((rd_T75 l0 x10_1).f2) ((rd_T75 l0 x10_1).f3) ((rd_T75 l0 x10_1).f4) = some r) ∧ Aside0 (kq ≤ k1) ∧ Aside0 (wc.heap[gb768]? = some (.cells #[.string ((rd_T75 l0 x10_1).f0), .string ((rd_T75 l0 x10_1).f1), .int .i64 ((rd_T75 l0 x10_1).f2), .int .i64 ((rd_T75 l0 x10_1).f3), .int .i64 ((rd_T75 l0 x10_1).f4)] 75 (0, 0))) ∧ Aside0 (Below w.heap.size w wc))
      case first =>
       have H := HC6.out
       clear HC6
       replace H := Option.bind_eq_some_iff.mp H
       obtain ⟨t769, A90, H⟩ := H
       replace H : (if t769 = F then ((Qaq.f k1 ((rd_T75 l0 x10_1).f1)).bind fun t770 => (if t770 = F then (Qap.j1 k1 l0 (l0.length : Int) x10_1 (((rd_T75 l0 x10_1).f0).toList == ((rd_T75 l0 x10_1).f1).toList) ((rd_T75 l0 x10_1).f0) ((rd_T75 l0 x10_1).f1) ((rd_T75 l0 x10_1).f2) ((rd_T75 l0 x10_1).f3) ((rd_T75 l0 x10_1).f4)) else (Qap.j1 k1 l0 (l0.length : Int) x10_1 F ((rd_T75 l0 x10_1).f0) ((rd_T75 l0 x10_1).f1) ((rd_T75 l0 x10_1).f2) ((rd_T75 l0 x10_1).f3) ((rd_T75 l0 x10_1).f4)))) else (Qap.j1 k1 l0 (l0.length : Int) x10_1 F ((rd_T75 l0 x10_1).f0) ((rd_T75 l0 x10_1).f1) ((rd_T75 l0 x10_1).f2) ((rd_T75 l0 x10_1).f3) ((rd_T75 l0 x10_1).f4))) = some r := H
       have A9 := Aside0.mk A90
       clear A90
       by_cases c10 : t769 = F
       ·subst c10
        have H1 : ((Qaq.f k1 ((rd_T75 l0 x10_1).f1)).bind fun t770 => (if t770 = F then (Qap.j1 k1 l0 (l0.length : Int) x10_1 (((rd_T75 l0 x10_1).f0).toList == ((rd_T75 l0 x10_1).f1).toList) ((rd_T75 l0 x10_1).f0) ((rd_T75 l0 x10_1).f1) ((rd_T75 l0 x10_1).f2) ((rd_T75 l0 x10_1).f3) ((rd_T75 l0 x10_1).f4)) else (Qap.j1 k1 l0 (l0.length : Int) x10_1 F ((rd_T75 l0 x10_1).f0) ((rd_T75 l0 x10_1).f1) ((rd_T75 l0 x10_1).f2) ((rd_T75 l0 x10_1).f3) ((rd_T75 l0 x10_1).f4)))) = some r := by rw [if_pos rfl] at H; exact H
        clear H
        have H := H1
        clear H1
        replace H := Option.bind_eq_some_iff.mp H
        obtain ⟨t770, A110, H⟩ := H
        replace H : (if t770 = F then (Qap.j1 k1 l0 (l0.length : Int) x10_1 (((rd_T75 l0 x10_1).f0).toList == ((rd_T75 l0 x10_1).f1).toList) ((rd_T75 l0 x10_1).f0) ((rd_T75 l0 x10_1).f1) ((rd_T75 l0 x10_1).f2) ((rd_T75 l0 x10_1).f3) ((rd_T75 l0 x10_1).f4)) else (Qap.j1 k1 l0 (l0.length : Int) x10_1 F ((rd_T75 l0 x10_1).f0) ((rd_T75 l0 x10_1).f1) ((rd_T75 l0 x10_1).f2) ((rd_T75 l0 x10_1).f3) ((rd_T75 l0 x10_1).f4))) = some r := H
        have A11 := Aside0.mk A110
        clear A110
        by_cases c12 : t770 = F
        ·subst c12
         have H1 : (Qap.j1 k1 l0 (l0.length : Int) x10_1 (((rd_T75 l0 x10_1).f0).toList == ((rd_T75 l0 x10_1).f1).toList) ((rd_T75 l0 x10_1).f0) ((rd_T75 l0 x10_1).f1) ((rd_T75 l0 x10_1).f2) ((rd_T75 l0 x10_1).f3) ((rd_T75 l0 x10_1).f4)) = some r := by rw [if_pos rfl] at H; exact H
         clear H
         have H := H1
         clear H1
         have H' := Aside0.mk H
         clear H
         obtain ⟨hcz13_0, hfz13_0⟩ := Zy (v := (.string (⟨#[]⟩ : ByteArray))) BK768.out 0
         obtain ⟨hcz13_1, hfz13_1⟩ := Zy (v := (.string (⟨#[]⟩ : ByteArray))) BK768.out 1
         obtain ⟨hcz13_2, hfz13_2⟩ := Zy (v := (.int .i64 0)) BK768.out 2
         obtain ⟨hcz13_3, hfz13_3⟩ := Zy (v := (.int .i64 0)) BK768.out 3
         obtain ⟨hcz13_4, hfz13_4⟩ := Zy (v := (.int .i64 0)) BK768.out 4
         go_wp2_with (first | ((with_reducible refine QaD (f := 82) rfl ?_); refine goesL_ (some 16) rfl rfl Try.func82 (by kernel_rfl) rfl #[.string ((rd_T75 l0 x10_1).f0)] rfl (Zl) ?_; (with_reducible refine (Qaq.calls k1 ((rd_T75 l0 x10_1).f0) F _ A9.out).mono ?_); rintro e w' ⟨rfl, ⟨nd, rfl⟩⟩; refine ⟨_, rfl, ?_⟩) | (go_at_call 82; (with_reducible refine (Qaq.calls k1 ((rd_T75 l0 x10_1).f1) F _ A11.out).mono ?_); rintro e w' ⟨rfl, ⟨nd, rfl⟩⟩))
         go_meet
         case rel => exact ⟨_, ((((rd_T75 l0 x10_1).f0).toList == ((rd_T75 l0 x10_1).f1).toList)), (Zs), H', ⟨by have := HK1.out; first | omega | exact Nat.le_refl _⟩, ⟨Zp2 BK768.out⟩, ⟨Zc1 GE768.out⟩⟩
        replace c12 := Bool.eq_false_iff.mpr c12
        subst c12
        have H1 : (Qap.j1 k1 l0 (l0.length : Int) x10_1 F ((rd_T75 l0 x10_1).f0) ((rd_T75 l0 x10_1).f1) ((rd_T75 l0 x10_1).f2) ((rd_T75 l0 x10_1).f3) ((rd_T75 l0 x10_1).f4)) = some r := by rw [if_neg (show ¬ (J = F) by decide)] at H; exact H
        clear H
        have H := H1
        clear H1
        have H' := Aside0.mk H
        clear H
        obtain ⟨hcz14_0, hfz14_0⟩ := Zy (v := (.string (⟨#[]⟩ : ByteArray))) BK768.out 0
        obtain ⟨hcz14_1, hfz14_1⟩ := Zy (v := (.string (⟨#[]⟩ : ByteArray))) BK768.out 1
        obtain ⟨hcz14_2, hfz14_2⟩ := Zy (v := (.int .i64 0)) BK768.out 2
        obtain ⟨hcz14_3, hfz14_3⟩ := Zy (v := (.int .i64 0)) BK768.out 3
        obtain ⟨hcz14_4, hfz14_4⟩ := Zy (v := (.int .i64 0)) BK768.out 4
        go_wp2_with (first | ((with_reducible refine QaD (f := 82) rfl ?_); refine goesL_ (some 16) rfl rfl Try.func82 (by kernel_rfl) rfl #[.string ((rd_T75 l0 x10_1).f0)] rfl (Zl) ?_; (with_reducible refine (Qaq.calls k1 ((rd_T75 l0 x10_1).f0) F _ A9.out).mono ?_); rintro e w' ⟨rfl, ⟨nd, rfl⟩⟩; refine ⟨_, rfl, ?_⟩) | (go_at_call 82; (with_reducible refine (Qaq.calls k1 ((rd_T75 l0 x10_1).f1) J _ A11.out).mono ?_); rintro e w' ⟨rfl, ⟨nd, rfl⟩⟩))
        go_meet
        case rel => exact ⟨_, (F), (Zs), H', ⟨by have := HK1.out; first | omega | exact Nat.le_refl _⟩, ⟨Zp2 BK768.out⟩, ⟨Zc1 GE768.out⟩⟩
       replace c10 := Bool.eq_false_iff.mpr c10
       subst c10
       have H1 : (Qap.j1 k1 l0 (l0.length : Int) x10_1 F ((rd_T75 l0 x10_1).f0) ((rd_T75 l0 x10_1).f1) ((rd_T75 l0 x10_1).f2) ((rd_T75 l0 x10_1).f3) ((rd_T75 l0 x10_1).f4)) = some r := by rw [if_neg (show ¬ (J = F) by decide)] at H; exact H
       clear H
       have H := H1
       clear H1
       have H' := Aside0.mk H
       clear H
       obtain ⟨hcz15_0, hfz15_0⟩ := Zy (v := (.string (⟨#[]⟩ : ByteArray))) BK768.out 0
       obtain ⟨hcz15_1, hfz15_1⟩ := Zy (v := (.string (⟨#[]⟩ : ByteArray))) BK768.out 1
       obtain ⟨hcz15_2, hfz15_2⟩ := Zy (v := (.int .i64 0)) BK768.out 2
       obtain ⟨hcz15_3, hfz15_3⟩ := Zy (v := (.int .i64 0)) BK768.out 3
       obtain ⟨hcz15_4, hfz15_4⟩ := Zy (v := (.int .i64 0)) BK768.out 4
       go_wp2_with (first | ((with_reducible refine QaD (f := 82) rfl ?_); refine goesL_ (some 16) rfl rfl Try.func82 (by kernel_rfl) rfl #[.string ((rd_T75 l0 x10_1).f0)] rfl (Zl) ?_; (with_reducible refine (Qaq.calls k1 ((rd_T75 l0 x10_1).f0) J _ A9.out).mono ?_); rintro e w' ⟨rfl, ⟨nd, rfl⟩⟩; refine ⟨_, rfl, ?_⟩))
       go_meet
       case rel => exact ⟨_, (F), (Zs), H', ⟨by have := HK1.out; first | omega | exact Nat.le_refl _⟩, ⟨Zp2 BK768.out⟩, ⟨Zc1 GE768.out⟩⟩
      case rest =>
       clear HC6
       try clear c1
       try clear c2
       try clear c2b0
       try clear c2b1
       try clear p2
       try clear c3
       try clear c3b0
       try clear c4
       try clear c4b0
       try clear c5
       try clear c5b0
       try clear p7
       try clear q7
       try clear hx7
       try clear c8
       try clear c10
       try clear c12
       try clear hcz13_0
       try clear hcz13_1
       try clear hcz13_2
       try clear hcz13_3
       try clear hcz13_4
       try clear hcz14_0
       try clear hcz14_1
       try clear hcz14_2
       try clear hcz14_3
       try clear hcz14_4
       try clear hcz15_0
       try clear hcz15_1
       try clear hcz15_2
       try clear hcz15_3
       try clear hcz15_4
       try clear hcz8_0
       try clear hcz8_1
       try clear hcz8_2
       try clear hcz8_3
       try clear hcz8_4
       try clear hfz13_0
       try clear hfz13_1
       try clear hfz13_2
       try clear hfz13_3
       try clear hfz13_4
       try clear hfz14_0
       try clear hfz14_1
       try clear hfz14_2
       try clear hfz14_3
       try clear hfz14_4
       try clear hfz15_0
       try clear hfz15_1
       try clear hfz15_2
       try clear hfz15_3
       try clear hfz15_4
       try clear hfz8_0
       try clear hfz8_1
       try clear hfz8_2
       try clear hfz8_3
       try clear hfz8_4
       try clear hx767_0
       try clear hx767_1
       try clear hx767_2
       try clear hx767_3
       try clear hx767_4
       try clear p2
       try clear p767
       try clear q767
       obtain ⟨kq, x30_5, rfl, HA, HJ5, BK768, HB⟩ := hcut
       cases kq with
       | zero => exact absurd HA.out (by simp [Qap.j1])
       | succ kj5 =>
        have H := HA.out
        clear HA
        simp only [Qap.j1] at H
        by_cases c16 : x30_5 = F
        ·subst c16
         have H1 : (some 10) = some r := by rw [if_pos rfl] at H; exact H
         clear H
         have H := H1
         clear H1
         obtain rfl := Option.some.inj H
         go_wp2
         go_ret
         exact ⟨Zq, Zc1 GE768.out⟩
        replace c16 := Bool.eq_false_iff.mpr c16
        subst c16
        have H1 : ((QaX.f ((rd_T75 l0 x10_1).f2)).bind fun t771 => (if t771 = F then ((QaX.f ((rd_T75 l0 x10_1).f3)).bind fun t772 => (if t772 = F then (if ((rd_T75 l0 x10_1).f4) < 0 then (some 2) else (if ((rd_T75 l0 x10_1).f4) > 1000 then (some 2) else (Qap.l0 kj5 l0 (l0.length : Int) (wrap64 (x10_1 + 1))))) else (some 2))) else (some 2))) = some r := by rw [if_neg (show ¬ (J = F) by decide)] at H; exact H
        clear H
        have H := H1
        clear H1
        replace H := Option.bind_eq_some_iff.mp H
        obtain ⟨t771, A170, H⟩ := H
        replace H : (if t771 = F then ((QaX.f ((rd_T75 l0 x10_1).f3)).bind fun t772 => (if t772 = F then (if ((rd_T75 l0 x10_1).f4) < 0 then (some 2) else (if ((rd_T75 l0 x10_1).f4) > 1000 then (some 2) else (Qap.l0 kj5 l0 (l0.length : Int) (wrap64 (x10_1 + 1))))) else (some 2))) else (some 2)) = some r := H
        have A17 := Aside0.mk A170
        clear A170
        by_cases c18 : t771 = F
        ·subst c18
         have H1 : ((QaX.f ((rd_T75 l0 x10_1).f3)).bind fun t772 => (if t772 = F then (if ((rd_T75 l0 x10_1).f4) < 0 then (some 2) else (if ((rd_T75 l0 x10_1).f4) > 1000 then (some 2) else (Qap.l0 kj5 l0 (l0.length : Int) (wrap64 (x10_1 + 1))))) else (some 2))) = some r := by rw [if_pos rfl] at H; exact H
         clear H
         have H := H1
         clear H1
         replace H := Option.bind_eq_some_iff.mp H
         obtain ⟨t772, A190, H⟩ := H
         replace H : (if t772 = F then (if ((rd_T75 l0 x10_1).f4) < 0 then (some 2) else (if ((rd_T75 l0 x10_1).f4) > 1000 then (some 2) else (Qap.l0 kj5 l0 (l0.length : Int) (wrap64 (x10_1 + 1))))) else (some 2)) = some r := H
         have A19 := Aside0.mk A190
         clear A190
         by_cases c20 : t772 = F
         ·subst c20
          have H1 : (if ((rd_T75 l0 x10_1).f4) < 0 then (some 2) else (if ((rd_T75 l0 x10_1).f4) > 1000 then (some 2) else (Qap.l0 kj5 l0 (l0.length : Int) (wrap64 (x10_1 + 1))))) = some r := by rw [if_pos rfl] at H; exact H
          clear H
          have H := H1
          clear H1
          by_cases c21 : ((rd_T75 l0 x10_1).f4) < 0
          ·rw [if_pos c21] at H
           have c21b0 : decide (((rd_T75 l0 x10_1).f4) < 0) = F := decide_eq_true c21
           clear c21
           obtain rfl := Option.some.inj H
           obtain ⟨hcz22_0, hfz22_0⟩ := Zy (v := (.string ((rd_T75 l0 x10_1).f0))) BK768.out 0
           obtain ⟨hcz22_1, hfz22_1⟩ := Zy (v := (.string ((rd_T75 l0 x10_1).f1))) BK768.out 1
           obtain ⟨hcz22_2, hfz22_2⟩ := Zy (v := (.int .i64 ((rd_T75 l0 x10_1).f2))) BK768.out 2
           obtain ⟨hcz22_3, hfz22_3⟩ := Zy (v := (.int .i64 ((rd_T75 l0 x10_1).f3))) BK768.out 3
           obtain ⟨hcz22_4, hfz22_4⟩ := Zy (v := (.int .i64 ((rd_T75 l0 x10_1).f4))) BK768.out 4
           go_wp2_with (first | ((with_reducible refine QaD (f := 83) rfl ?_); refine goesL_ (some 33) rfl rfl Try.func83 (by kernel_rfl) rfl #[.int .i64 ((rd_T75 l0 x10_1).f2)] rfl (Zl) ?_; (with_reducible refine (QaX.calls ((rd_T75 l0 x10_1).f2) F _ A17.out).mono ?_); rintro e w' ⟨rfl, ⟨nd, rfl⟩⟩; refine ⟨_, rfl, ?_⟩) | (go_at_call 83; (with_reducible refine (QaX.calls ((rd_T75 l0 x10_1).f3) F _ A19.out).mono ?_); rintro e w' ⟨rfl, ⟨nd, rfl⟩⟩))
           go_ret
           exact ⟨Zq, Zc1 GE768.out⟩
          rw [if_neg c21] at H
          have c21b0 : decide (((rd_T75 l0 x10_1).f4) < 0) = J := decide_eq_false c21
          clear c21
          obtain ⟨hcz23_0, hfz23_0⟩ := Zy (v := (.string ((rd_T75 l0 x10_1).f0))) BK768.out 0
          obtain ⟨hcz23_1, hfz23_1⟩ := Zy (v := (.string ((rd_T75 l0 x10_1).f1))) BK768.out 1
          obtain ⟨hcz23_2, hfz23_2⟩ := Zy (v := (.int .i64 ((rd_T75 l0 x10_1).f2))) BK768.out 2
          obtain ⟨hcz23_3, hfz23_3⟩ := Zy (v := (.int .i64 ((rd_T75 l0 x10_1).f3))) BK768.out 3
          obtain ⟨hcz23_4, hfz23_4⟩ := Zy (v := (.int .i64 ((rd_T75 l0 x10_1).f4))) BK768.out 4
          go_upto_if 50 with (first | ((with_reducible refine QaD (f := 83) rfl ?_); refine goesL_ (some 33) rfl rfl Try.func83 (by kernel_rfl) rfl #[.int .i64 ((rd_T75 l0 x10_1).f2)] rfl (Zl) ?_; (with_reducible refine (QaX.calls ((rd_T75 l0 x10_1).f2) F _ A17.out).mono ?_); rintro e w' ⟨rfl, ⟨nd, rfl⟩⟩; refine ⟨_, rfl, ?_⟩) | (go_at_call 83; (with_reducible refine (QaX.calls ((rd_T75 l0 x10_1).f3) F _ A19.out).mono ?_); rintro e w' ⟨rfl, ⟨nd, rfl⟩⟩))
          (try simp only [Act.put, Zj, Zk, Zm])
          by_cases c24 : ((rd_T75 l0 x10_1).f4) > 1000
          ·rw [if_pos c24] at H
           have c24b0 : decide (1000 < ((rd_T75 l0 x10_1).f4)) = F := decide_eq_true c24
           clear c24
           (try simp only [c24b0])
           obtain rfl := Option.some.inj H
           go_wp2
           go_ret
           exact ⟨Zq, Zc1 GE768.out⟩
          rw [if_neg c24] at H
          have c24b0 : decide (1000 < ((rd_T75 l0 x10_1).f4)) = J := decide_eq_false c24
          clear c24
          (try simp only [c24b0])
          have H' := Aside0.mk H
          clear H
          go_wp2
          go_roundg kj5
          case measure => have := HK1.out; have := HJ5.out; omega
          case rel => exact ⟨(wrap64 (x10_1 + 1)), (Zs), H', ⟨by have := HK1.out; have := HJ5.out; omega⟩, ⟨Zc1 GE768.out⟩⟩
         replace c20 := Bool.eq_false_iff.mpr c20
         subst c20
         have H1 : (some 2) = some r := by rw [if_neg (show ¬ (J = F) by decide)] at H; exact H
         clear H
         have H := H1
         clear H1
         obtain rfl := Option.some.inj H
         obtain ⟨hcz25_0, hfz25_0⟩ := Zy (v := (.string ((rd_T75 l0 x10_1).f0))) BK768.out 0
         obtain ⟨hcz25_1, hfz25_1⟩ := Zy (v := (.string ((rd_T75 l0 x10_1).f1))) BK768.out 1
         obtain ⟨hcz25_2, hfz25_2⟩ := Zy (v := (.int .i64 ((rd_T75 l0 x10_1).f2))) BK768.out 2
         obtain ⟨hcz25_3, hfz25_3⟩ := Zy (v := (.int .i64 ((rd_T75 l0 x10_1).f3))) BK768.out 3
         obtain ⟨hcz25_4, hfz25_4⟩ := Zy (v := (.int .i64 ((rd_T75 l0 x10_1).f4))) BK768.out 4
         go_wp2_with (first | ((with_reducible refine QaD (f := 83) rfl ?_); refine goesL_ (some 33) rfl rfl Try.func83 (by kernel_rfl) rfl #[.int .i64 ((rd_T75 l0 x10_1).f2)] rfl (Zl) ?_; (with_reducible refine (QaX.calls ((rd_T75 l0 x10_1).f2) F _ A17.out).mono ?_); rintro e w' ⟨rfl, ⟨nd, rfl⟩⟩; refine ⟨_, rfl, ?_⟩) | (go_at_call 83; (with_reducible refine (QaX.calls ((rd_T75 l0 x10_1).f3) J _ A19.out).mono ?_); rintro e w' ⟨rfl, ⟨nd, rfl⟩⟩))
         go_ret
         exact ⟨Zq, Zc1 GE768.out⟩
        replace c18 := Bool.eq_false_iff.mpr c18
        subst c18
        have H1 : (some 2) = some r := by rw [if_neg (show ¬ (J = F) by decide)] at H; exact H
        clear H
        have H := H1
        clear H1
        obtain rfl := Option.some.inj H
        obtain ⟨hcz26_0, hfz26_0⟩ := Zy (v := (.string ((rd_T75 l0 x10_1).f0))) BK768.out 0
        obtain ⟨hcz26_1, hfz26_1⟩ := Zy (v := (.string ((rd_T75 l0 x10_1).f1))) BK768.out 1
        obtain ⟨hcz26_2, hfz26_2⟩ := Zy (v := (.int .i64 ((rd_T75 l0 x10_1).f2))) BK768.out 2
        obtain ⟨hcz26_3, hfz26_3⟩ := Zy (v := (.int .i64 ((rd_T75 l0 x10_1).f3))) BK768.out 3
        obtain ⟨hcz26_4, hfz26_4⟩ := Zy (v := (.int .i64 ((rd_T75 l0 x10_1).f4))) BK768.out 4
        go_wp2_with (first | ((with_reducible refine QaD (f := 83) rfl ?_); refine goesL_ (some 33) rfl rfl Try.func83 (by kernel_rfl) rfl #[.int .i64 ((rd_T75 l0 x10_1).f2)] rfl (Zl) ?_; (with_reducible refine (QaX.calls ((rd_T75 l0 x10_1).f2) J _ A17.out).mono ?_); rintro e w' ⟨rfl, ⟨nd, rfl⟩⟩; refine ⟨_, rfl, ?_⟩))
        go_ret
        exact ⟨Zq, Zc1 GE768.out⟩
     rw [if_neg c5] at H
     exact absurd H (by simp)
    rw [if_neg c4] at H
    exact absurd H (by simp)
   rw [if_neg c3] at H
   have c3b0 : decide (x10_1 < (l0.length : Int)) = J := decide_eq_false c3
   clear c3
   (try simp only [c3b0])
   obtain rfl := Option.some.inj H
   go_wp2
   go_ret
   exact ⟨Zq, Zb⟩
mutual
def Qax.j0 : Nat → List ByteArray → List Int → List Int → Bool → Option (Bool)
 | 0, _, _, _, _ => none
 | k + 1, x0, x1, x2, x19 => if x19 = F then (some J) else (Qax.l0 k x0 x1 x2 (x0.length : Int) 0)
def Qax.l0 : Nat → List ByteArray → List Int → List Int → Int → Int → Option (Bool)
 | 0, _, _, _, _, _ => none
 | k + 1, x0, x1, x2, x21, x22 => if x22 < x21 then (if x22 > 0 then (if 0 ≤ x22 then (if x22 < (x0.length : Int) then (if 0 ≤ (wrap64 (x22 - 1)) then (if (wrap64 (x22 - 1)) < (x0.length : Int) then (if (Op.bytesLess ((rdOf ByteArray.empty x0 x22).toList) ((rdOf ByteArray.empty x0 (wrap64 (x22 - 1))).toList)) = F then (some J) else (if ((rdOf ByteArray.empty x0 x22).toList) = ((rdOf ByteArray.empty x0 (wrap64 (x22 - 1))).toList) then (some J) else (if x22 < (x1.length : Int) then (if (rd x1 x22) < (-1099511627776) then (some J) else (if (rd x1 x22) > 1099511627776 then (some J) else (if x22 < (x2.length : Int) then (if (rd x2 x22) < 0 then (some J) else (if (rd x2 x22) > 1152921504606846976 then (some J) else (Qax.l0 k x0 x1 x2 x21 (wrap64 (x22 + 1))))) else (none)))) else (none)))) else (none)) else (none)) else (none)) else (none)) else (if 0 ≤ x22 then (if x22 < (x1.length : Int) then (if (rd x1 x22) < (-1099511627776) then (some J) else (if (rd x1 x22) > 1099511627776 then (some J) else (if x22 < (x2.length : Int) then (if (rd x2 x22) < 0 then (some J) else (if (rd x2 x22) > 1152921504606846976 then (some J) else (Qax.l0 k x0 x1 x2 x21 (wrap64 (x22 + 1))))) else (none)))) else (none)) else (none))) else (some F)
end
def Qax.f (k : Nat) (l0 : List ByteArray) (l1 : List Int) (l2 : List Int) : Option (Bool) := if (l1.length : Int) = (l0.length : Int) then (Qax.j0 k l0 l1 l2 ((l2.length : Int) != (l0.length : Int))) else (Qax.j0 k l0 l1 l2 F)
theorem Qax.mono_l : ∀ k, (∀ y0 y1 y2 y3, LeO (Qax.j0 k y0 y1 y2 y3) (Qax.j0 (k + 1) y0 y1 y2 y3)) ∧ (∀ y0 y1 y2 y3 y4, LeO (Qax.l0 k y0 y1 y2 y3 y4) (Qax.l0 (k + 1) y0 y1 y2 y3 y4))
 | 0 => ⟨fun _ _ _ _ r h => by simp [Qax.j0] at h, fun _ _ _ _ _ r h => by simp [Qax.l0] at h⟩
 | k + 1 => by
  obtain ⟨ih0, ih1⟩ := Qax.mono_l k
  refine ⟨?_, ?_⟩
  ·intro y0 y1 y2 y3
   unfold Qax.j0
   exact ZM2 ih0 ih1
  intro y0 y1 y2 y3 y4
  unfold Qax.l0
  exact ZM2 ih0 ih1
theorem Qax.mono : ∀ a0 a1 a2 k, LeO (Qax.f k a0 a1 a2) (Qax.f (k + 1) a0 a1 a2) := by
 intro a0 a1 a2 k
 obtain ⟨ih0, ih1⟩ := Qax.mono_l k
 unfold Qax.f
 exact ZM2 ih0 ih1
set_option maxHeartbeats 8000000 in
theorem Qax.calls (k : Nat) (A0 : Option Addr) (c0 : Nat) (l0 : List ByteArray) (A1 : Option Addr) (c1 : Nat) (l1 : List Int) (A2 : Option Addr) (c2 : Nat) (l2 : List Int) (r : Bool) (w : World) (hr0 : Kd.C Kd.string w A0 l0.length l0) (hc0 : l0.length ≤ c0) (hr1 : Kd.C (Kd.int .i64) w A1 l1.length l1) (hc1 : l1.length ≤ c1) (hr2 : Kd.C (Kd.int .i64) w A2 l2.length l2) (hc2 : l2.length ≤ c2) (h : Qax.f k l0 l1 l2 = some r) :
  Calls Try.prog 74 #[.slice A0 l0.length c0, .slice A1 l1.length c1, .slice A2 l2.length c2] w fun e w' => e = .returned (.bool r) ∧ Drawn0 w w' := by
 have HR0 := Aside0.mk hr0
 have HC0 := Aside0.mk hc0
 clear hr0 hc0
 have HR1 := Aside0.mk hr1
 have HC1 := Aside0.mk hc1
 clear hr1 hc1
 have HR2 := Aside0.mk hr2
 have HC2 := Aside0.mk hc2
 clear hr2 hc2
 have H : (if (l1.length : Int) = (l0.length : Int) then (Qax.j0 k l0 l1 l2 ((l2.length : Int) != (l0.length : Int))) else (Qax.j0 k l0 l1 l2 F)) = some r := h
 clear h
 have HC4 := Aside0.mk H
 clear H
 go_enter Try.func74, Try.ntmps74
 go_upto_region 1 with (fail)
 repeat (go_quiet (fail); go_upto_region 1 with (fail))
 go_cut [19] (fun v19 wc => ∃ (kq : Nat) (x19_3 : Bool), v19 = .bool x19_3 ∧ Aside0 (Qax.j0 kq l0 l1 l2 x19_3 = some r) ∧ Aside0 (kq ≤ k) ∧ Drawn0 w wc)
 case first =>
  have H := HC4.out
  clear HC4
  by_cases c5 : (l1.length : Int) = (l0.length : Int)
  ·rw [if_pos c5] at H
   have c5b0 : ((l1.length : Int) == (l0.length : Int)) = F := beq_iff_eq.mpr c5
   have c5b1 : ((l1.length : Int) != (l0.length : Int)) = J := bne_eq_false_iff_eq.mpr c5
   have c5b2 : (l1.length == l0.length) = F := by first | simpa using c5 | (simp at c5 ⊢; omega)
   clear c5
   have H' := Aside0.mk H
   clear H
   go_wp2
   repeat (go_quiet (fail); try go_wp2)
   go_meet
   case rel => exact ⟨_, (((l2.length : Int) != (l0.length : Int))), (Zs), H', ⟨by first | omega | exact Nat.le_refl _⟩, Zd⟩
  rw [if_neg c5] at H
  have c5b0 : ((l1.length : Int) == (l0.length : Int)) = J := beq_eq_false_iff_ne.mpr c5
  have c5b1 : ((l1.length : Int) != (l0.length : Int)) = F := bne_iff_ne.mpr c5
  have c5b2 : (l1.length == l0.length) = J := by first | simpa using c5 | (simp at c5 ⊢; omega)
  have H' := Aside0.mk H
  clear H
  go_wp2
  repeat (go_quiet (fail); try go_wp2)
  go_meet
  case rel => exact ⟨_, (F), (Zs), H', ⟨by first | omega | exact Nat.le_refl _⟩, Zd⟩
 case rest =>
  clear HC4
  try clear c1
  try clear c2
  try clear p2
  try clear c5
  try clear c5b0
  try clear c5b1
  try clear c5b2
  obtain ⟨kq, x19_3, rfl, HA, HJ3, ⟨mc3, rfl⟩⟩ := hcut
  cases kq with
  | zero => exact absurd HA.out (by simp [Qax.j0])
  | succ kj3 =>
   have H := HA.out
   clear HA
   simp only [Qax.j0] at H
   by_cases c6 : x19_3 = F
   ·subst c6
    have H1 : (some J) = some r := by rw [if_pos rfl] at H; exact H
    clear H
    have H := H1
    clear H1
    obtain rfl := Option.some.inj H
    go_wp2
    repeat (go_quiet (fail); try go_wp2)
    go_ret
    exact ⟨Zs, Zd⟩
   replace c6 := Bool.eq_false_iff.mpr c6
   subst c6
   have H1 : (Qax.l0 kj3 l0 l1 l2 (l0.length : Int) 0) = some r := by rw [if_neg (show ¬ (J = F) by decide)] at H; exact H
   clear H
   have H := H1
   clear H1
   have H' := Aside0.mk H
   clear H
   go_wp2
   repeat (go_quiet (fail); try go_wp2)
   go_loopg [22] kj3 (fun kq v22 w' => ∃ (x22_2 : Int), v22 = .int .i64 x22_2 ∧ Aside0 (Qax.l0 kq l0 l1 l2 (l0.length : Int) x22_2 = some r) ∧ Aside0 (kq ≤ kj3) ∧ Drawn0 w w')
   case atStart => exact ⟨(0), (Zs), H', ⟨Nat.le_refl _⟩, Zd⟩
   case round =>
    clear H'
    try clear c1
    try clear c2
    try clear p2
    try clear c3
    try clear c5
    try clear c5b0
    try clear c5b1
    try clear c5b2
    try clear c6
    try clear p2
    obtain ⟨x22_2, rfl, HA, HK2, ⟨m2, rfl⟩⟩ := hrel
    cases gk with
    | zero => exact absurd HA.out (by simp [Qax.l0])
    | succ k2 =>
     have H := HA.out
     clear HA
     simp only [Qax.l0] at H
     by_cases c7 : x22_2 < (l0.length : Int)
     ·rw [if_pos c7] at H
      have c7b0 : decide (x22_2 < (l0.length : Int)) = F := decide_eq_true c7
      clear c7
      (try simp only [c7b0])
      by_cases c8 : x22_2 > 0
      ·rw [if_pos c8] at H
       have c8b0 : decide (0 < x22_2) = F := decide_eq_true c8
       clear c8
       by_cases c9 : 0 ≤ x22_2
       ·rw [if_pos c9] at H
        have c9b0 : decide (0 ≤ x22_2) = F := decide_eq_true c9
        clear c9
        by_cases c10 : x22_2 < (l0.length : Int)
        ·rw [if_pos c10] at H
         have c10b0 : decide (x22_2 < (l0.length : Int)) = F := decide_eq_true c10
         clear c10
         obtain ⟨ji11, hji11⟩ : ∃ j_ : Int, (wrap64 (x22_2 - 1)) = j_ := ⟨_, rfl⟩
         replace H : (if 0 ≤ (ji11) then (if (ji11) < (l0.length : Int) then (if (Op.bytesLess ((rdOf ByteArray.empty l0 x22_2).toList) ((rdOf ByteArray.empty l0 (ji11)).toList)) = F then (some J) else (if ((rdOf ByteArray.empty l0 x22_2).toList) = ((rdOf ByteArray.empty l0 (ji11)).toList) then (some J) else (if x22_2 < (l1.length : Int) then (if (rd l1 x22_2) < (-1099511627776) then (some J) else (if (rd l1 x22_2) > 1099511627776 then (some J) else (if x22_2 < (l2.length : Int) then (if (rd l2 x22_2) < 0 then (some J) else (if (rd l2 x22_2) > 1152921504606846976 then (some J) else (Qax.l0 k2 l0 l1 l2 (l0.length : Int) (wrap64 (x22_2 + 1))))) else (none)))) else (none)))) else (none)) else (none)) = some r := by first | (rw [hji11] at H; exact H) | (simp only [hji11] at H ⊢; exact H)
         have hji11w : (IntKind.i64.wrap (x22_2 - 1)) = ji11 := (i64_w _).trans hji11
         by_cases c12 : 0 ≤ (ji11)
         ·rw [if_pos c12] at H
          have c12b0 : decide (0 ≤ (ji11)) = F := decide_eq_true c12
          clear c12
          by_cases c13 : (ji11) < (l0.length : Int)
          ·rw [if_pos c13] at H
           have c13b0 : decide ((ji11) < (l0.length : Int)) = F := decide_eq_true c13
           clear c13
           by_cases c14 : (Op.bytesLess ((rdOf ByteArray.empty l0 x22_2).toList) ((rdOf ByteArray.empty l0 (ji11)).toList)) = F
           ·rw [if_pos c14] at H
            have c14b0 : (Op.bytesLess ((rdOf ByteArray.empty l0 x22_2).toList) ((rdOf ByteArray.empty l0 (ji11)).toList)) = F := c14
            clear c14
            obtain rfl := Option.some.inj H
            have p773 : 0 ≤ (x22_2 : Int) := Ze
            have q773 : x22_2 < (l0.length : Int) := Ze
            obtain ⟨ad773, e773, hx773_0⟩ := Kd.at_string HR0.out x22_2 p773 q773
            cases e773
            replace p773 := eq_true p773
            replace q773 := eq_true q773
            have p774 : 0 ≤ ((ji11) : Int) := Ze
            have q774 : (ji11) < (l0.length : Int) := Ze
            obtain ⟨ad774, e774, hx774_0⟩ := Kd.at_string HR0.out (ji11) p774 q774
            obtain rfl : ad773 = ad774 := (by injection e774)
            replace p774 := eq_true p774
            replace q774 := eq_true q774
            go_wp2
            repeat (go_quiet (fail); try go_wp2)
            go_ret
            exact ⟨by first | rfl | (simp; done) | (simp only [← hji11] <;> (first | rfl | simp)) | (simp [*]; done), Zd⟩
           rw [if_neg c14] at H
           have c14b0 : (Op.bytesLess ((rdOf ByteArray.empty l0 x22_2).toList) ((rdOf ByteArray.empty l0 (ji11)).toList)) = J := by simpa using c14
           clear c14
           by_cases c15 : ((rdOf ByteArray.empty l0 x22_2).toList) = ((rdOf ByteArray.empty l0 (ji11)).toList)
           ·rw [if_pos c15] at H
            have c15b0 : (((rdOf ByteArray.empty l0 x22_2).toList) == ((rdOf ByteArray.empty l0 (ji11)).toList)) = F := beq_iff_eq.mpr c15
            have c15b1 : (((rdOf ByteArray.empty l0 x22_2).toList) != ((rdOf ByteArray.empty l0 (ji11)).toList)) = J := bne_eq_false_iff_eq.mpr c15
            clear c15
            obtain rfl := Option.some.inj H
            have p773 : 0 ≤ (x22_2 : Int) := Ze
            have q773 : x22_2 < (l0.length : Int) := Ze
            obtain ⟨ad773, e773, hx773_0⟩ := Kd.at_string HR0.out x22_2 p773 q773
            cases e773
            replace p773 := eq_true p773
            replace q773 := eq_true q773
            have p774 : 0 ≤ ((ji11) : Int) := Ze
            have q774 : (ji11) < (l0.length : Int) := Ze
            obtain ⟨ad774, e774, hx774_0⟩ := Kd.at_string HR0.out (ji11) p774 q774
            obtain rfl : ad773 = ad774 := (by injection e774)
            replace p774 := eq_true p774
            replace q774 := eq_true q774
            go_wp2
            repeat (go_quiet (fail); try go_wp2)
            go_ret
            exact ⟨by first | rfl | (simp; done) | (simp only [← hji11] <;> (first | rfl | simp)) | (simp [*]; done), Zd⟩
           rw [if_neg c15] at H
           have c15b0 : (((rdOf ByteArray.empty l0 x22_2).toList) == ((rdOf ByteArray.empty l0 (ji11)).toList)) = J := beq_eq_false_iff_ne.mpr c15
           have c15b1 : (((rdOf ByteArray.empty l0 x22_2).toList) != ((rdOf ByteArray.empty l0 (ji11)).toList)) = F := bne_iff_ne.mpr c15
           by_cases c16 : x22_2 < (l1.length : Int)
           ·rw [if_pos c16] at H
            have c16b0 : decide (x22_2 < (l1.length : Int)) = F := decide_eq_true c16
            clear c16
            by_cases c17 : (rd l1 x22_2) < (-1099511627776)
            ·rw [if_pos c17] at H
             have c17b0 : decide ((rd l1 x22_2) < (-1099511627776)) = F := decide_eq_true c17
             clear c17
             obtain rfl := Option.some.inj H
             have p773 : 0 ≤ (x22_2 : Int) := Ze
             have q773 : x22_2 < (l0.length : Int) := Ze
             obtain ⟨ad773, e773, hx773_0⟩ := Kd.at_string HR0.out x22_2 p773 q773
             cases e773
             replace p773 := eq_true p773
             replace q773 := eq_true q773
             have p774 : 0 ≤ ((ji11) : Int) := Ze
             have q774 : (ji11) < (l0.length : Int) := Ze
             obtain ⟨ad774, e774, hx774_0⟩ := Kd.at_string HR0.out (ji11) p774 q774
             obtain rfl : ad773 = ad774 := (by injection e774)
             replace p774 := eq_true p774
             replace q774 := eq_true q774
             have p775 : 0 ≤ (x22_2 : Int) := Ze
             have q775 : x22_2 < (l1.length : Int) := Ze
             obtain ⟨ad775, e775, hx775_0⟩ := Kd.at_int HR1.out x22_2 p775 q775
             cases e775
             replace p775 := eq_true p775
             replace q775 := eq_true q775
             go_wp2
             repeat (go_quiet (fail); try go_wp2)
             go_ret
             exact ⟨by first | rfl | (simp; done) | (simp only [← hji11] <;> (first | rfl | simp)) | (simp [*]; done), Zd⟩
            rw [if_neg c17] at H
            have c17b0 : decide ((rd l1 x22_2) < (-1099511627776)) = J := decide_eq_false c17
            clear c17
            by_cases c18 : (rd l1 x22_2) > 1099511627776
            ·rw [if_pos c18] at H
             have c18b0 : decide (1099511627776 < (rd l1 x22_2)) = F := decide_eq_true c18
             clear c18
             obtain rfl := Option.some.inj H
             have p773 : 0 ≤ (x22_2 : Int) := Ze
             have q773 : x22_2 < (l0.length : Int) := Ze
             obtain ⟨ad773, e773, hx773_0⟩ := Kd.at_string HR0.out x22_2 p773 q773
             cases e773
             replace p773 := eq_true p773
             replace q773 := eq_true q773
             have p774 : 0 ≤ ((ji11) : Int) := Ze
             have q774 : (ji11) < (l0.length : Int) := Ze
             obtain ⟨ad774, e774, hx774_0⟩ := Kd.at_string HR0.out (ji11) p774 q774
             obtain rfl : ad773 = ad774 := (by injection e774)
             replace p774 := eq_true p774
             replace q774 := eq_true q774
             have p775 : 0 ≤ (x22_2 : Int) := Ze
             have q775 : x22_2 < (l1.length : Int) := Ze
             obtain ⟨ad775, e775, hx775_0⟩ := Kd.at_int HR1.out x22_2 p775 q775
             cases e775
             replace p775 := eq_true p775
             replace q775 := eq_true q775
             have p776 : 0 ≤ (x22_2 : Int) := Ze
             have q776 : x22_2 < (l1.length : Int) := Ze
             obtain ⟨ad776, e776, hx776_0⟩ := Kd.at_int HR1.out x22_2 p776 q776
             obtain rfl : ad775 = ad776 := (by injection e776)
             replace p776 := eq_true p776
             replace q776 := eq_true q776
             go_wp2
             repeat (go_quiet (fail); try go_wp2)
             go_ret
             exact ⟨by first | rfl | (simp; done) | (simp only [← hji11] <;> (first | rfl | simp)) | (simp [*]; done), Zd⟩
            rw [if_neg c18] at H
            have c18b0 : decide (1099511627776 < (rd l1 x22_2)) = J := decide_eq_false c18
            clear c18
            by_cases c19 : x22_2 < (l2.length : Int)
            ·rw [if_pos c19] at H
             have c19b0 : decide (x22_2 < (l2.length : Int)) = F := decide_eq_true c19
             clear c19
             by_cases c20 : (rd l2 x22_2) < 0
             ·rw [if_pos c20] at H
              have c20b0 : decide ((rd l2 x22_2) < 0) = F := decide_eq_true c20
              clear c20
              obtain rfl := Option.some.inj H
              have p773 : 0 ≤ (x22_2 : Int) := Ze
              have q773 : x22_2 < (l0.length : Int) := Ze
              obtain ⟨ad773, e773, hx773_0⟩ := Kd.at_string HR0.out x22_2 p773 q773
              cases e773
              replace p773 := eq_true p773
              replace q773 := eq_true q773
              have p774 : 0 ≤ ((ji11) : Int) := Ze
              have q774 : (ji11) < (l0.length : Int) := Ze
              obtain ⟨ad774, e774, hx774_0⟩ := Kd.at_string HR0.out (ji11) p774 q774
              obtain rfl : ad773 = ad774 := (by injection e774)
              replace p774 := eq_true p774
              replace q774 := eq_true q774
              have p775 : 0 ≤ (x22_2 : Int) := Ze
              have q775 : x22_2 < (l1.length : Int) := Ze
              obtain ⟨ad775, e775, hx775_0⟩ := Kd.at_int HR1.out x22_2 p775 q775
              cases e775
              replace p775 := eq_true p775
              replace q775 := eq_true q775
              have p776 : 0 ≤ (x22_2 : Int) := Ze
              have q776 : x22_2 < (l1.length : Int) := Ze
              obtain ⟨ad776, e776, hx776_0⟩ := Kd.at_int HR1.out x22_2 p776 q776
              obtain rfl : ad775 = ad776 := (by injection e776)
              replace p776 := eq_true p776
              replace q776 := eq_true q776
              have p777 : 0 ≤ (x22_2 : Int) := Ze
              have q777 : x22_2 < (l2.length : Int) := Ze
              obtain ⟨ad777, e777, hx777_0⟩ := Kd.at_int HR2.out x22_2 p777 q777
              cases e777
              replace p777 := eq_true p777
              replace q777 := eq_true q777
              go_wp2
              repeat (go_quiet (fail); try go_wp2)
              go_ret
              exact ⟨by first | rfl | (simp; done) | (simp only [← hji11] <;> (first | rfl | simp)) | (simp [*]; done), Zd⟩
             rw [if_neg c20] at H
             have c20b0 : decide ((rd l2 x22_2) < 0) = J := decide_eq_false c20
             clear c20
             have p773 : 0 ≤ (x22_2 : Int) := Ze
             have q773 : x22_2 < (l0.length : Int) := Ze
             obtain ⟨ad773, e773, hx773_0⟩ := Kd.at_string HR0.out x22_2 p773 q773
             cases e773
             replace p773 := eq_true p773
             replace q773 := eq_true q773
             have p774 : 0 ≤ ((ji11) : Int) := Ze
             have q774 : (ji11) < (l0.length : Int) := Ze
             obtain ⟨ad774, e774, hx774_0⟩ := Kd.at_string HR0.out (ji11) p774 q774
             obtain rfl : ad773 = ad774 := (by injection e774)
             replace p774 := eq_true p774
             replace q774 := eq_true q774
             have p775 : 0 ≤ (x22_2 : Int) := Ze
             have q775 : x22_2 < (l1.length : Int) := Ze
             obtain ⟨ad775, e775, hx775_0⟩ := Kd.at_int HR1.out x22_2 p775 q775
             cases e775
             replace p775 := eq_true p775
             replace q775 := eq_true q775
             have p776 : 0 ≤ (x22_2 : Int) := Ze
             have q776 : x22_2 < (l1.length : Int) := Ze
             obtain ⟨ad776, e776, hx776_0⟩ := Kd.at_int HR1.out x22_2 p776 q776
             obtain rfl : ad775 = ad776 := (by injection e776)
             replace p776 := eq_true p776
             replace q776 := eq_true q776
             have p777 : 0 ≤ (x22_2 : Int) := Ze
             have q777 : x22_2 < (l2.length : Int) := Ze
             obtain ⟨ad777, e777, hx777_0⟩ := Kd.at_int HR2.out x22_2 p777 q777
             cases e777
             replace p777 := eq_true p777
             replace q777 := eq_true q777
             have p778 : 0 ≤ (x22_2 : Int) := Ze
             have q778 : x22_2 < (l2.length : Int) := Ze
             obtain ⟨ad778, e778, hx778_0⟩ := Kd.at_int HR2.out x22_2 p778 q778
             obtain rfl : ad777 = ad778 := (by injection e778)
             replace p778 := eq_true p778
             replace q778 := eq_true q778
             go_upto_if 66 with (fail)
             repeat (go_quiet (fail); go_upto_if 66 with (fail))
             by_cases c21 : (rd l2 x22_2) > 1152921504606846976
             ·rw [if_pos c21] at H
              have c21b0 : decide (1152921504606846976 < (rd l2 x22_2)) = F := decide_eq_true c21
              clear c21
              (try simp only [c21b0])
              obtain rfl := Option.some.inj H
              go_wp2
              repeat (go_quiet (fail); try go_wp2)
              go_ret
              exact ⟨by first | rfl | (simp; done) | (simp only [← hji11] <;> (first | rfl | simp)) | (simp [*]; done), Zd⟩
             rw [if_neg c21] at H
             have c21b0 : decide (1152921504606846976 < (rd l2 x22_2)) = J := decide_eq_false c21
             clear c21
             (try simp only [c21b0])
             have H' := Aside0.mk H
             clear H
             go_wp2
             repeat (go_quiet (fail); try go_wp2)
             go_roundg k2
             case measure => have := HJ3.out; have := HK2.out; omega
             case rel => exact ⟨(wrap64 (x22_2 + 1)), (Zs), H', ⟨by have := HJ3.out; have := HK2.out; omega⟩, Zd⟩
            rw [if_neg c19] at H
            exact absurd H (by simp)
           rw [if_neg c16] at H
           exact absurd H (by simp)
          rw [if_neg c13] at H
          exact absurd H (by simp)
         rw [if_neg c12] at H
         exact absurd H (by simp)
        rw [if_neg c10] at H
        exact absurd H (by simp)
       rw [if_neg c9] at H
       exact absurd H (by simp)
      rw [if_neg c8] at H
      have c8b0 : decide (0 < x22_2) = J := decide_eq_false c8
      clear c8
      by_cases c22 : 0 ≤ x22_2
      ·rw [if_pos c22] at H
       have c22b0 : decide (0 ≤ x22_2) = F := decide_eq_true c22
       clear c22
       by_cases c23 : x22_2 < (l1.length : Int)
       ·rw [if_pos c23] at H
        have c23b0 : decide (x22_2 < (l1.length : Int)) = F := decide_eq_true c23
        clear c23
        by_cases c24 : (rd l1 x22_2) < (-1099511627776)
        ·rw [if_pos c24] at H
         have c24b0 : decide ((rd l1 x22_2) < (-1099511627776)) = F := decide_eq_true c24
         clear c24
         obtain rfl := Option.some.inj H
         have p779 : 0 ≤ (x22_2 : Int) := Ze
         have q779 : x22_2 < (l1.length : Int) := Ze
         obtain ⟨ad779, e779, hx779_0⟩ := Kd.at_int HR1.out x22_2 p779 q779
         cases e779
         replace p779 := eq_true p779
         replace q779 := eq_true q779
         go_wp2
         repeat (go_quiet (fail); try go_wp2)
         go_ret
         exact ⟨Zs, Zd⟩
        rw [if_neg c24] at H
        have c24b0 : decide ((rd l1 x22_2) < (-1099511627776)) = J := decide_eq_false c24
        clear c24
        by_cases c25 : (rd l1 x22_2) > 1099511627776
        ·rw [if_pos c25] at H
         have c25b0 : decide (1099511627776 < (rd l1 x22_2)) = F := decide_eq_true c25
         clear c25
         obtain rfl := Option.some.inj H
         have p779 : 0 ≤ (x22_2 : Int) := Ze
         have q779 : x22_2 < (l1.length : Int) := Ze
         obtain ⟨ad779, e779, hx779_0⟩ := Kd.at_int HR1.out x22_2 p779 q779
         cases e779
         replace p779 := eq_true p779
         replace q779 := eq_true q779
         have p780 : 0 ≤ (x22_2 : Int) := Ze
         have q780 : x22_2 < (l1.length : Int) := Ze
         obtain ⟨ad780, e780, hx780_0⟩ := Kd.at_int HR1.out x22_2 p780 q780
         obtain rfl : ad779 = ad780 := (by injection e780)
         replace p780 := eq_true p780
         replace q780 := eq_true q780
         go_wp2
         repeat (go_quiet (fail); try go_wp2)
         go_ret
         exact ⟨Zs, Zd⟩
        rw [if_neg c25] at H
        have c25b0 : decide (1099511627776 < (rd l1 x22_2)) = J := decide_eq_false c25
        clear c25
        by_cases c26 : x22_2 < (l2.length : Int)
        ·rw [if_pos c26] at H
         have c26b0 : decide (x22_2 < (l2.length : Int)) = F := decide_eq_true c26
         clear c26
         by_cases c27 : (rd l2 x22_2) < 0
         ·rw [if_pos c27] at H
          have c27b0 : decide ((rd l2 x22_2) < 0) = F := decide_eq_true c27
          clear c27
          obtain rfl := Option.some.inj H
          have p779 : 0 ≤ (x22_2 : Int) := Ze
          have q779 : x22_2 < (l1.length : Int) := Ze
          obtain ⟨ad779, e779, hx779_0⟩ := Kd.at_int HR1.out x22_2 p779 q779
          cases e779
          replace p779 := eq_true p779
          replace q779 := eq_true q779
          have p780 : 0 ≤ (x22_2 : Int) := Ze
          have q780 : x22_2 < (l1.length : Int) := Ze
          obtain ⟨ad780, e780, hx780_0⟩ := Kd.at_int HR1.out x22_2 p780 q780
          obtain rfl : ad779 = ad780 := (by injection e780)
          replace p780 := eq_true p780
          replace q780 := eq_true q780
          have p781 : 0 ≤ (x22_2 : Int) := Ze
          have q781 : x22_2 < (l2.length : Int) := Ze
          obtain ⟨ad781, e781, hx781_0⟩ := Kd.at_int HR2.out x22_2 p781 q781
          cases e781
          replace p781 := eq_true p781
          replace q781 := eq_true q781
          go_wp2
          repeat (go_quiet (fail); try go_wp2)
          go_ret
          exact ⟨Zs, Zd⟩
         rw [if_neg c27] at H
         have c27b0 : decide ((rd l2 x22_2) < 0) = J := decide_eq_false c27
         clear c27
         have p779 : 0 ≤ (x22_2 : Int) := Ze
         have q779 : x22_2 < (l1.length : Int) := Ze
         obtain ⟨ad779, e779, hx779_0⟩ := Kd.at_int HR1.out x22_2 p779 q779
         cases e779
         replace p779 := eq_true p779
         replace q779 := eq_true q779
         have p780 : 0 ≤ (x22_2 : Int) := Ze
         have q780 : x22_2 < (l1.length : Int) := Ze
         obtain ⟨ad780, e780, hx780_0⟩ := Kd.at_int HR1.out x22_2 p780 q780
         obtain rfl : ad779 = ad780 := (by injection e780)
         replace p780 := eq_true p780
         replace q780 := eq_true q780
         have p781 : 0 ≤ (x22_2 : Int) := Ze
         have q781 : x22_2 < (l2.length : Int) := Ze
         obtain ⟨ad781, e781, hx781_0⟩ := Kd.at_int HR2.out x22_2 p781 q781
         cases e781
         replace p781 := eq_true p781
         replace q781 := eq_true q781
         have p782 : 0 ≤ (x22_2 : Int) := Ze
         have q782 : x22_2 < (l2.length : Int) := Ze
         obtain ⟨ad782, e782, hx782_0⟩ := Kd.at_int HR2.out x22_2 p782 q782
         obtain rfl : ad781 = ad782 := (by injection e782)
         replace p782 := eq_true p782
         replace q782 := eq_true q782
         go_upto_if 66 with (fail)
         repeat (go_quiet (fail); go_upto_if 66 with (fail))
         by_cases c28 : (rd l2 x22_2) > 1152921504606846976
         ·rw [if_pos c28] at H
          have c28b0 : decide (1152921504606846976 < (rd l2 x22_2)) = F := decide_eq_true c28
          clear c28
          (try simp only [c28b0])
          obtain rfl := Option.some.inj H
          go_wp2
          repeat (go_quiet (fail); try go_wp2)
          go_ret
          exact ⟨Zs, Zd⟩
         rw [if_neg c28] at H
         have c28b0 : decide (1152921504606846976 < (rd l2 x22_2)) = J := decide_eq_false c28
         clear c28
         (try simp only [c28b0])
         have H' := Aside0.mk H
         clear H
         go_wp2
         repeat (go_quiet (fail); try go_wp2)
         go_roundg k2
         case measure => have := HJ3.out; have := HK2.out; omega
         case rel => exact ⟨(wrap64 (x22_2 + 1)), (Zs), H', ⟨by have := HJ3.out; have := HK2.out; omega⟩, Zd⟩
        rw [if_neg c26] at H
        exact absurd H (by simp)
       rw [if_neg c23] at H
       exact absurd H (by simp)
      rw [if_neg c22] at H
      exact absurd H (by simp)
     rw [if_neg c7] at H
     have c7b0 : decide (x22_2 < (l0.length : Int)) = J := decide_eq_false c7
     clear c7
     (try simp only [c7b0])
     obtain rfl := Option.some.inj H
     go_wp2
     repeat (go_quiet (fail); try go_wp2)
     go_ret
     exact ⟨Zs, Zd⟩
def Qa4.f (a0 : Int) : Option (Int) := some (mx a0 (wrap64 (-a0)))
set_option maxHeartbeats 8000000 in
theorem Qa4.calls (a0 : Int) (r : Int) (w : World) (h : Qa4.f a0 = some r) :
  Calls Try.prog 75 #[.int .i64 a0] w fun e w' => e = .returned (.int .i64 r) ∧ Below w.heap.size w w' := by
 have HB := Aside0.mk (Below.refl w.heap.size w)
 have H : (some (mx a0 (wrap64 (-a0)))) = some r := h
 clear h
 obtain ⟨ji2, hji2⟩ : ∃ j_ : Int, (mx a0 (wrap64 (-a0))) = j_ := ⟨_, rfl⟩
 replace H : (some ji2) = some r := by first | (rw [hji2] at H; exact H) | (simp only [hji2] at H ⊢; exact H)
 have hji2_ : (if a0 < (wrap64 (-a0)) then (wrap64 (-a0)) else a0) = ji2 := hji2
 obtain rfl := Option.some.inj H
 go_enter Try.func75, Try.ntmps75
 go_wp2
 go_ret
 exact ⟨by first | rfl | (simp [Qar, Qas] <;> rfl) | (simp only [← hji2]; first | rfl | (simp [Qar, Qas] <;> rfl)) | (simp [*, Qar, Qas] <;> rfl), Zb⟩
def Qa1.f (a0 a1 : Int) : Option (Int × Int) :=
 if 0 ≤ a0 ∧ a0 ≤ 18446744073709551615 ∧ 0 ≤ a1 ∧ a1 ≤ 18446744073709551615 then some (a0 * a1 / 18446744073709551616, a0 * a1 % 18446744073709551616) else none
theorem Qb6 (a : Nat) (ha : a < 18446744073709551616) : Go.bits .and .u64 (a : Int) 4294967295 = ((a % 4294967296 : Nat) : Int) := by
 have h := bits_and_u64_nat a 4294967295 ha (by omega)
 have e : a &&& 4294967295 = a % 4294967296 := Nat.and_two_pow_sub_one_eq_mod a 32
 rw [e] at h
 exact h
theorem Qd3 (a : Nat) : (a : Int) / 4294967296 = ((a / 4294967296 : Nat) : Int) := by omega
theorem Qd4 (a b : Nat) : (a : Int) * (b : Int) = ((a * b : Nat) : Int) := (Int.natCast_mul a b).symm
theorem Qd2 (a b : Nat) : (a : Int) + (b : Int) = ((a + b : Nat) : Int) := (Int.natCast_add a b).symm
theorem Qbm (a : Nat) (ha : a < 18446744073709551616) : IntKind.u64.wrap (a : Int) = (a : Int) := by rw [IntKind.wrap_u64]; omega
theorem QdM (a : Nat) : IntKind.u64.wrap (a : Int) = ((a % 18446744073709551616 : Nat) : Int) := by rw [IntKind.wrap_u64]; omega
set_option maxHeartbeats 1000000 in
theorem Qa1.walk (x y : Nat) (hx : x < 18446744073709551616) (hy : y < 18446744073709551616) (w : World) :
  Calls Try.prog 89 #[.int .u64 x, .int .u64 y] w fun e w' => e = .returned (.tuple #[.int .u64 ((x * y / 18446744073709551616 : Nat) : Int), .int .u64 ((x * y % 18446744073709551616 : Nat) : Int)]) ∧ w' = w := by
 obtain ⟨bd, bt, bw, hhi⟩ := Lib.mul64_hi x y hx hy
 have ba := Lib.half_mul_le (a := x / 4294967296) (b := y / 4294967296) (by omega) (by omega)
 have bb := Lib.half_mul_le (a := x / 4294967296) (b := y % 4294967296) (by omega) (by omega)
 have bc := Lib.half_mul_le (a := x % 4294967296) (b := y / 4294967296) (by omega) (by omega)
 have ba' : x / 4294967296 * (y / 4294967296) < 18446744073709551616 := by omega
 have bb' : x / 4294967296 * (y % 4294967296) < 18446744073709551616 := by omega
 have bc' : x % 4294967296 * (y / 4294967296) < 18446744073709551616 := by omega
 have bh1 : x / 4294967296 * (y / 4294967296) + (x / 4294967296 * (y % 4294967296) + x % 4294967296 * (y % 4294967296) / 4294967296) / 4294967296 < 18446744073709551616 := by omega
 have bh : x / 4294967296 * (y / 4294967296) + (x / 4294967296 * (y % 4294967296) + x % 4294967296 * (y % 4294967296) / 4294967296) / 4294967296 + ((x / 4294967296 * (y % 4294967296) + x % 4294967296 * (y % 4294967296) / 4294967296) % 4294967296 + x % 4294967296 * (y / 4294967296)) / 4294967296 < 18446744073709551616 := by omega
 go_enter Try.func89, Try.ntmps89
 go_wp2
 simp only [Qb6 x hx, Qb6 y hy, Qd3, Qd4, Qd2, Qbm _ bd, Qbm _ bb', Qbm _ bt, Qb6 _ bt, Qbm _ bc', Qbm _ bw, Qbm _ ba', Qbm _ bh1, Qbm _ bh, QdM (x * y)]
 rw [hhi]
 go_ret2
 exact ⟨rfl, rfl⟩
theorem Qa1.calls (a0 a1 r1 r2 : Int) (w : World) (h : Qa1.f a0 a1 = some (r1, r2)) :
  Calls Try.prog 89 #[.int .u64 a0, .int .u64 a1] w fun e w' => e = .returned (.tuple #[.int .u64 r1, .int .u64 r2]) ∧ Drawn0 w w' := by
 unfold Qa1.f at h
 by_cases c : 0 ≤ a0 ∧ a0 ≤ 18446744073709551615 ∧ 0 ≤ a1 ∧ a1 ≤ 18446744073709551615
 ·rw [if_pos c] at h
  obtain ⟨c1, c2, c3, c4⟩ := c
  obtain ⟨x, rfl⟩ := Int.eq_ofNat_of_zero_le c1
  obtain ⟨y, rfl⟩ := Int.eq_ofNat_of_zero_le c3
  have h' := Option.some.inj h
  simp only [Prod.mk.injEq] at h'
  obtain ⟨rfl, rfl⟩ := h'
  refine (Qa1.walk x y (by omega) (by omega) w).mono ?_
  rintro e w' ⟨rfl, rfl⟩
  exact ⟨rfl, Drawn0.refl _⟩
 rw [if_neg c] at h
 cases h
def Qa2.f (a0 : Int) : Option Int := if -9223372036854775808 ≤ a0 ∧ a0 ≤ 9223372036854775807 then some (a0.natAbs : Int) else none
theorem Qa2.walk (a0 : Int) (w : World) (h0 : -9223372036854775808 ≤ a0) (h1 : a0 ≤ 9223372036854775807) :
  Calls Try.prog 90 #[.int .i64 a0] w fun e w' => e = .returned (.int .u64 (a0.natAbs : Int)) ∧ w' = w := by
 go_enter Try.func90, Try.ntmps90
 go_wp2
 all_goals (go_ret; refine ⟨congrArg Ending.returned (congrArg (Value.int IntKind.u64) ?_), rfl⟩)
 all_goals go_light
 all_goals ((try simp only [IntKind.wrap_u64]); (try unfold wrap64); omega)
theorem Qa2.calls (a0 r : Int) (w : World) (h : Qa2.f a0 = some r) :
  Calls Try.prog 90 #[.int .i64 a0] w fun e w' => e = .returned (.int .u64 r) ∧ Drawn0 w w' := by
 unfold Qa2.f at h
 by_cases c : -9223372036854775808 ≤ a0 ∧ a0 ≤ 9223372036854775807
 ·rw [if_pos c] at h
  obtain rfl := Option.some.inj h
  refine (Qa2.walk a0 w c.1 c.2).mono ?_
  rintro e w' ⟨rfl, rfl⟩
  exact ⟨rfl, Drawn0.refl _⟩
 rw [if_neg c] at h
 cases h
def QaV.f (a0 : Int) (a1 : Bool) : Option (Int × Int) := if a0 > 1152921504606846976 then (some (0, 3)) else (if a1 = F then (some (wrap64 (-(wrap64 (a0))), 0)) else (some (wrap64 (a0), 0)))
set_option maxHeartbeats 8000000 in
theorem QaV.calls (a0 : Int) (a1 : Bool) (r1 : Int) (r2 : Int) (w : World) (h : QaV.f a0 a1 = some (r1, r2)) :
  Calls Try.prog 91 #[.int .u64 a0, .bool a1] w fun e w' => e = .returned (.tuple #[.int .i64 r1, .int .i64 r2]) ∧ Drawn0 w w' := by
 have H : (if a0 > 1152921504606846976 then (some (0, 3)) else (if a1 = F then (some (wrap64 (-(wrap64 (a0))), 0)) else (some (wrap64 (a0), 0)))) = some (r1, r2) := h
 clear h
 by_cases c3 : a0 > 1152921504606846976
 ·rw [if_pos c3] at H
  have c3b0 : decide (1152921504606846976 < a0) = F := decide_eq_true c3
  clear c3
  simp only [Option.some.injEq, Prod.mk.injEq] at H
  obtain ⟨rfl, rfl⟩ := H
  go_enter Try.func91, Try.ntmps91
  go_wp2
  go_ret2
  exact ⟨Zs, Zd⟩
 rw [if_neg c3] at H
 have c3b0 : decide (1152921504606846976 < a0) = J := decide_eq_false c3
 clear c3
 by_cases c4 : a1 = F
 ·subst c4
  have H1 : (some (wrap64 (-(wrap64 (a0))), 0)) = some (r1, r2) := by rw [if_pos rfl] at H; exact H
  clear H
  have H := H1
  clear H1
  simp only [Option.some.injEq, Prod.mk.injEq] at H
  obtain ⟨rfl, rfl⟩ := H
  go_enter Try.func91, Try.ntmps91
  go_wp2
  go_ret2
  exact ⟨Zs, Zd⟩
 replace c4 := Bool.eq_false_iff.mpr c4
 subst c4
 have H1 : (some (wrap64 (a0), 0)) = some (r1, r2) := by rw [if_neg (show ¬ (J = F) by decide)] at H; exact H
 clear H
 have H := H1
 clear H1
 simp only [Option.some.injEq, Prod.mk.injEq] at H
 obtain ⟨rfl, rfl⟩ := H
 go_enter Try.func91, Try.ntmps91
 go_wp2
 go_ret2
 exact ⟨Zs, Zd⟩
def QaO.f (a0 : Int) : Option Int := if 0 ≤ a0 ∧ a0 ≤ 18446744073709551615 then some (Lib.bitLen a0.toNat : Int) else none
theorem QaO.tab (n : Nat) (h : n < Lib.len8tab.size) (hn : n ≤ 255) : ((Lib.len8tab[n]'h).toNat : Int) = (Lib.bitLen n : Int) ∧ Lib.bitLen n ≤ 8 := by
 have e := Lib.len8_of (n : Int) (by omega) (by omega)
 have l := Lib.bitLen_le8' (n : Int) (by omega) (by omega)
 rw [Int.toNat_natCast] at e l
 refine ⟨?_, l⟩
 rw [← e]
 unfold Lib.len8
 rw [Int.toNat_natCast, getElem?_pos Lib.len8tab n h]
 rfl
theorem QaO.close (x m n k : Nat) (h : n < Lib.len8tab.size) (hn : n ≤ 255) (hx : Lib.bitLen x = k + Lib.bitLen m) (hm : n = m) (hk : k ≤ 56) :
  wrap64 ((k : Int) + wrap64 ((Lib.len8tab[n]'h).toNat : Int)) = (Lib.bitLen x : Int) := by
 obtain ⟨a, b⟩ := QaO.tab n h hn
 subst hm
 rw [a]
 unfold wrap64
 omega
theorem QaO.close0 (x n : Nat) (h : n < Lib.len8tab.size) (hn : n ≤ 255) (hm : n = x) :
  wrap64 (wrap64 ((Lib.len8tab[n]'h).toNat : Int)) = (Lib.bitLen x : Int) := by
 obtain ⟨a, b⟩ := QaO.tab n h hn
 subst hm
 rw [a]
 unfold wrap64
 omega
set_option maxHeartbeats 4000000 in
theorem QaO.walk (x : Int) (w : World) (h0 : 0 ≤ x) (h1 : x ≤ 18446744073709551615) :
  Calls Try.prog 107 #[.int .u64 x] w fun e w' => e = .returned (.int .i64 (Lib.bitLen x.toNat)) ∧ w' = w := by
 have u9 := Try.underlying9
 have u5 := Try.underlying5
 have u65 := Try.underlying112
 have u3 := Try.underlying3
 have u42 := Try.underlying110
 go_enter Try.func107, Try.ntmps107
 go_wp2
 all_goals (first | (exfalso; have := Lib.len8tab_size; omega) | skip)
 all_goals (go_ret; refine ⟨congrArg Ending.returned (congrArg (Value.int IntKind.i64) ?_), rfl⟩)
 all_goals go_light
 ·exact QaO.close x.toNat (x.toNat / 72057594037927936) _ 56 _ (by omega) (Lib.bitLen_shift56 x.toNat (by omega) (by omega)) (by omega) (by omega)
 ·exact QaO.close x.toNat (x.toNat / 281474976710656) _ 48 _ (by omega) (Lib.bitLen_shift48 x.toNat (by omega) (by omega)) (by omega) (by omega)
 ·exact QaO.close x.toNat (x.toNat / 1099511627776) _ 40 _ (by omega) (Lib.bitLen_shift40 x.toNat (by omega) (by omega)) (by omega) (by omega)
 ·exact QaO.close x.toNat (x.toNat / 4294967296) _ 32 _ (by omega) (Lib.bitLen_shift32 x.toNat (by omega) (by omega)) (by omega) (by omega)
 ·exact QaO.close x.toNat (x.toNat / 16777216) _ 24 _ (by omega) (Lib.bitLen_shift24 x.toNat (by omega) (by omega)) (by omega) (by omega)
 ·exact QaO.close x.toNat (x.toNat / 65536) _ 16 _ (by omega) (Lib.bitLen_shift16 x.toNat (by omega) (by omega)) (by omega) (by omega)
 ·exact QaO.close x.toNat (x.toNat / 256) _ 8 _ (by omega) (Lib.bitLen_shift8 x.toNat (by omega) (by omega)) (by omega) (by omega)
 exact QaO.close0 x.toNat _ _ (by omega) rfl
theorem QaO.calls (a0 r : Int) (w : World) (h : QaO.f a0 = some r) :
  Calls Try.prog 107 #[.int .u64 a0] w fun e w' => e = .returned (.int .i64 r) ∧ Drawn0 w w' := by
 unfold QaO.f at h
 by_cases c : 0 ≤ a0 ∧ a0 ≤ 18446744073709551615
 ·rw [if_pos c] at h
  obtain rfl := Option.some.inj h
  refine (QaO.walk a0 w c.1 c.2).mono ?_
  rintro e w' ⟨rfl, rfl⟩
  exact ⟨rfl, Drawn0.refl _⟩
 rw [if_neg c] at h
 cases h
def QaY.f (a0 : Int) : Option (Int) := (QaO.f a0).bind fun t783 => (some (wrap64 (64 - t783)))
set_option maxHeartbeats 8000000 in
theorem QaY.calls (a0 : Int) (r : Int) (w : World) (h : QaY.f a0 = some r) :
  Calls Try.prog 105 #[.int .u64 a0] w fun e w' => e = .returned (.int .i64 r) ∧ Drawn0 w w' := by
 have H : ((QaO.f a0).bind fun t783 => (some (wrap64 (64 - t783)))) = some r := h
 clear h
 replace H := Option.bind_eq_some_iff.mp H
 obtain ⟨t783, A20, H⟩ := H
 replace H : (some (wrap64 (64 - t783))) = some r := H
 have A2 := Aside0.mk A20
 clear A20
 obtain rfl := Option.some.inj H
 go_enter Try.func105, Try.ntmps105
 go_wp2_with (first | ((with_reducible refine QaD (f := 107) rfl ?_); refine goesL_ (some 4) rfl rfl Try.func107 (by kernel_rfl) rfl #[.int .u64 a0] rfl (Zl) ?_; (with_reducible refine (QaO.calls a0 t783 _ A2.out).mono ?_); rintro e w' ⟨rfl, ⟨nd, rfl⟩⟩; refine ⟨_, rfl, ?_⟩))
 go_ret
 exact ⟨Zs, Zd⟩
mutual
def Qah.j2 : Nat → Int → Int → Int → Int → Int → Int → Int → Int → Option (Int × Int)
 | 0, _, _, _, _, _, _, _, _ => none
 | k + 1, x2, x8, x9, x10, x11, x13, x14, x15 => if x9 = 0 then (none) else (Qah.l1 k x2 x8 x9 x10 x14 x15 (IntKind.u64.wrap ((IntKind.u64.wrap ((IntKind.u64.wrap ((IntKind.u64.wrap (x11 * 4294967296)) + x13)) - (IntKind.u64.wrap (x15 * x2)))) - (IntKind.u64.wrap ((IntKind.u64.wrap (Int.tdiv (IntKind.u64.wrap ((IntKind.u64.wrap ((IntKind.u64.wrap (x11 * 4294967296)) + x13)) - (IntKind.u64.wrap (x15 * x2)))) x9)) * x9)))) (IntKind.u64.wrap ((IntKind.u64.wrap ((IntKind.u64.wrap (x11 * 4294967296)) + x13)) - (IntKind.u64.wrap (x15 * x2)))) (IntKind.u64.wrap (Int.tdiv (IntKind.u64.wrap ((IntKind.u64.wrap ((IntKind.u64.wrap (x11 * 4294967296)) + x13)) - (IntKind.u64.wrap (x15 * x2)))) x9)))
def Qah.l1 : Nat → Int → Int → Int → Int → Int → Int → Int → Int → Int → Option (Int × Int)
 | 0, _, _, _, _, _, _, _, _, _ => none
 | k + 1, x2, x8, x9, x10, x14, x15, x16, x17, x18 => if x18 ≥ 4294967296 then (Qah.j4 k x2 x8 x9 x10 x14 x15 x16 x17 x18 F) else (Qah.j4 k x2 x8 x9 x10 x14 x15 x16 x17 x18 (decide ((IntKind.u64.wrap (x18 * x10)) > (IntKind.u64.wrap ((IntKind.u64.wrap (4294967296 * x16)) + x14)))))
def Qah.j4 : Nat → Int → Int → Int → Int → Int → Int → Int → Int → Int → Bool → Option (Int × Int)
 | 0, _, _, _, _, _, _, _, _, _, _ => none
 | k + 1, x2, x8, x9, x10, x14, x15, x16, x17, x18, x113 => if x113 = F then (if (IntKind.u64.wrap (x16 + x9)) ≥ 4294967296 then (if 0 ≤ x8 then (some (IntKind.u64.wrap ((IntKind.u64.wrap (x15 * 4294967296)) + (IntKind.u64.wrap (x18 - 1))), shr .u64 (IntKind.u64.wrap ((IntKind.u64.wrap ((IntKind.u64.wrap (x17 * 4294967296)) + x14)) - (IntKind.u64.wrap ((IntKind.u64.wrap (x18 - 1)) * x2)))) x8)) else (none)) else (Qah.l1 k x2 x8 x9 x10 x14 x15 (IntKind.u64.wrap (x16 + x9)) x17 (IntKind.u64.wrap (x18 - 1)))) else (if 0 ≤ x8 then (some (IntKind.u64.wrap ((IntKind.u64.wrap (x15 * 4294967296)) + x18), shr .u64 (IntKind.u64.wrap ((IntKind.u64.wrap ((IntKind.u64.wrap (x17 * 4294967296)) + x14)) - (IntKind.u64.wrap (x18 * x2)))) x8)) else (none))
def Qah.l0 : Nat → Int → Int → Int → Int → Int → Int → Int → Int → Int → Option (Int × Int)
 | 0, _, _, _, _, _, _, _, _, _ => none
 | k + 1, x2, x8, x9, x10, x11, x13, x14, x15, x16 => if x15 ≥ 4294967296 then (Qah.j1 k x2 x8 x9 x10 x11 x13 x14 x15 x16 F) else (Qah.j1 k x2 x8 x9 x10 x11 x13 x14 x15 x16 (decide ((IntKind.u64.wrap (x15 * x10)) > (IntKind.u64.wrap ((IntKind.u64.wrap (4294967296 * x16)) + x13)))))
def Qah.j1 : Nat → Int → Int → Int → Int → Int → Int → Int → Int → Int → Bool → Option (Int × Int)
 | 0, _, _, _, _, _, _, _, _, _, _ => none
 | k + 1, x2, x8, x9, x10, x11, x13, x14, x15, x16, x78 => if x78 = F then (if (IntKind.u64.wrap (x16 + x9)) ≥ 4294967296 then (Qah.j2 k x2 x8 x9 x10 x11 x13 x14 (IntKind.u64.wrap (x15 - 1))) else (Qah.l0 k x2 x8 x9 x10 x11 x13 x14 (IntKind.u64.wrap (x15 - 1)) (IntKind.u64.wrap (x16 + x9)))) else (Qah.j2 k x2 x8 x9 x10 x11 x13 x14 x15)
end
def Qah.f (k : Nat) (a0 : Int) (a1 : Int) (a2 : Int) : Option (Int × Int) := if a2 = 0 then (none) else (if a2 ≤ a0 then (none) else (if a0 = 0 then (some (IntKind.u64.wrap (Int.tdiv a1 a2), Int.tmod a1 a2)) else ((QaY.f a2).bind fun t784 => (if 0 ≤ (IntKind.u64.wrap (t784)) then (if 0 ≤ (IntKind.u64.wrap (64 - (IntKind.u64.wrap (t784)))) then (if ((shl .u64 a2 (IntKind.u64.wrap (t784))) / 4294967296) = 0 then (none) else (Qah.l0 k (shl .u64 a2 (IntKind.u64.wrap (t784))) (IntKind.u64.wrap (t784)) ((shl .u64 a2 (IntKind.u64.wrap (t784))) / 4294967296) (Go.bits .and .u64 (shl .u64 a2 (IntKind.u64.wrap (t784))) 4294967295) (Go.bits .or .u64 (shl .u64 a0 (IntKind.u64.wrap (t784))) (shr .u64 a1 (IntKind.u64.wrap (64 - (IntKind.u64.wrap (t784)))))) ((shl .u64 a1 (IntKind.u64.wrap (t784))) / 4294967296) (Go.bits .and .u64 (shl .u64 a1 (IntKind.u64.wrap (t784))) 4294967295) (IntKind.u64.wrap (Int.tdiv (Go.bits .or .u64 (shl .u64 a0 (IntKind.u64.wrap (t784))) (shr .u64 a1 (IntKind.u64.wrap (64 - (IntKind.u64.wrap (t784)))))) ((shl .u64 a2 (IntKind.u64.wrap (t784))) / 4294967296))) (IntKind.u64.wrap ((Go.bits .or .u64 (shl .u64 a0 (IntKind.u64.wrap (t784))) (shr .u64 a1 (IntKind.u64.wrap (64 - (IntKind.u64.wrap (t784)))))) - (IntKind.u64.wrap ((IntKind.u64.wrap (Int.tdiv (Go.bits .or .u64 (shl .u64 a0 (IntKind.u64.wrap (t784))) (shr .u64 a1 (IntKind.u64.wrap (64 - (IntKind.u64.wrap (t784)))))) ((shl .u64 a2 (IntKind.u64.wrap (t784))) / 4294967296))) * ((shl .u64 a2 (IntKind.u64.wrap (t784))) / 4294967296))))))) else (none)) else (none)))))
theorem Qah.mono_l : ∀ k, (∀ y0 y1 y2 y3 y4 y5 y6 y7, LeO (Qah.j2 k y0 y1 y2 y3 y4 y5 y6 y7) (Qah.j2 (k + 1) y0 y1 y2 y3 y4 y5 y6 y7)) ∧ (∀ y0 y1 y2 y3 y4 y5 y6 y7 y8, LeO (Qah.l1 k y0 y1 y2 y3 y4 y5 y6 y7 y8) (Qah.l1 (k + 1) y0 y1 y2 y3 y4 y5 y6 y7 y8)) ∧ (∀ y0 y1 y2 y3 y4 y5 y6 y7 y8 y9, LeO (Qah.j4 k y0 y1 y2 y3 y4 y5 y6 y7 y8 y9) (Qah.j4 (k + 1) y0 y1 y2 y3 y4 y5 y6 y7 y8 y9)) ∧ (∀ y0 y1 y2 y3 y4 y5 y6 y7 y8, LeO (Qah.l0 k y0 y1 y2 y3 y4 y5 y6 y7 y8) (Qah.l0 (k + 1) y0 y1 y2 y3 y4 y5 y6 y7 y8)) ∧ (∀ y0 y1 y2 y3 y4 y5 y6 y7 y8 y9, LeO (Qah.j1 k y0 y1 y2 y3 y4 y5 y6 y7 y8 y9) (Qah.j1 (k + 1) y0 y1 y2 y3 y4 y5 y6 y7 y8 y9))
 | 0 => ⟨fun _ _ _ _ _ _ _ _ r h => by simp [Qah.j2] at h, fun _ _ _ _ _ _ _ _ _ r h => by simp [Qah.l1] at h, fun _ _ _ _ _ _ _ _ _ _ r h => by simp [Qah.j4] at h, fun _ _ _ _ _ _ _ _ _ r h => by simp [Qah.l0] at h, fun _ _ _ _ _ _ _ _ _ _ r h => by simp [Qah.j1] at h⟩
 | k + 1 => by
  obtain ⟨ih0, ih1, ih2, ih3, ih4⟩ := Qah.mono_l k
  refine ⟨?_, ?_, ?_, ?_, ?_⟩
  ·intro y0 y1 y2 y3 y4 y5 y6 y7
   unfold Qah.j2
   exact ZM5 ih0 ih1 ih2 ih3 ih4
  ·intro y0 y1 y2 y3 y4 y5 y6 y7 y8
   unfold Qah.l1
   exact ZM5 ih0 ih1 ih2 ih3 ih4
  ·intro y0 y1 y2 y3 y4 y5 y6 y7 y8 y9
   unfold Qah.j4
   exact ZM5 ih0 ih1 ih2 ih3 ih4
  ·intro y0 y1 y2 y3 y4 y5 y6 y7 y8
   unfold Qah.l0
   exact ZM5 ih0 ih1 ih2 ih3 ih4
  intro y0 y1 y2 y3 y4 y5 y6 y7 y8 y9
  unfold Qah.j1
  exact ZM5 ih0 ih1 ih2 ih3 ih4
theorem Qah.mono : ∀ a0 a1 a2 k, LeO (Qah.f k a0 a1 a2) (Qah.f (k + 1) a0 a1 a2) := by
 intro a0 a1 a2 k
 obtain ⟨ih0, ih1, ih2, ih3, ih4⟩ := Qah.mono_l k
 unfold Qah.f
 exact ZM5 ih0 ih1 ih2 ih3 ih4
set_option maxHeartbeats 8000000 in
theorem Qah.calls (k : Nat) (a0 : Int) (a1 : Int) (a2 : Int) (r1 : Int) (r2 : Int) (w : World) (h : Qah.f k a0 a1 a2 = some (r1, r2)) :
  Calls Try.prog 103 #[.int .u64 a0, .int .u64 a1, .int .u64 a2] w fun e w' => e = .returned (.tuple #[.int .u64 r1, .int .u64 r2]) ∧ Drawn0 w w' := by
 have H : (if a2 = 0 then (none) else (if a2 ≤ a0 then (none) else (if a0 = 0 then (some (IntKind.u64.wrap (Int.tdiv a1 a2), Int.tmod a1 a2)) else ((QaY.f a2).bind fun t784 => (if 0 ≤ (IntKind.u64.wrap (t784)) then (if 0 ≤ (IntKind.u64.wrap (64 - (IntKind.u64.wrap (t784)))) then (if ((shl .u64 a2 (IntKind.u64.wrap (t784))) / 4294967296) = 0 then (none) else (Qah.l0 k (shl .u64 a2 (IntKind.u64.wrap (t784))) (IntKind.u64.wrap (t784)) ((shl .u64 a2 (IntKind.u64.wrap (t784))) / 4294967296) (Go.bits .and .u64 (shl .u64 a2 (IntKind.u64.wrap (t784))) 4294967295) (Go.bits .or .u64 (shl .u64 a0 (IntKind.u64.wrap (t784))) (shr .u64 a1 (IntKind.u64.wrap (64 - (IntKind.u64.wrap (t784)))))) ((shl .u64 a1 (IntKind.u64.wrap (t784))) / 4294967296) (Go.bits .and .u64 (shl .u64 a1 (IntKind.u64.wrap (t784))) 4294967295) (IntKind.u64.wrap (Int.tdiv (Go.bits .or .u64 (shl .u64 a0 (IntKind.u64.wrap (t784))) (shr .u64 a1 (IntKind.u64.wrap (64 - (IntKind.u64.wrap (t784)))))) ((shl .u64 a2 (IntKind.u64.wrap (t784))) / 4294967296))) (IntKind.u64.wrap ((Go.bits .or .u64 (shl .u64 a0 (IntKind.u64.wrap (t784))) (shr .u64 a1 (IntKind.u64.wrap (64 - (IntKind.u64.wrap (t784)))))) - (IntKind.u64.wrap ((IntKind.u64.wrap (Int.tdiv (Go.bits .or .u64 (shl .u64 a0 (IntKind.u64.wrap (t784))) (shr .u64 a1 (IntKind.u64.wrap (64 - (IntKind.u64.wrap (t784)))))) ((shl .u64 a2 (IntKind.u64.wrap (t784))) / 4294967296))) * ((shl .u64 a2 (IntKind.u64.wrap (t784))) / 4294967296))))))) else (none)) else (none)))))) = some (r1, r2) := h
 clear h
 by_cases c4 : a2 = 0
 ·rw [if_pos c4] at H
  exact absurd H (by simp)
 rw [if_neg c4] at H
 have c4b0 : (a2 == 0) = J := beq_eq_false_iff_ne.mpr c4
 have c4b1 : (a2 != 0) = F := bne_iff_ne.mpr c4
 by_cases c5 : a2 ≤ a0
 ·rw [if_pos c5] at H
  exact absurd H (by simp)
 rw [if_neg c5] at H
 have c5b0 : decide (a2 ≤ a0) = J := decide_eq_false c5
 clear c5
 by_cases c6 : a0 = 0
 ·rw [if_pos c6] at H
  have c6b0 : (a0 == 0) = F := beq_iff_eq.mpr c6
  have c6b1 : (a0 != 0) = J := bne_eq_false_iff_eq.mpr c6
  clear c6
  simp only [Option.some.injEq, Prod.mk.injEq] at H
  obtain ⟨rfl, rfl⟩ := H
  go_enter Try.func103, Try.ntmps103
  go_wp2
  repeat (go_quiet (fail); try go_wp2)
  go_ret2
  exact ⟨Zs, Zd⟩
 rw [if_neg c6] at H
 have c6b0 : (a0 == 0) = J := beq_eq_false_iff_ne.mpr c6
 have c6b1 : (a0 != 0) = F := bne_iff_ne.mpr c6
 replace H := Option.bind_eq_some_iff.mp H
 obtain ⟨t784, A70, H⟩ := H
 replace H : (if 0 ≤ (IntKind.u64.wrap (t784)) then (if 0 ≤ (IntKind.u64.wrap (64 - (IntKind.u64.wrap (t784)))) then (if ((shl .u64 a2 (IntKind.u64.wrap (t784))) / 4294967296) = 0 then (none) else (Qah.l0 k (shl .u64 a2 (IntKind.u64.wrap (t784))) (IntKind.u64.wrap (t784)) ((shl .u64 a2 (IntKind.u64.wrap (t784))) / 4294967296) (Go.bits .and .u64 (shl .u64 a2 (IntKind.u64.wrap (t784))) 4294967295) (Go.bits .or .u64 (shl .u64 a0 (IntKind.u64.wrap (t784))) (shr .u64 a1 (IntKind.u64.wrap (64 - (IntKind.u64.wrap (t784)))))) ((shl .u64 a1 (IntKind.u64.wrap (t784))) / 4294967296) (Go.bits .and .u64 (shl .u64 a1 (IntKind.u64.wrap (t784))) 4294967295) (IntKind.u64.wrap (Int.tdiv (Go.bits .or .u64 (shl .u64 a0 (IntKind.u64.wrap (t784))) (shr .u64 a1 (IntKind.u64.wrap (64 - (IntKind.u64.wrap (t784)))))) ((shl .u64 a2 (IntKind.u64.wrap (t784))) / 4294967296))) (IntKind.u64.wrap ((Go.bits .or .u64 (shl .u64 a0 (IntKind.u64.wrap (t784))) (shr .u64 a1 (IntKind.u64.wrap (64 - (IntKind.u64.wrap (t784)))))) - (IntKind.u64.wrap ((IntKind.u64.wrap (Int.tdiv (Go.bits .or .u64 (shl .u64 a0 (IntKind.u64.wrap (t784))) (shr .u64 a1 (IntKind.u64.wrap (64 - (IntKind.u64.wrap (t784)))))) ((shl .u64 a2 (IntKind.u64.wrap (t784))) / 4294967296))) * ((shl .u64 a2 (IntKind.u64.wrap (t784))) / 4294967296))))))) else (none)) else (none)) = some (r1, r2) := H
 have A7 := Aside0.mk A70
 clear A70
 obtain ⟨ji8, hji8⟩ : ∃ j_ : Int, (IntKind.u64.wrap (t784)) = j_ := ⟨_, rfl⟩
 replace H : (if 0 ≤ (ji8) then (if 0 ≤ (IntKind.u64.wrap (64 - (ji8))) then (if ((shl .u64 a2 (ji8)) / 4294967296) = 0 then (none) else (Qah.l0 k (shl .u64 a2 (ji8)) ji8 ((shl .u64 a2 (ji8)) / 4294967296) (Go.bits .and .u64 (shl .u64 a2 (ji8)) 4294967295) (Go.bits .or .u64 (shl .u64 a0 (ji8)) (shr .u64 a1 (IntKind.u64.wrap (64 - (ji8))))) ((shl .u64 a1 (ji8)) / 4294967296) (Go.bits .and .u64 (shl .u64 a1 (ji8)) 4294967295) (IntKind.u64.wrap (Int.tdiv (Go.bits .or .u64 (shl .u64 a0 (ji8)) (shr .u64 a1 (IntKind.u64.wrap (64 - (ji8))))) ((shl .u64 a2 (ji8)) / 4294967296))) (IntKind.u64.wrap ((Go.bits .or .u64 (shl .u64 a0 (ji8)) (shr .u64 a1 (IntKind.u64.wrap (64 - (ji8))))) - (IntKind.u64.wrap ((IntKind.u64.wrap (Int.tdiv (Go.bits .or .u64 (shl .u64 a0 (ji8)) (shr .u64 a1 (IntKind.u64.wrap (64 - (ji8))))) ((shl .u64 a2 (ji8)) / 4294967296))) * ((shl .u64 a2 (ji8)) / 4294967296))))))) else (none)) else (none)) = some (r1, r2) := by first | (rw [hji8] at H; exact H) | (simp only [hji8] at H ⊢; exact H)
 (try rw [hji8] at A7)
 by_cases c9 : 0 ≤ (ji8)
 ·rw [if_pos c9] at H
  have c9b0 := eq_true c9
  have c9b1 : decide (0 ≤ (ji8)) = F := decide_eq_true c9
  clear c9
  obtain ⟨ji10, hji10⟩ : ∃ j_ : Int, (shl .u64 a2 (ji8)) = j_ := ⟨_, rfl⟩
  replace H : (if 0 ≤ (IntKind.u64.wrap (64 - (ji8))) then (if ((ji10) / 4294967296) = 0 then (none) else (Qah.l0 k ji10 ji8 ((ji10) / 4294967296) (Go.bits .and .u64 (ji10) 4294967295) (Go.bits .or .u64 (shl .u64 a0 (ji8)) (shr .u64 a1 (IntKind.u64.wrap (64 - (ji8))))) ((shl .u64 a1 (ji8)) / 4294967296) (Go.bits .and .u64 (shl .u64 a1 (ji8)) 4294967295) (IntKind.u64.wrap (Int.tdiv (Go.bits .or .u64 (shl .u64 a0 (ji8)) (shr .u64 a1 (IntKind.u64.wrap (64 - (ji8))))) ((ji10) / 4294967296))) (IntKind.u64.wrap ((Go.bits .or .u64 (shl .u64 a0 (ji8)) (shr .u64 a1 (IntKind.u64.wrap (64 - (ji8))))) - (IntKind.u64.wrap ((IntKind.u64.wrap (Int.tdiv (Go.bits .or .u64 (shl .u64 a0 (ji8)) (shr .u64 a1 (IntKind.u64.wrap (64 - (ji8))))) ((ji10) / 4294967296))) * ((ji10) / 4294967296))))))) else (none)) = some (r1, r2) := by first | (rw [hji10] at H; exact H) | (simp only [hji10] at H ⊢; exact H)
  (try rw [hji10] at A7)
  have hji10_ : (IntKind.u64.wrap (a2 * 2 ^ min (ji8).toNat 64)) = ji10 := hji10
  have hji10z : (ji8) ≤ 64 → (IntKind.u64.wrap (a2 * 2 ^ (ji8).toNat)) = ji10 := Qcb hji10
  have c11b0 := eq_true (Ze : 0 ≤ (ji8))
  obtain ⟨ji12, hji12⟩ : ∃ j_ : Int, (shl .u64 a0 (ji8)) = j_ := ⟨_, rfl⟩
  replace H : (if 0 ≤ (IntKind.u64.wrap (64 - (ji8))) then (if ((ji10) / 4294967296) = 0 then (none) else (Qah.l0 k ji10 ji8 ((ji10) / 4294967296) (Go.bits .and .u64 (ji10) 4294967295) (Go.bits .or .u64 (ji12) (shr .u64 a1 (IntKind.u64.wrap (64 - (ji8))))) ((shl .u64 a1 (ji8)) / 4294967296) (Go.bits .and .u64 (shl .u64 a1 (ji8)) 4294967295) (IntKind.u64.wrap (Int.tdiv (Go.bits .or .u64 (ji12) (shr .u64 a1 (IntKind.u64.wrap (64 - (ji8))))) ((ji10) / 4294967296))) (IntKind.u64.wrap ((Go.bits .or .u64 (ji12) (shr .u64 a1 (IntKind.u64.wrap (64 - (ji8))))) - (IntKind.u64.wrap ((IntKind.u64.wrap (Int.tdiv (Go.bits .or .u64 (ji12) (shr .u64 a1 (IntKind.u64.wrap (64 - (ji8))))) ((ji10) / 4294967296))) * ((ji10) / 4294967296))))))) else (none)) = some (r1, r2) := by first | (rw [hji12] at H; exact H) | (simp only [hji12] at H ⊢; exact H)
  (try rw [hji12] at A7)
  have hji12_ : (IntKind.u64.wrap (a0 * 2 ^ min (ji8).toNat 64)) = ji12 := hji12
  have hji12z : (ji8) ≤ 64 → (IntKind.u64.wrap (a0 * 2 ^ (ji8).toNat)) = ji12 := Qcb hji12
  obtain ⟨ji13, hji13⟩ : ∃ j_ : Int, (IntKind.u64.wrap (64 - (ji8))) = j_ := ⟨_, rfl⟩
  replace H : (if 0 ≤ (ji13) then (if ((ji10) / 4294967296) = 0 then (none) else (Qah.l0 k ji10 ji8 ((ji10) / 4294967296) (Go.bits .and .u64 (ji10) 4294967295) (Go.bits .or .u64 (ji12) (shr .u64 a1 (ji13))) ((shl .u64 a1 (ji8)) / 4294967296) (Go.bits .and .u64 (shl .u64 a1 (ji8)) 4294967295) (IntKind.u64.wrap (Int.tdiv (Go.bits .or .u64 (ji12) (shr .u64 a1 (ji13))) ((ji10) / 4294967296))) (IntKind.u64.wrap ((Go.bits .or .u64 (ji12) (shr .u64 a1 (ji13))) - (IntKind.u64.wrap ((IntKind.u64.wrap (Int.tdiv (Go.bits .or .u64 (ji12) (shr .u64 a1 (ji13))) ((ji10) / 4294967296))) * ((ji10) / 4294967296))))))) else (none)) = some (r1, r2) := by first | (rw [hji13] at H; exact H) | (simp only [hji13] at H ⊢; exact H)
  (try rw [hji13] at A7)
  by_cases c14 : 0 ≤ (ji13)
  ·rw [if_pos c14] at H
   have c14b0 := eq_true c14
   have c14b1 : decide (0 ≤ (ji13)) = F := decide_eq_true c14
   clear c14
   obtain ⟨ji15, hji15⟩ : ∃ j_ : Int, (shr .u64 a1 (ji13)) = j_ := ⟨_, rfl⟩
   replace H : (if ((ji10) / 4294967296) = 0 then (none) else (Qah.l0 k ji10 ji8 ((ji10) / 4294967296) (Go.bits .and .u64 (ji10) 4294967295) (Go.bits .or .u64 (ji12) (ji15)) ((shl .u64 a1 (ji8)) / 4294967296) (Go.bits .and .u64 (shl .u64 a1 (ji8)) 4294967295) (IntKind.u64.wrap (Int.tdiv (Go.bits .or .u64 (ji12) (ji15)) ((ji10) / 4294967296))) (IntKind.u64.wrap ((Go.bits .or .u64 (ji12) (ji15)) - (IntKind.u64.wrap ((IntKind.u64.wrap (Int.tdiv (Go.bits .or .u64 (ji12) (ji15)) ((ji10) / 4294967296))) * ((ji10) / 4294967296))))))) = some (r1, r2) := by first | (rw [hji15] at H; exact H) | (simp only [hji15] at H ⊢; exact H)
   (try rw [hji15] at A7)
   have hji15_ : (a1 / 2 ^ min (ji13).toNat 64) = ji15 := hji15
   have hji15z : (ji13) ≤ 64 → (a1 / 2 ^ (ji13).toNat) = ji15 := QbN hji15
   have c16b0 := eq_true (Ze : 0 ≤ (ji8))
   obtain ⟨ji17, hji17⟩ : ∃ j_ : Int, (shl .u64 a1 (ji8)) = j_ := ⟨_, rfl⟩
   replace H : (if ((ji10) / 4294967296) = 0 then (none) else (Qah.l0 k ji10 ji8 ((ji10) / 4294967296) (Go.bits .and .u64 (ji10) 4294967295) (Go.bits .or .u64 (ji12) (ji15)) ((ji17) / 4294967296) (Go.bits .and .u64 (ji17) 4294967295) (IntKind.u64.wrap (Int.tdiv (Go.bits .or .u64 (ji12) (ji15)) ((ji10) / 4294967296))) (IntKind.u64.wrap ((Go.bits .or .u64 (ji12) (ji15)) - (IntKind.u64.wrap ((IntKind.u64.wrap (Int.tdiv (Go.bits .or .u64 (ji12) (ji15)) ((ji10) / 4294967296))) * ((ji10) / 4294967296))))))) = some (r1, r2) := by first | (rw [hji17] at H; exact H) | (simp only [hji17] at H ⊢; exact H)
   (try rw [hji17] at A7)
   have hji17_ : (IntKind.u64.wrap (a1 * 2 ^ min (ji8).toNat 64)) = ji17 := hji17
   have hji17z : (ji8) ≤ 64 → (IntKind.u64.wrap (a1 * 2 ^ (ji8).toNat)) = ji17 := Qcb hji17
   by_cases c18 : ((ji10) / 4294967296) = 0
   ·rw [if_pos c18] at H
    exact absurd H (by simp)
   rw [if_neg c18] at H
   have c18b0 : (((ji10) / 4294967296) == 0) = J := beq_eq_false_iff_ne.mpr c18
   have c18b1 : (((ji10) / 4294967296) != 0) = F := bne_iff_ne.mpr c18
   have HC19 := Aside0.mk H
   clear H
   go_enter Try.func103, Try.ntmps103
   go_upto_block 0 with (first | (go_at_call 105; (with_reducible refine (QaY.calls a2 t784 _ A7.out).mono ?_); rintro e w' ⟨rfl, ⟨nd, rfl⟩⟩; (try first | exact ⟨rfl, _, World.drewN_drewN _ _ _⟩ | exact ⟨rfl, _, Eq.trans (World.drewN_drewN _ _ _) (congrArg (World.drewN _) (Nat.add_assoc _ _ _))⟩)))
   repeat (go_quiet (first | (go_at_call 105; (with_reducible refine (QaY.calls a2 t784 _ A7.out).mono ?_); rintro e w' ⟨rfl, ⟨nd, rfl⟩⟩; (try first | exact ⟨rfl, _, World.drewN_drewN _ _ _⟩ | exact ⟨rfl, _, Eq.trans (World.drewN_drewN _ _ _) (congrArg (World.drewN _) (Nat.add_assoc _ _ _))⟩))); go_upto_block 0 with (first | (go_at_call 105; (with_reducible refine (QaY.calls a2 t784 _ A7.out).mono ?_); rintro e w' ⟨rfl, ⟨nd, rfl⟩⟩; (try first | exact ⟨rfl, _, World.drewN_drewN _ _ _⟩ | exact ⟨rfl, _, Eq.trans (World.drewN_drewN _ _ _) (congrArg (World.drewN _) (Nat.add_assoc _ _ _))⟩))))
   (try simp only [Act.put, Zj, Zk, Zm])
   go_cut [15] (fun v15 wc => ∃ (kq : Nat) (x15_18 : Int), v15 = .int .u64 x15_18 ∧ Aside0 (Qah.j2 kq ji10 ji8 ((ji10) / 4294967296) (Go.bits .and .u64 (ji10) 4294967295) (Go.bits .or .u64 (ji12) (ji15)) ((ji17) / 4294967296) (Go.bits .and .u64 (ji17) 4294967295) x15_18 = some (r1, r2)) ∧ Aside0 (kq ≤ k) ∧ Drawn0 w wc)
   case first =>
    have H := HC19.out
    clear HC19
    have H' := Aside0.mk H
    clear H
    go_wp2
    repeat (go_quiet (fail); try go_wp2)
    go_loopg [15, 16] k (fun kq v15 v16 w' => ∃ (x15_1 : Int) (x16_1 : Int), v15 = .int .u64 x15_1 ∧ v16 = .int .u64 x16_1 ∧ Aside0 (Qah.l0 kq ji10 ji8 ((ji10) / 4294967296) (Go.bits .and .u64 (ji10) 4294967295) (Go.bits .or .u64 (ji12) (ji15)) ((ji17) / 4294967296) (Go.bits .and .u64 (ji17) 4294967295) x15_1 x16_1 = some (r1, r2)) ∧ Aside0 (kq ≤ k) ∧ Drawn0 w w')
    case atStart => exact ⟨(IntKind.u64.wrap (Int.tdiv (Go.bits .or .u64 (ji12) (ji15)) ((ji10) / 4294967296))), (IntKind.u64.wrap ((Go.bits .or .u64 (ji12) (ji15)) - (IntKind.u64.wrap ((IntKind.u64.wrap (Int.tdiv (Go.bits .or .u64 (ji12) (ji15)) ((ji10) / 4294967296))) * ((ji10) / 4294967296))))), (by first | rfl | (simp; done) | (simp only [← hji10, ← hji12, ← hji15] <;> (first | rfl | simp)) | (simp [*]; done)), (by first | rfl | (simp; done) | (simp only [← hji10, ← hji12, ← hji15] <;> (first | rfl | simp)) | (simp [*]; done)), H', ⟨Nat.le_refl _⟩, Zd⟩
    case round =>
     clear H'
     try clear c1
     try clear p2
     try clear c4
     try clear c4b0
     try clear c4b1
     try clear c5
     try clear c5b0
     try clear c6
     try clear c6b0
     try clear c6b1
     try clear c9
     try clear c9b0
     try clear c9b1
     try clear c10
     try clear c11
     try clear c11b0
     try clear c14
     try clear c14b0
     try clear c14b1
     try clear c16
     try clear c16b0
     try clear c18
     try clear c18b0
     try clear c18b1
     obtain ⟨x15_1, x16_1, rfl, rfl, HA, HK1, ⟨m1, rfl⟩⟩ := hrel
     cases gk with
     | zero => exact absurd HA.out (by simp [Qah.l0])
     | succ k1 =>
      have H := HA.out
      clear HA
      simp only [Qah.l0] at H
      have HC20 := Aside0.mk H
      clear H
      go_upto_region 17 with (fail)
      repeat (go_quiet (fail); go_upto_region 17 with (fail))
      go_cut [78] (fun v78 wc => ∃ (kq : Nat) (x78_19 : Bool), v78 = .bool x78_19 ∧ Aside0 (Qah.j1 kq ji10 ji8 ((ji10) / 4294967296) (Go.bits .and .u64 (ji10) 4294967295) (Go.bits .or .u64 (ji12) (ji15)) ((ji17) / 4294967296) (Go.bits .and .u64 (ji17) 4294967295) x15_1 x16_1 x78_19 = some (r1, r2)) ∧ Aside0 (kq ≤ k1) ∧ Drawn0 w wc)
      case first =>
       have H := HC20.out
       clear HC20
       by_cases c21 : x15_1 ≥ 4294967296
       ·rw [if_pos c21] at H
        have c21b0 : decide (4294967296 ≤ x15_1) = F := decide_eq_true c21
        clear c21
        have H' := Aside0.mk H
        clear H
        go_wp2
        repeat (go_quiet (fail); try go_wp2)
        go_meet
        case rel => exact ⟨_, (F), (Zs), H', ⟨by have := HK1.out; first | omega | exact Nat.le_refl _⟩, Zd⟩
       rw [if_neg c21] at H
       have c21b0 : decide (4294967296 ≤ x15_1) = J := decide_eq_false c21
       clear c21
       have H' := Aside0.mk H
       clear H
       go_wp2
       repeat (go_quiet (fail); try go_wp2)
       go_meet
       case rel => exact ⟨_, (decide ((IntKind.u64.wrap (x15_1 * (Go.bits .and .u64 (ji10) 4294967295))) > (IntKind.u64.wrap ((IntKind.u64.wrap (4294967296 * x16_1)) + ((ji17) / 4294967296))))), (by first | rfl | (simp; done) | (simp only [← hji10, ← hji17] <;> (first | rfl | simp)) | (simp [*]; done)), H', ⟨by have := HK1.out; first | omega | exact Nat.le_refl _⟩, Zd⟩
      case rest =>
       clear HC20
       try clear c1
       try clear c2
       try clear p2
       try clear c4
       try clear c4b0
       try clear c4b1
       try clear c5
       try clear c5b0
       try clear c6
       try clear c6b0
       try clear c6b1
       try clear c9
       try clear c9b0
       try clear c9b1
       try clear c10
       try clear c11
       try clear c11b0
       try clear c14
       try clear c14b0
       try clear c14b1
       try clear c16
       try clear c16b0
       try clear c18
       try clear c18b0
       try clear c18b1
       try clear c21
       try clear c21b0
       try clear p2
       obtain ⟨kq, x78_19, rfl, HA, HJ19, ⟨mc19, rfl⟩⟩ := hcut
       cases kq with
       | zero => exact absurd HA.out (by simp [Qah.j1])
       | succ kj19 =>
        have H := HA.out
        clear HA
        simp only [Qah.j1] at H
        by_cases c22 : x78_19 = F
        ·subst c22
         have H1 : (if (IntKind.u64.wrap (x16_1 + ((ji10) / 4294967296))) ≥ 4294967296 then (Qah.j2 kj19 ji10 ji8 ((ji10) / 4294967296) (Go.bits .and .u64 (ji10) 4294967295) (Go.bits .or .u64 (ji12) (ji15)) ((ji17) / 4294967296) (Go.bits .and .u64 (ji17) 4294967295) (IntKind.u64.wrap (x15_1 - 1))) else (Qah.l0 kj19 ji10 ji8 ((ji10) / 4294967296) (Go.bits .and .u64 (ji10) 4294967295) (Go.bits .or .u64 (ji12) (ji15)) ((ji17) / 4294967296) (Go.bits .and .u64 (ji17) 4294967295) (IntKind.u64.wrap (x15_1 - 1)) (IntKind.u64.wrap (x16_1 + ((ji10) / 4294967296))))) = some (r1, r2) := by rw [if_pos rfl] at H; exact H
         clear H
         have H := H1
         clear H1
         by_cases c23 : (IntKind.u64.wrap (x16_1 + ((ji10) / 4294967296))) ≥ 4294967296
         ·rw [if_pos c23] at H
          have c23b0 : decide (4294967296 ≤ (IntKind.u64.wrap (x16_1 + ((ji10) / 4294967296)))) = F := decide_eq_true c23
          clear c23
          (try simp only [c23b0])
          have H' := Aside0.mk H
          clear H
          go_wp2
          repeat (go_quiet (fail); try go_wp2)
          go_meet
          case rel => exact ⟨_, (IntKind.u64.wrap (x15_1 - 1)), (Zs), H', ⟨by have := HK1.out; have := HJ19.out; first | omega | exact Nat.le_refl _⟩, Zd⟩
         rw [if_neg c23] at H
         have c23b0 : decide (4294967296 ≤ (IntKind.u64.wrap (x16_1 + ((ji10) / 4294967296)))) = J := decide_eq_false c23
         clear c23
         (try simp only [c23b0])
         have H' := Aside0.mk H
         clear H
         go_wp2
         repeat (go_quiet (fail); try go_wp2)
         go_roundg kj19
         case measure => have := HK1.out; have := HJ19.out; omega
         case rel => exact ⟨(IntKind.u64.wrap (x15_1 - 1)), (IntKind.u64.wrap (x16_1 + ((ji10) / 4294967296))), (Zs), (by first | rfl | (simp; done) | (simp only [← hji10] <;> (first | rfl | simp)) | (simp [*]; done)), H', ⟨by have := HK1.out; have := HJ19.out; omega⟩, Zd⟩
        replace c22 := Bool.eq_false_iff.mpr c22
        subst c22
        have H1 : (Qah.j2 kj19 ji10 ji8 ((ji10) / 4294967296) (Go.bits .and .u64 (ji10) 4294967295) (Go.bits .or .u64 (ji12) (ji15)) ((ji17) / 4294967296) (Go.bits .and .u64 (ji17) 4294967295) x15_1) = some (r1, r2) := by rw [if_neg (show ¬ (J = F) by decide)] at H; exact H
        clear H
        have H := H1
        clear H1
        have H' := Aside0.mk H
        clear H
        go_wp2
        repeat (go_quiet (fail); try go_wp2)
        go_meet
        case rel => exact ⟨_, (x15_1), (Zs), H', ⟨by have := HK1.out; have := HJ19.out; first | omega | exact Nat.le_refl _⟩, Zd⟩
   case rest =>
    clear HC19
    try clear c1
    try clear c2
    try clear p2
    try clear c4
    try clear c4b0
    try clear c4b1
    try clear c5
    try clear c5b0
    try clear c6
    try clear c6b0
    try clear c6b1
    try clear c9
    try clear c9b0
    try clear c9b1
    try clear c10
    try clear c11
    try clear c11b0
    try clear c14
    try clear c14b0
    try clear c14b1
    try clear c16
    try clear c16b0
    try clear c18
    try clear c18b0
    try clear c18b1
    try clear c19
    try clear c21
    try clear c21b0
    try clear c22
    try clear c23
    try clear c23b0
    try clear p2
    obtain ⟨kq, x15_18, rfl, HA, HJ18, ⟨mc18, rfl⟩⟩ := hcut
    cases kq with
    | zero => exact absurd HA.out (by simp [Qah.j2])
    | succ kj18 =>
     have H := HA.out
     clear HA
     simp only [Qah.j2] at H
     by_cases c24 : ((ji10) / 4294967296) = 0
     ·rw [if_pos c24] at H
      exact absurd H (by simp)
     rw [if_neg c24] at H
     have c24b0 : (((ji10) / 4294967296) == 0) = J := beq_eq_false_iff_ne.mpr c24
     have c24b1 : (((ji10) / 4294967296) != 0) = F := bne_iff_ne.mpr c24
     have H' := Aside0.mk H
     clear H
     go_wp2
     repeat (go_quiet (fail); try go_wp2)
     go_loopg [16, 18] kj18 (fun kq v16 v18 w' => ∃ (x16_2 : Int) (x18_2 : Int), v16 = .int .u64 x16_2 ∧ v18 = .int .u64 x18_2 ∧ Aside0 (Qah.l1 kq ji10 ji8 ((ji10) / 4294967296) (Go.bits .and .u64 (ji10) 4294967295) (Go.bits .and .u64 (ji17) 4294967295) x15_18 x16_2 (IntKind.u64.wrap ((IntKind.u64.wrap ((IntKind.u64.wrap ((Go.bits .or .u64 (ji12) (ji15)) * 4294967296)) + ((ji17) / 4294967296))) - (IntKind.u64.wrap (x15_18 * ji10)))) x18_2 = some (r1, r2)) ∧ Aside0 (kq ≤ kj18) ∧ Drawn0 w w')
     case atStart => exact ⟨(IntKind.u64.wrap ((IntKind.u64.wrap ((IntKind.u64.wrap ((IntKind.u64.wrap ((Go.bits .or .u64 (ji12) (ji15)) * 4294967296)) + ((ji17) / 4294967296))) - (IntKind.u64.wrap (x15_18 * ji10)))) - (IntKind.u64.wrap ((IntKind.u64.wrap (Int.tdiv (IntKind.u64.wrap ((IntKind.u64.wrap ((IntKind.u64.wrap ((Go.bits .or .u64 (ji12) (ji15)) * 4294967296)) + ((ji17) / 4294967296))) - (IntKind.u64.wrap (x15_18 * ji10)))) ((ji10) / 4294967296))) * ((ji10) / 4294967296))))), (IntKind.u64.wrap (Int.tdiv (IntKind.u64.wrap ((IntKind.u64.wrap ((IntKind.u64.wrap ((Go.bits .or .u64 (ji12) (ji15)) * 4294967296)) + ((ji17) / 4294967296))) - (IntKind.u64.wrap (x15_18 * ji10)))) ((ji10) / 4294967296))), (by first | rfl | (simp; done) | (simp only [← hji10, ← hji12, ← hji15, ← hji17] <;> (first | rfl | simp)) | (simp [*]; done)), (by first | rfl | (simp; done) | (simp only [← hji10, ← hji12, ← hji15, ← hji17] <;> (first | rfl | simp)) | (simp [*]; done)), H', ⟨Nat.le_refl _⟩, Zd⟩
     case round =>
      clear H'
      try clear c1
      try clear c2
      try clear p2
      try clear c4
      try clear c4b0
      try clear c4b1
      try clear c5
      try clear c5b0
      try clear c6
      try clear c6b0
      try clear c6b1
      try clear c9
      try clear c9b0
      try clear c9b1
      try clear c10
      try clear c11
      try clear c11b0
      try clear c14
      try clear c14b0
      try clear c14b1
      try clear c16
      try clear c16b0
      try clear c18
      try clear c18b0
      try clear c18b1
      try clear c19
      try clear c21
      try clear c21b0
      try clear c22
      try clear c23
      try clear c23b0
      try clear c24
      try clear c24b0
      try clear c24b1
      try clear p2
      obtain ⟨x16_2, x18_2, rfl, rfl, HA, HK2, ⟨m2, rfl⟩⟩ := hrel
      cases gk with
      | zero => exact absurd HA.out (by simp [Qah.l1])
      | succ k2 =>
       have H := HA.out
       clear HA
       simp only [Qah.l1] at H
       have HC25 := Aside0.mk H
       clear H
       go_upto_region 24 with (fail)
       repeat (go_quiet (fail); go_upto_region 24 with (fail))
       go_cut [113] (fun v113 wc => ∃ (kq : Nat) (x113_24 : Bool), v113 = .bool x113_24 ∧ Aside0 (Qah.j4 kq ji10 ji8 ((ji10) / 4294967296) (Go.bits .and .u64 (ji10) 4294967295) (Go.bits .and .u64 (ji17) 4294967295) x15_18 x16_2 (IntKind.u64.wrap ((IntKind.u64.wrap ((IntKind.u64.wrap ((Go.bits .or .u64 (ji12) (ji15)) * 4294967296)) + ((ji17) / 4294967296))) - (IntKind.u64.wrap (x15_18 * ji10)))) x18_2 x113_24 = some (r1, r2)) ∧ Aside0 (kq ≤ k2) ∧ Drawn0 w wc)
       case first =>
        have H := HC25.out
        clear HC25
        by_cases c26 : x18_2 ≥ 4294967296
        ·rw [if_pos c26] at H
         have c26b0 : decide (4294967296 ≤ x18_2) = F := decide_eq_true c26
         clear c26
         have H' := Aside0.mk H
         clear H
         go_wp2
         repeat (go_quiet (fail); try go_wp2)
         go_meet
         case rel => exact ⟨_, (F), (Zs), H', ⟨by have := HJ18.out; have := HK2.out; first | omega | exact Nat.le_refl _⟩, Zd⟩
        rw [if_neg c26] at H
        have c26b0 : decide (4294967296 ≤ x18_2) = J := decide_eq_false c26
        clear c26
        have H' := Aside0.mk H
        clear H
        go_wp2
        repeat (go_quiet (fail); try go_wp2)
        go_meet
        case rel => exact ⟨_, (decide ((IntKind.u64.wrap (x18_2 * (Go.bits .and .u64 (ji10) 4294967295))) > (IntKind.u64.wrap ((IntKind.u64.wrap (4294967296 * x16_2)) + (Go.bits .and .u64 (ji17) 4294967295))))), (by first | rfl | (simp; done) | (simp only [← hji10, ← hji17] <;> (first | rfl | simp)) | (simp [*]; done)), H', ⟨by have := HJ18.out; have := HK2.out; first | omega | exact Nat.le_refl _⟩, Zd⟩
       case rest =>
        clear HC25
        try clear c1
        try clear c2
        try clear p2
        try clear c4
        try clear c4b0
        try clear c4b1
        try clear c5
        try clear c5b0
        try clear c6
        try clear c6b0
        try clear c6b1
        try clear c9
        try clear c9b0
        try clear c9b1
        try clear c10
        try clear c11
        try clear c11b0
        try clear c14
        try clear c14b0
        try clear c14b1
        try clear c16
        try clear c16b0
        try clear c18
        try clear c18b0
        try clear c18b1
        try clear c19
        try clear c21
        try clear c21b0
        try clear c22
        try clear c23
        try clear c23b0
        try clear c24
        try clear c24b0
        try clear c24b1
        try clear c26
        try clear c26b0
        try clear p2
        obtain ⟨kq, x113_24, rfl, HA, HJ24, ⟨mc24, rfl⟩⟩ := hcut
        cases kq with
        | zero => exact absurd HA.out (by simp [Qah.j4])
        | succ kj24 =>
         have H := HA.out
         clear HA
         simp only [Qah.j4] at H
         by_cases c27 : x113_24 = F
         ·subst c27
          have H1 : (if (IntKind.u64.wrap (x16_2 + ((ji10) / 4294967296))) ≥ 4294967296 then (if 0 ≤ ji8 then (some (IntKind.u64.wrap ((IntKind.u64.wrap (x15_18 * 4294967296)) + (IntKind.u64.wrap (x18_2 - 1))), shr .u64 (IntKind.u64.wrap ((IntKind.u64.wrap ((IntKind.u64.wrap ((IntKind.u64.wrap ((IntKind.u64.wrap ((IntKind.u64.wrap ((Go.bits .or .u64 (ji12) (ji15)) * 4294967296)) + ((ji17) / 4294967296))) - (IntKind.u64.wrap (x15_18 * ji10)))) * 4294967296)) + (Go.bits .and .u64 (ji17) 4294967295))) - (IntKind.u64.wrap ((IntKind.u64.wrap (x18_2 - 1)) * ji10)))) ji8)) else (none)) else (Qah.l1 kj24 ji10 ji8 ((ji10) / 4294967296) (Go.bits .and .u64 (ji10) 4294967295) (Go.bits .and .u64 (ji17) 4294967295) x15_18 (IntKind.u64.wrap (x16_2 + ((ji10) / 4294967296))) (IntKind.u64.wrap ((IntKind.u64.wrap ((IntKind.u64.wrap ((Go.bits .or .u64 (ji12) (ji15)) * 4294967296)) + ((ji17) / 4294967296))) - (IntKind.u64.wrap (x15_18 * ji10)))) (IntKind.u64.wrap (x18_2 - 1)))) = some (r1, r2) := by rw [if_pos rfl] at H; exact H
          clear H
          have H := H1
          clear H1
          by_cases c28 : (IntKind.u64.wrap (x16_2 + ((ji10) / 4294967296))) ≥ 4294967296
          ·rw [if_pos c28] at H
           have c28b0 : decide (4294967296 ≤ (IntKind.u64.wrap (x16_2 + ((ji10) / 4294967296)))) = F := decide_eq_true c28
           clear c28
           (try simp only [c28b0])
           by_cases c29 : 0 ≤ ji8
           ·rw [if_pos c29] at H
            have c29b0 := eq_true c29
            have c29b1 : decide (0 ≤ ji8) = F := decide_eq_true c29
            clear c29
            obtain ⟨ji30, hji30⟩ : ∃ j_ : Int, (shr .u64 (IntKind.u64.wrap ((IntKind.u64.wrap ((IntKind.u64.wrap ((IntKind.u64.wrap ((IntKind.u64.wrap ((IntKind.u64.wrap ((Go.bits .or .u64 (ji12) (ji15)) * 4294967296)) + ((ji17) / 4294967296))) - (IntKind.u64.wrap (x15_18 * ji10)))) * 4294967296)) + (Go.bits .and .u64 (ji17) 4294967295))) - (IntKind.u64.wrap ((IntKind.u64.wrap (x18_2 - 1)) * ji10)))) ji8) = j_ := ⟨_, rfl⟩
            replace H : (some (IntKind.u64.wrap ((IntKind.u64.wrap (x15_18 * 4294967296)) + (IntKind.u64.wrap (x18_2 - 1))), ji30)) = some (r1, r2) := by first | (rw [hji30] at H; exact H) | (simp only [hji30] at H ⊢; exact H)
            have hji30_ : ((IntKind.u64.wrap ((IntKind.u64.wrap ((IntKind.u64.wrap ((IntKind.u64.wrap ((IntKind.u64.wrap ((IntKind.u64.wrap ((Go.bits .or .u64 (ji12) (ji15)) * 4294967296)) + ((ji17) / 4294967296))) - (IntKind.u64.wrap (x15_18 * ji10)))) * 4294967296)) + (Go.bits .and .u64 (ji17) 4294967295))) - (IntKind.u64.wrap ((IntKind.u64.wrap (x18_2 - 1)) * ji10)))) / 2 ^ min ji8.toNat 64) = ji30 := hji30
            have hji30z : ji8 ≤ 64 → ((IntKind.u64.wrap ((IntKind.u64.wrap ((IntKind.u64.wrap ((IntKind.u64.wrap ((IntKind.u64.wrap ((IntKind.u64.wrap ((Go.bits .or .u64 (ji12) (ji15)) * 4294967296)) + ((ji17) / 4294967296))) - (IntKind.u64.wrap (x15_18 * ji10)))) * 4294967296)) + (Go.bits .and .u64 (ji17) 4294967295))) - (IntKind.u64.wrap ((IntKind.u64.wrap (x18_2 - 1)) * ji10)))) / 2 ^ ji8.toNat) = ji30 := QbN hji30
            simp only [Option.some.injEq, Prod.mk.injEq] at H
            obtain ⟨rfl, rfl⟩ := H
            go_wp2
            repeat (go_quiet (fail); try go_wp2)
            go_ret2
            exact ⟨by first | rfl | (simp; done) | (simp only [← hji8, ← hji10, ← hji12, ← hji13, ← hji15, ← hji17, ← hji30] <;> (first | rfl | simp)) | (simp [*]; done), Zd⟩
           rw [if_neg c29] at H
           exact absurd H (by simp)
          rw [if_neg c28] at H
          have c28b0 : decide (4294967296 ≤ (IntKind.u64.wrap (x16_2 + ((ji10) / 4294967296)))) = J := decide_eq_false c28
          clear c28
          (try simp only [c28b0])
          have H' := Aside0.mk H
          clear H
          go_wp2
          repeat (go_quiet (fail); try go_wp2)
          go_roundg kj24
          case measure => have := HJ18.out; have := HK2.out; have := HJ24.out; omega
          case rel => exact ⟨(IntKind.u64.wrap (x16_2 + ((ji10) / 4294967296))), (IntKind.u64.wrap (x18_2 - 1)), (by first | rfl | (simp; done) | (simp only [← hji10] <;> (first | rfl | simp)) | (simp [*]; done)), (Zs), H', ⟨by have := HJ18.out; have := HK2.out; have := HJ24.out; omega⟩, Zd⟩
         replace c27 := Bool.eq_false_iff.mpr c27
         subst c27
         have H1 : (if 0 ≤ ji8 then (some (IntKind.u64.wrap ((IntKind.u64.wrap (x15_18 * 4294967296)) + x18_2), shr .u64 (IntKind.u64.wrap ((IntKind.u64.wrap ((IntKind.u64.wrap ((IntKind.u64.wrap ((IntKind.u64.wrap ((IntKind.u64.wrap ((Go.bits .or .u64 (ji12) (ji15)) * 4294967296)) + ((ji17) / 4294967296))) - (IntKind.u64.wrap (x15_18 * ji10)))) * 4294967296)) + (Go.bits .and .u64 (ji17) 4294967295))) - (IntKind.u64.wrap (x18_2 * ji10)))) ji8)) else (none)) = some (r1, r2) := by rw [if_neg (show ¬ (J = F) by decide)] at H; exact H
         clear H
         have H := H1
         clear H1
         by_cases c31 : 0 ≤ ji8
         ·rw [if_pos c31] at H
          have c31b0 := eq_true c31
          have c31b1 : decide (0 ≤ ji8) = F := decide_eq_true c31
          clear c31
          obtain ⟨ji32, hji32⟩ : ∃ j_ : Int, (shr .u64 (IntKind.u64.wrap ((IntKind.u64.wrap ((IntKind.u64.wrap ((IntKind.u64.wrap ((IntKind.u64.wrap ((IntKind.u64.wrap ((Go.bits .or .u64 (ji12) (ji15)) * 4294967296)) + ((ji17) / 4294967296))) - (IntKind.u64.wrap (x15_18 * ji10)))) * 4294967296)) + (Go.bits .and .u64 (ji17) 4294967295))) - (IntKind.u64.wrap (x18_2 * ji10)))) ji8) = j_ := ⟨_, rfl⟩
          replace H : (some (IntKind.u64.wrap ((IntKind.u64.wrap (x15_18 * 4294967296)) + x18_2), ji32)) = some (r1, r2) := by first | (rw [hji32] at H; exact H) | (simp only [hji32] at H ⊢; exact H)
          have hji32_ : ((IntKind.u64.wrap ((IntKind.u64.wrap ((IntKind.u64.wrap ((IntKind.u64.wrap ((IntKind.u64.wrap ((IntKind.u64.wrap ((Go.bits .or .u64 (ji12) (ji15)) * 4294967296)) + ((ji17) / 4294967296))) - (IntKind.u64.wrap (x15_18 * ji10)))) * 4294967296)) + (Go.bits .and .u64 (ji17) 4294967295))) - (IntKind.u64.wrap (x18_2 * ji10)))) / 2 ^ min ji8.toNat 64) = ji32 := hji32
          have hji32z : ji8 ≤ 64 → ((IntKind.u64.wrap ((IntKind.u64.wrap ((IntKind.u64.wrap ((IntKind.u64.wrap ((IntKind.u64.wrap ((IntKind.u64.wrap ((Go.bits .or .u64 (ji12) (ji15)) * 4294967296)) + ((ji17) / 4294967296))) - (IntKind.u64.wrap (x15_18 * ji10)))) * 4294967296)) + (Go.bits .and .u64 (ji17) 4294967295))) - (IntKind.u64.wrap (x18_2 * ji10)))) / 2 ^ ji8.toNat) = ji32 := QbN hji32
          simp only [Option.some.injEq, Prod.mk.injEq] at H
          obtain ⟨rfl, rfl⟩ := H
          go_wp2
          repeat (go_quiet (fail); try go_wp2)
          go_ret2
          exact ⟨by first | rfl | (simp; done) | (simp only [← hji8, ← hji10, ← hji12, ← hji13, ← hji15, ← hji17, ← hji32] <;> (first | rfl | simp)) | (simp [*]; done), Zd⟩
         rw [if_neg c31] at H
         exact absurd H (by simp)
  rw [if_neg c14] at H
  exact absurd H (by simp)
 rw [if_neg c9] at H
 exact absurd H (by simp)
theorem d64_wr (x : Int) : IntKind.u64.wrap x = x % 18446744073709551616 := IntKind.wrap_u64 x
theorem QcL (U y q1 : Int) (hy : 0 < y) (h : q1 * y ≤ U) : q1 ≤ U / y := (Int.le_ediv_iff_mul_le hy).2 h
theorem QcM (U y q1 : Int) (hy : 0 < y) (h : U < q1 * y) : U / y < q1 := (Int.ediv_lt_iff_lt_mul hy).2 h
theorem QbJ (q yn1 yn0 : Int) : q * (yn1 * 4294967296 + yn0) = q * yn1 * 4294967296 + q * yn0 := by grind
structure Qbp (y yn1 yn0 un32 un1 q1 rhat : Int) : Prop where
 hy : y = yn1 * 4294967296 + yn0
 h1 : 2147483648 ≤ yn1
 h1' : yn1 < 4294967296
 h0 : 0 ≤ yn0
 h0' : yn0 < 4294967296
 hu : 0 ≤ un32
 hu' : un32 < y
 hn : 0 ≤ un1
 hn' : un1 < 4294967296
 hr : 0 ≤ rhat
 hr' : rhat < 4294967296
 hq : q1 * yn1 + rhat = un32
 hle : (un32 * 4294967296 + un1) / y ≤ q1
 hub : q1 ≤ 4294967297
theorem Qcn {y un32 un1 : Int} (hy : 0 < y) (hu : un32 < y) (hn : un1 < 4294967296) : (un32 * 4294967296 + un1) / y < 4294967296 := QcM _ _ _ hy (by omega)
theorem QbB {y un32 un1 : Int} (hy : 0 < y) (hu : 0 ≤ un32) (hn : 0 ≤ un1) : 0 ≤ (un32 * 4294967296 + un1) / y := Int.ediv_nonneg (by omega) (by omega)
theorem Qcs {a b A B : Int} (ha : 0 ≤ a) (hb : 0 ≤ b) (hA : a ≤ A) (hB : b ≤ B) : 0 ≤ a * b ∧ a * b ≤ A * B := ⟨Int.mul_nonneg ha hb, Int.mul_le_mul hA hB hb (by omega)⟩
theorem QbY {y yn1 yn0 un32 un1 q1 rhat : Int} (I : Qbp y yn1 yn0 un32 un1 q1 rhat) (h : 4294967296 ≤ q1 ∨ 4294967296 * rhat + un1 < q1 * yn0) : (un32 * 4294967296 + un1) / y ≤ q1 - 1 := by
 obtain ⟨hy, h1, h1', h0, h0', hu, hu', hn, hn', hr, hr', hq, hle, hub⟩ := I
 rcases h with h | h
 ·have := Qcn (y := y) (un32 := un32) (un1 := un1) (by omega) hu' hn'
  omega
 have e := QbJ q1 yn1 yn0
 have := QcM (un32 * 4294967296 + un1) y q1 (by omega) (by rw [hy, e]; omega)
 omega
theorem QcZ {y yn1 yn0 un32 un1 q1 rhat : Int} (I : Qbp y yn1 yn0 un32 un1 q1 rhat) (h : q1 * yn0 ≤ 4294967296 * rhat + un1) : (un32 * 4294967296 + un1) / y = q1 := by
 obtain ⟨hy, h1, h1', h0, h0', hu, hu', hn, hn', hr, hr', hq, hle, hub⟩ := I
 have e := QbJ q1 yn1 yn0
 have := QcL (un32 * 4294967296 + un1) y q1 (by omega) (by rw [hy, e]; omega)
 omega
theorem Qdl {y yn1 yn0 un32 un1 q1 rhat : Int} (I : Qbp y yn1 yn0 un32 un1 q1 rhat) (h : (un32 * 4294967296 + un1) / y ≤ q1 - 1) (hb : 4294967296 ≤ rhat + yn1) : (un32 * 4294967296 + un1) / y = q1 - 1 := by
 obtain ⟨hy, h1, h1', h0, h0', hu, hu', hn, hn', hr, hr', hq, hle, hub⟩ := I
 have e := QbJ (q1 - 1) yn1 yn0
 have e2 : (q1 - 1) * yn1 = q1 * yn1 - yn1 := by grind
 have hq0 := QbB (y := y) (un32 := un32) (un1 := un1) (by omega) hu hn
 have hm := (Qcs (a := q1 - 1) (b := yn0) (A := 4294967296) (B := 4294967295) (by omega) h0 (by omega) (by omega)).2
 have := QcL (un32 * 4294967296 + un1) y (q1 - 1) (by omega) (by rw [hy, e, e2]; omega)
 omega
theorem QcY {y yn1 yn0 un32 un1 q1 rhat : Int} (I : Qbp y yn1 yn0 un32 un1 q1 rhat) (h : (un32 * 4294967296 + un1) / y ≤ q1 - 1) (hb : rhat + yn1 < 4294967296) : Qbp y yn1 yn0 un32 un1 (q1 - 1) (rhat + yn1) := by
 obtain ⟨hy, h1, h1', h0, h0', hu, hu', hn, hn', hr, hr', hq, hle, hub⟩ := I
 exact ⟨hy, h1, h1', h0, h0', hu, hu', hn, hn', by omega, hb, by grind, h, by omega⟩
theorem QcK {y yn1 yn0 un32 un1 : Int} (hy : y = yn1 * 4294967296 + yn0) (h1 : 2147483648 ≤ yn1) (h1' : yn1 < 4294967296) (h0 : 0 ≤ yn0) (h0' : yn0 < 4294967296) (hu : 0 ≤ un32) (hu' : un32 < y) (hn : 0 ≤ un1) (hn' : un1 < 4294967296) :
  Qbp y yn1 yn0 un32 un1 (un32 / yn1) (un32 % yn1) := by
 have a := Int.emod_nonneg un32 (b := yn1) (by omega)
 have b := Int.emod_lt_of_pos un32 (b := yn1) (by omega)
 have c := Int.mul_ediv_add_emod un32 yn1
 have c' : un32 / yn1 * yn1 = yn1 * (un32 / yn1) := Int.mul_comm _ _
 refine ⟨hy, h1, h1', h0, h0', hu, hu', hn, hn', a, by omega, by omega, ?_, ?_⟩
 ·have hy0 : 0 < y := by omega
  have hq0 := QbB (y := y) (un32 := un32) (un1 := un1) hy0 hu hn
  generalize hq : (un32 * 4294967296 + un1) / y = q at *
  have h := Int.ediv_mul_le (un32 * 4294967296 + un1) (b := y) (by omega)
  rw [hq, hy, QbJ] at h
  have hz := Int.mul_nonneg hq0 h0
  exact (Int.le_ediv_iff_mul_le (by omega)).2 (by omega)
 have : un32 / yn1 < 4294967298 := (Int.ediv_lt_iff_lt_mul (by omega)).2 (by omega)
 omega
theorem QbH {y yn1 yn0 un32 un1 q1 rhat : Int} (I : Qbp y yn1 yn0 un32 un1 q1 rhat) (hq : ¬ 4294967296 ≤ q1) :
  IntKind.u64.wrap (q1 * yn0) = q1 * yn0 ∧ IntKind.u64.wrap (IntKind.u64.wrap (4294967296 * rhat) + un1) = 4294967296 * rhat + un1 := by
 obtain ⟨hy, h1, h1', h0, h0', hu, hu', hn, hn', hr, hr', hqq, hle, hub⟩ := I
 have hq0 := QbB (y := y) (un32 := un32) (un1 := un1) (by omega) hu hn
 have hm := Qcs (a := q1) (b := yn0) (A := 4294967295) (B := 4294967295) (by omega) h0 (by omega) (by omega)
 simp only [d64_wr]
 omega
theorem QdI (K : Nat) (ans : Option (Int × Int)) {y s yn1 yn0 un32 un1 un0 : Int} (hans : ∀ k, K ≤ k → Qah.j2 k y s yn1 yn0 un32 un1 un0 ((un32 * 4294967296 + un1) / y) = ans) :
  ∀ (n : Nat) (q1 rhat : Int) (k : Nat), Qbp y yn1 yn0 un32 un1 q1 rhat → 4294967296 - rhat ≤ n * 2147483648 → K + 2 * n + 2 ≤ k → Qah.l0 k y s yn1 yn0 un32 un1 un0 q1 rhat = ans := by
 intro n
 induction n with
 | zero => intro q1 rhat k I hm; have := I.hr'; omega
 | succ n ih =>
  intro q1 rhat k I hm hk
  obtain ⟨k, rfl⟩ : ∃ m, k = m + 2 := ⟨k - 2, by omega⟩
  have hq0 := QbB (y := y) (un32 := un32) (un1 := un1) (by have := I.hy; have := I.h1; have := I.h0; omega) I.hu I.hn
  have hub := I.hub
  have hle := I.hle
  have hr := I.hr
  have hr' := I.hr'
  have h1 := I.h1
  have h1' := I.h1'
  have w1 : IntKind.u64.wrap (rhat + yn1) = rhat + yn1 := by rw [d64_wr]; omega
  have yes : (un32 * 4294967296 + un1) / y ≤ q1 - 1 → Qah.j1 (k + 1) y s yn1 yn0 un32 un1 un0 q1 rhat F = ans := by
   intro h
   have w2 : IntKind.u64.wrap (q1 - 1) = q1 - 1 := by rw [d64_wr]; omega
   simp only [Qah.j1, if_true]
   rw [w1, w2]
   by_cases c : rhat + yn1 ≥ 4294967296
   ·rw [if_pos c, ← Qdl I h c]
    exact hans k (by omega)
   rw [if_neg c]
   exact ih (q1 - 1) (rhat + yn1) k (QcY I h (by omega)) (by omega) (by omega)
  simp only [Qah.l0]
  by_cases c : q1 ≥ 4294967296
  ·rw [if_pos c]
   exact yes (QbY I (.inl c))
  rw [if_neg c, (QbH I c).1, (QbH I c).2]
  by_cases d : q1 * yn0 > 4294967296 * rhat + un1
  ·rw [decide_eq_true d]
   exact yes (QbY I (.inr d))
  rw [decide_eq_false d]
  simp only [Qah.j1, Bool.false_eq_true, if_false]
  rw [← QcZ I (by omega)]
  exact hans k (by omega)
theorem QdJ {y s yn1 yn0 un21 un0 : Int} (q1 : Int) (hs : 0 ≤ s) (hq1 : 0 ≤ q1) (hq1' : q1 < 4294967296) (hyb : y < 18446744073709551616) :
  ∀ (n : Nat) (q0 rhat : Int) (k : Nat), Qbp y yn1 yn0 un21 un0 q0 rhat → 4294967296 - rhat ≤ n * 2147483648 → 2 * n + 2 ≤ k →
   Qah.l1 k y s yn1 yn0 un0 q1 rhat un21 q0 = some (q1 * 4294967296 + (un21 * 4294967296 + un0) / y, shr .u64 ((un21 * 4294967296 + un0) % y) s) := by
 intro n
 induction n with
 | zero => intro q1 rhat k I hm; have := I.hr'; omega
 | succ n ih =>
  intro q0 rhat k I hm hk
  obtain ⟨k, rfl⟩ : ∃ m, k = m + 2 := ⟨k - 2, by omega⟩
  have hy0 : 0 < y := by have := I.hy; have := I.h1; have := I.h0; omega
  have hq0 := QbB (y := y) (un32 := un21) (un1 := un0) hy0 I.hu I.hn
  have hql := Qcn (y := y) (un32 := un21) (un1 := un0) hy0 I.hu' I.hn'
  have hub := I.hub
  have hle := I.hle
  have hr := I.hr
  have hr' := I.hr'
  have h1 := I.h1
  have h1' := I.h1'
  have w1 : IntKind.u64.wrap (rhat + yn1) = rhat + yn1 := by rw [d64_wr]; omega
  have e1 := Int.emod_nonneg (un21 * 4294967296 + un0) (b := y) (by omega)
  have e2 := Int.emod_lt_of_pos (un21 * 4294967296 + un0) hy0
  have e3 := Int.mul_ediv_add_emod (un21 * 4294967296 + un0) y
  have e4 : (un21 * 4294967296 + un0) / y * y = y * ((un21 * 4294967296 + un0) / y) := Int.mul_comm _ _
  have fin : IntKind.u64.wrap (IntKind.u64.wrap (q1 * 4294967296) + (un21 * 4294967296 + un0) / y) = q1 * 4294967296 + (un21 * 4294967296 + un0) / y := by
   simp only [d64_wr]; omega
  have fin2 : IntKind.u64.wrap (IntKind.u64.wrap (IntKind.u64.wrap (un21 * 4294967296) + un0) - IntKind.u64.wrap ((un21 * 4294967296 + un0) / y * y)) = (un21 * 4294967296 + un0) % y := by
   simp only [d64_wr]; omega
  have yes : (un21 * 4294967296 + un0) / y ≤ q0 - 1 → Qah.j4 (k + 1) y s yn1 yn0 un0 q1 rhat un21 q0 F = some (q1 * 4294967296 + (un21 * 4294967296 + un0) / y, shr .u64 ((un21 * 4294967296 + un0) % y) s) := by
   intro h
   have w2 : IntKind.u64.wrap (q0 - 1) = q0 - 1 := by rw [d64_wr]; omega
   simp only [Qah.j4, if_true]
   rw [w1, w2]
   by_cases c : rhat + yn1 ≥ 4294967296
   ·rw [if_pos c, if_pos hs, ← Qdl I h c, fin, fin2]
   rw [if_neg c]
   exact ih (q0 - 1) (rhat + yn1) k (QcY I h (by omega)) (by omega) (by omega)
  simp only [Qah.l1]
  by_cases c : q0 ≥ 4294967296
  ·rw [if_pos c]
   exact yes (QbY I (.inl c))
  rw [if_neg c, (QbH I c).1, (QbH I c).2]
  by_cases d : q0 * yn0 > 4294967296 * rhat + un0
  ·rw [decide_eq_true d]
   exact yes (QbY I (.inr d))
  rw [decide_eq_false d]
  simp only [Qah.j4, Bool.false_eq_true, if_false]
  rw [if_pos hs, ← QcZ I (by omega), fin, fin2]
theorem QbP {a b : Int} (h : 0 ≤ a) : Int.tdiv a b = a / b := Int.tdiv_eq_ediv_of_nonneg h
theorem Qcm {y s yn1 yn0 un32 un1 un0 : Int} (hy : y = yn1 * 4294967296 + yn0) (h1 : 2147483648 ≤ yn1) (h1' : yn1 < 4294967296) (h0 : 0 ≤ yn0) (h0' : yn0 < 4294967296) (hu : 0 ≤ un32) (hu' : un32 < y) (hn : 0 ≤ un1) (hn' : un1 < 4294967296) (hm : 0 ≤ un0) (hm' : un0 < 4294967296) (hs : 0 ≤ s) (k : Nat) (hk : 20 ≤ k) :
  Qah.l0 k y s yn1 yn0 un32 un1 un0 (un32 / yn1) (un32 % yn1) = some ((un32 * 18446744073709551616 + un1 * 4294967296 + un0) / y, shr .u64 ((un32 * 18446744073709551616 + un1 * 4294967296 + un0) % y) s) := by
 have hy0 : 0 < y := by omega
 have hyb : y < 18446744073709551616 := by omega
 have f1 := QbB (y := y) (un32 := un32) (un1 := un1) hy0 hu hn
 have f2 := Qcn (y := y) (un32 := un32) (un1 := un1) hy0 hu' hn'
 have e1 := Int.emod_nonneg (un32 * 4294967296 + un1) (b := y) (by omega)
 have e2 := Int.emod_lt_of_pos (un32 * 4294967296 + un1) hy0
 have e3 := Int.mul_ediv_add_emod (un32 * 4294967296 + un1) y
 have e4 : (un32 * 4294967296 + un1) / y * y = y * ((un32 * 4294967296 + un1) / y) := Int.mul_comm _ _
 refine QdI 12 _ ?_ 2 _ _ k (QcK hy h1 h1' h0 h0' hu hu' hn hn') (by have := Int.emod_nonneg un32 (b := yn1) (by omega); omega) (by omega)
 intro k hk
 obtain ⟨k, rfl⟩ : ∃ m, k = m + 1 := ⟨k - 1, by omega⟩
 simp only [Qah.j2]
 rw [if_neg (by omega)]
 have g1 : IntKind.u64.wrap (IntKind.u64.wrap (IntKind.u64.wrap (un32 * 4294967296) + un1) - IntKind.u64.wrap ((un32 * 4294967296 + un1) / y * y)) = (un32 * 4294967296 + un1) % y := by
  simp only [d64_wr]; omega
 rw [g1, QbP e1]
 generalize hr : (un32 * 4294967296 + un1) % y = r at *
 generalize hq : (un32 * 4294967296 + un1) / y = q at *
 have c := Int.mul_ediv_add_emod r yn1
 have c' : r / yn1 * yn1 = yn1 * (r / yn1) := Int.mul_comm _ _
 have a := Int.emod_nonneg r (b := yn1) (by omega)
 have b := Int.emod_lt_of_pos r (b := yn1) (by omega)
 have d0 : 0 ≤ r / yn1 := Int.ediv_nonneg e1 (by omega)
 have d1 : r / yn1 ≤ r := Int.ediv_le_self _ e1
 have g2 : IntKind.u64.wrap (r / yn1) = r / yn1 := by rw [d64_wr]; omega
 have g3 : IntKind.u64.wrap (r - IntKind.u64.wrap (r / yn1 * yn1)) = r % yn1 := by simp only [d64_wr]; omega
 rw [g2, g3]
 rw [QdJ q hs f1 f2 hyb 2 _ _ k (QcK hy h1 h1' h0 h0' e1 e2 hm hm') (by omega) (by omega)]
 have h5 : un32 * 18446744073709551616 + un1 * 4294967296 + un0 = (r * 4294967296 + un0) + (q * 4294967296) * y := by
  have : (q * 4294967296) * y = 4294967296 * (y * q) := by grind
  omega
 rw [h5, Int.add_mul_ediv_right _ _ (by omega), Int.add_mul_emod_self_right]
 rw [Int.add_comm]
theorem Qcg (a : Int) (h : 0 ≤ a) (h' : a < 18446744073709551616) : Go.bits .and .u64 a 4294967295 = a % 4294967296 := by
 obtain ⟨n, rfl⟩ := Int.eq_ofNat_of_zero_le h
 have h2 := bits_and_u64_nat n 4294967295 (by omega) (by omega)
 have e : n &&& 4294967295 = n % 4294967296 := Nat.and_two_pow_sub_one_eq_mod n 32
 rw [e] at h2
 rw [show ((4294967295 : Nat) : Int) = 4294967295 from rfl] at h2
 rw [h2]
 omega
theorem Qdz (a b S : Nat) (hb : b < 2 ^ S) (h : a * 2 ^ S + b < 18446744073709551616) : Go.bits .or .u64 ((a * 2 ^ S : Nat) : Int) (b : Int) = ((a * 2 ^ S + b : Nat) : Int) := by
 rw [bits_or_u64_nat _ _ (by omega) (by omega)]
 have e := Nat.shiftLeft_add_eq_or_of_lt hb a
 rw [Nat.shiftLeft_eq] at e
 rw [e]
theorem QbG (S : Nat) : (2 : Int) ^ S = ((2 ^ S : Nat) : Int) := by simp
theorem QbO (x S : Nat) (hS : S ≤ 64) : shl .u64 (x : Int) (S : Int) = ((x * 2 ^ S % 18446744073709551616 : Nat) : Int) := by
 unfold shl
 rw [Int.toNat_natCast, Nat.min_eq_left (by exact hS), QbG, d64_wr]
 omega
theorem Qdc (x S : Nat) (hS : S ≤ 64) : shr .u64 (x : Int) (S : Int) = ((x / 2 ^ S : Nat) : Int) := by
 unfold shr
 rw [Int.toNat_natCast, Nat.min_eq_left (by exact hS), QbG]
 omega
theorem QdX (y : Nat) (h0 : y ≠ 0) (h : y < 18446744073709551616) : 1 ≤ Lib.bitLen y ∧ Lib.bitLen y ≤ 64 ∧ 9223372036854775808 ≤ y * 2 ^ (64 - Lib.bitLen y) ∧ y * 2 ^ (64 - Lib.bitLen y) < 18446744073709551616 := by
 obtain ⟨a, b, c⟩ := Lib.bitLenAux_bounds 64 y h h0
 have d := Lib.bitLen_le y 64 (by omega) h
 change 1 ≤ Lib.bitLen y at a
 change 2 ^ (Lib.bitLen y - 1) ≤ y at b
 change y < 2 ^ Lib.bitLen y at c
 generalize Lib.bitLen y = L at *
 refine ⟨a, d, ?_, ?_⟩
 ·have := Nat.mul_le_mul_right (2 ^ (64 - L)) b
  rw [← Nat.pow_add, show L - 1 + (64 - L) = 63 by omega] at this
  omega
 have := Nat.mul_lt_mul_of_pos_right c (Nat.two_pow_pos (64 - L))
 rw [← Nat.pow_add, show L + (64 - L) = 64 by omega] at this
 omega
theorem Qah.eq (hi lo y : Int) (h0 : 0 ≤ hi) (h1 : hi < y) (hy : y < 18446744073709551616) (hl : 0 ≤ lo) (hl' : lo < 18446744073709551616) (k : Nat) (hk : 20 ≤ k) :
  Qah.f k hi lo y = some ((hi * 18446744073709551616 + lo) / y, (hi * 18446744073709551616 + lo) % y) := by
 unfold Qah.f
 rw [if_neg (by omega), if_neg (by omega)]
 by_cases c : hi = 0
 ·rw [if_pos c]
  subst c
  have a := Int.ediv_nonneg hl (show 0 ≤ y by omega)
  have b := Int.ediv_le_self y hl
  rw [QbP hl, Int.tmod_eq_emod_of_nonneg hl, d64_wr, show (0 : Int) * 18446744073709551616 + lo = lo by omega, Int.emod_eq_of_lt a (by omega)]
 rw [if_neg c]
 obtain ⟨H, rfl⟩ := Int.eq_ofNat_of_zero_le h0
 obtain ⟨Lo, rfl⟩ := Int.eq_ofNat_of_zero_le hl
 obtain ⟨Y, rfl⟩ := Int.eq_ofNat_of_zero_le (show 0 ≤ y by omega)
 obtain ⟨n1, n2, n3, n4⟩ := QdX Y (by omega) (by omega)
 unfold QaY.f QaO.f
 rw [if_pos (by omega), Int.toNat_natCast]
 simp only [Option.bind_some]
 generalize Lib.bitLen Y = L at *
 obtain ⟨S, hS, hS63⟩ : ∃ S : Nat, S = 64 - L ∧ S ≤ 63 := ⟨64 - L, rfl, by omega⟩
 have e1 : IntKind.u64.wrap (wrap64 (64 - (L : Int))) = (S : Int) := by rw [d64_wr]; unfold wrap64; omega
 have e2 : IntKind.u64.wrap (64 - (S : Int)) = ((64 - S : Nat) : Int) := by rw [d64_wr]; omega
 rw [e1, e2, if_pos (by omega), if_pos (by omega)]
 rw [← hS] at n3 n4
 have hHS : H * 2 ^ S + 2 ^ S ≤ Y * 2 ^ S := by
  have := Nat.mul_le_mul_right (2 ^ S) (show H + 1 ≤ Y by omega)
  rw [Nat.add_mul] at this
  omega
 have hp : 2 ^ (64 - S) * 2 ^ S = 18446744073709551616 := by rw [← Nat.pow_add, show 64 - S + S = 64 by omega]
 have hd : Lo * 2 ^ S / 18446744073709551616 = Lo / 2 ^ (64 - S) := by rw [← hp, Nat.mul_div_mul_right _ _ (Nat.two_pow_pos S)]
 have hpos := Nat.two_pow_pos S
 have hlow : Lo / 2 ^ (64 - S) < 2 ^ S := by
  rw [Nat.div_lt_iff_lt_mul (Nat.two_pow_pos _), Nat.mul_comm, hp]
  omega
 rw [QbO Y S (by omega), QbO H S (by omega), QbO Lo S (by omega), Qdc Lo (64 - S) (by omega)]
 rw [Nat.mod_eq_of_lt n4, Nat.mod_eq_of_lt (show H * 2 ^ S < 18446744073709551616 by omega)]
 rw [Qdz H _ S hlow (by omega)]
 rw [Qcg _ (by omega) (by omega), Qcg _ (by omega) (by omega)]
 have hmod := Nat.div_add_mod (Lo * 2 ^ S) 18446744073709551616
 rw [hd] at hmod
 have key : (H * 2 ^ S + Lo / 2 ^ (64 - S)) * 18446744073709551616 + Lo * 2 ^ S % 18446744073709551616 = (H * 18446744073709551616 + Lo) * 2 ^ S := by
  have t1 : (H * 18446744073709551616 + Lo) * 2 ^ S = (H * 2 ^ S) * 18446744073709551616 + Lo * 2 ^ S := by grind
  omega
 generalize hP : 2 ^ S = P at *
 generalize hA : H * P + Lo / 2 ^ (64 - S) = un32 at *
 generalize hB : Lo * P % 18446744073709551616 = un10 at *
 have hun32 : un32 < Y * P := by omega
 have hun10 : un10 < 18446744073709551616 := by omega
 rw [if_neg (by omega)]
 have t0 : (0 : Int) ≤ (un32 : Int) := by omega
 rw [QbP t0]
 have q0 : (0 : Int) ≤ (un32 : Int) / (((Y * P : Nat) : Int) / 4294967296) := Int.ediv_nonneg t0 (by omega)
 have q1 := Int.ediv_le_self (((Y * P : Nat) : Int) / 4294967296) t0
 have m1 := Int.mul_ediv_add_emod (un32 : Int) (((Y * P : Nat) : Int) / 4294967296)
 have m2 := Int.emod_nonneg (un32 : Int) (b := ((Y * P : Nat) : Int) / 4294967296) (by omega)
 have m3 := Int.emod_lt_of_pos (un32 : Int) (b := ((Y * P : Nat) : Int) / 4294967296) (by omega)
 have m4 : (un32 : Int) / (((Y * P : Nat) : Int) / 4294967296) * (((Y * P : Nat) : Int) / 4294967296) = (((Y * P : Nat) : Int) / 4294967296) * ((un32 : Int) / (((Y * P : Nat) : Int) / 4294967296)) := Int.mul_comm _ _
 have g2 : IntKind.u64.wrap ((un32 : Int) / (((Y * P : Nat) : Int) / 4294967296)) = (un32 : Int) / (((Y * P : Nat) : Int) / 4294967296) := by rw [d64_wr]; omega
 have g3 : IntKind.u64.wrap ((un32 : Int) - IntKind.u64.wrap ((un32 : Int) / (((Y * P : Nat) : Int) / 4294967296) * (((Y * P : Nat) : Int) / 4294967296))) = (un32 : Int) % (((Y * P : Nat) : Int) / 4294967296) := by simp only [d64_wr]; omega
 rw [g2, g3]
 rw [Qcm (by omega) (by omega) (by omega) (by omega) (by omega) (by omega) (by omega) (by omega) (by omega) (by omega) (by omega) (by omega) k hk]
 have key2 : (un32 : Int) * 18446744073709551616 + (un10 : Int) / 4294967296 * 4294967296 + (un10 : Int) % 4294967296 = ((H : Int) * 18446744073709551616 + (Lo : Int)) * (P : Int) := by
  have := congrArg (fun z : Nat => (z : Int)) key
  simp only [Int.natCast_add, Int.natCast_mul, show ((18446744073709551616 : Nat) : Int) = 18446744073709551616 from rfl] at this
  omega
 have hP0 : (0 : Int) < (P : Int) := by omega
 have r2 : ((H : Int) * 18446744073709551616 + (Lo : Int)) * (P : Int) % ((Y : Int) * (P : Int)) = ((H : Int) * 18446744073709551616 + (Lo : Int)) % (Y : Int) * (P : Int) := by
  rw [Int.mul_comm _ (P : Int), Int.mul_comm (Y : Int) (P : Int), Int.mul_emod_mul_of_pos _ _ hP0, Int.mul_comm]
 rw [key2, Int.natCast_mul, Int.mul_ediv_mul_of_pos_left _ _ hP0, r2]
 have f1 : shr .u64 (((H : Int) * 18446744073709551616 + (Lo : Int)) % (Y : Int) * (P : Int)) (S : Int) = ((H : Int) * 18446744073709551616 + (Lo : Int)) % (Y : Int) := by
  unfold shr
  rw [Int.toNat_natCast, Nat.min_eq_left (show S ≤ IntKind.u64.bits by show S ≤ 64; omega), QbG, hP, Int.mul_ediv_cancel _ (by omega)]
 rw [f1]
set_option maxHeartbeats 4000000 in
theorem Qav.bad (a0 a1 a2 a3 : Int) (w : World) (h : ¬ (mdFits a0 ∧ mdFits a1 ∧ mdFits a2 ∧ 1 ≤ a3 ∧ a3 ≤ 5)) :
  Calls Try.prog 96 #[.int .i64 a0, .int .i64 a1, .int .i64 a2, .int .i64 a3] w fun e w' => e = .returned (.tuple #[.int .i64 0, .int .i64 2]) ∧ w' = w := by
 rcases Qb8 a0 a1 a2 a3 h with h1 | h1 | ⟨⟨h1, h2⟩, h3⟩ | ⟨⟨h1, h2⟩, h3⟩ | ⟨⟨h1, h2⟩, ⟨h3, h4⟩, h5⟩ | ⟨⟨h1, h2⟩, ⟨h3, h4⟩, h5⟩ | ⟨⟨h1, h2⟩, ⟨h3, h4⟩, ⟨h5, h6⟩, h7⟩ | ⟨⟨h1, h2⟩, ⟨h3, h4⟩, ⟨h5, h6⟩, h7⟩
 all_goals
  clear h
  go_enter Try.func96, Try.ntmps96
  go_wp2
  go_ret2
  exact ⟨rfl, rfl⟩
theorem Qah.walkp (p y : Nat) (h : p / 18446744073709551616 < y) (hy : y < 18446744073709551616) (w : World) :
  Calls Try.prog 103 #[.int .u64 ((p / 18446744073709551616 : Nat) : Int), .int .u64 ((p % 18446744073709551616 : Nat) : Int), .int .u64 (y : Int)] w fun e w' =>
   e = .returned (.tuple #[.int .u64 ((p / y : Nat) : Int), .int .u64 ((p % y : Nat) : Int)]) ∧ Drawn0 w w' := by
 have e := Qah.eq ((p / 18446744073709551616 : Nat) : Int) ((p % 18446744073709551616 : Nat) : Int) (y : Int) (by omega) (by omega) (by omega) (by omega) (by omega) 20 (by omega)
 have e2 : ((p / 18446744073709551616 : Nat) : Int) * 18446744073709551616 + ((p % 18446744073709551616 : Nat) : Int) = (p : Int) := by omega
 rw [e2] at e
 exact Qah.calls 20 _ _ _ _ _ w (by rw [e]; rfl)
def mdHalf (q r c : Int) : Bool := decide (c - r < r) || (decide (r = c - r) && decide (q % 2 = 1))
set_option maxHeartbeats 1000000 in
theorem Qdb.half (q r c : Int) (b1 b2 : Nat) (w : World) (hm : w.cell? ⟨b1, 0, none⟩ = some (.int .i64 5)) (h0 : 0 ≤ q) (h1 : 0 ≤ r) (h2 : r < c) (h3 : c ≤ 1152921504606846976) :
  Calls Try.prog 106 #[.int .u64 q, .int .u64 r, .int .u64 c, .pointer (some ⟨b1, 0, none⟩), .pointer (some ⟨b2, 0, none⟩)] w fun e w' => e = .returned (.bool (mdHalf q r c)) ∧ w' = w := by
 by_cases g1 : c - r < r
 ·have e : mdHalf q r c = F := by unfold mdHalf; rw [decide_eq_true g1]; rfl
  rw [e]
  go_enter Try.func106, Try.ntmps106
  go_wp2
  go_ret
  exact ⟨rfl, rfl⟩
 by_cases g2 : r = c - r
 ·have f2 : (r == c - r) = F := beq_iff_eq.mpr g2
  by_cases g3 : q % 2 = 1
  ·have f3 : (q % 2 == 1) = F := beq_iff_eq.mpr g3
   have e : mdHalf q r c = F := by unfold mdHalf; rw [decide_eq_true g2, decide_eq_true g3, decide_eq_false g1]; rfl
   rw [e]
   clear g2 g3 e
   go_enter Try.func106, Try.ntmps106
   go_wp2
   go_ret
   exact ⟨rfl, rfl⟩
  have f3 : (q % 2 == 1) = J := beq_eq_false_iff_ne.mpr g3
  have e : mdHalf q r c = J := by unfold mdHalf; rw [decide_eq_true g2, decide_eq_false g3, decide_eq_false g1]; rfl
  rw [e]
  clear g2 g3 e
  go_enter Try.func106, Try.ntmps106
  go_wp2
  go_ret
  exact ⟨rfl, rfl⟩
 have f2 : (r == c - r) = J := beq_eq_false_iff_ne.mpr g2
 have e : mdHalf q r c = J := by unfold mdHalf; rw [decide_eq_false g2, decide_eq_false g1]; rfl
 rw [e]
 clear e
 go_enter Try.func106, Try.ntmps106
 go_wp2
 go_ret
 exact ⟨rfl, rfl⟩
def mdSgn (q : Int) (b : Bool) : Int × Int := if q > 1152921504606846976 then (0, 3) else if b = F then (wrap64 (-(wrap64 q)), 0) else (wrap64 q, 0)
theorem md_sgn (q : Int) (b : Bool) : QaV.f q b = some ((mdSgn q b).1, (mdSgn q b).2) := by
 unfold QaV.f mdSgn
 repeat' split
 all_goals rfl
theorem QdP (q : Int) (b : Bool) (h : 0 ≤ q) : mdSgn q b = if 1152921504606846976 < q then (0, 3) else (if b = F then -q else q, 0) := by
 unfold mdSgn
 by_cases c : q > 1152921504606846976
 ·rw [if_pos c, if_pos c]
 rw [if_neg c, if_neg c]
 cases b <;> simp [wrap64] <;> omega
set_option maxHeartbeats 4000000 in
theorem Qav.m0 (a0 a1 a2 a3 : Int) (w : World) (h1 : -1152921504606846976 ≤ a0) (h2 : a0 ≤ 1152921504606846976) (h3 : -1152921504606846976 ≤ a1) (h4 : a1 ≤ 1152921504606846976)
  (h5 : -1152921504606846976 ≤ a2) (h6 : a2 ≤ 1152921504606846976) (hc : (a2 == 0) = J) (m1 : 1 ≤ a3) (m2 : a3 ≤ 5)
  (hh : a0.natAbs * a1.natAbs / 18446744073709551616 < a2.natAbs) (hq : (a0.natAbs : Int) * a1.natAbs / a2.natAbs ≤ 1152921504606846976) (hr : (a0.natAbs : Int) * a1.natAbs % a2.natAbs ≤ 0) :
  Calls Try.prog 96 #[.int .i64 a0, .int .i64 a1, .int .i64 a2, .int .i64 a3] w fun e w' => e = .returned (.tuple #[.int .i64 (mdSgn ((a0.natAbs : Int) * a1.natAbs / a2.natAbs) (Qa7 a0 a1 a2)).1, .int .i64 (mdSgn ((a0.natAbs : Int) * a1.natAbs / a2.natAbs) (Qa7 a0 a1 a2)).2]) ∧ Below w.heap.size w w' := by
 have hmf : ∀ (fn : Fn) (first cap : Array Value) (w : World), (Instr.makeFunc fn first cap).run Try.prog w = .ok (.func fn first cap) w := fun _ _ _ _ => rfl
 go_enter Try.func96, Try.ntmps96
 go_wp2_with (first | (go_at_call 90; refine (Qa2.walk _ _ (by omega) (by omega)).mono ?_; rintro e w' ⟨rfl, rfl⟩) | (go_at_call 89; refine (Qa1.walk _ _ (by omega) (by omega) _).mono ?_; rintro e w' ⟨rfl, rfl⟩) | (go_at_call 103; refine (Qah.walkp _ _ hh (by omega) _).mono ?_; rintro e w1 ⟨rfl, hd⟩) | (go_at_call 91; refine (QaV.calls _ _ _ _ _ (md_sgn _ _)).mono ?_; rintro e w2 ⟨rfl, hd2⟩) | (go_at_call 88; go_in) | (go_at_call 104; go_in))
 go_ret2
 exact ⟨rfl, QbV hd.below hd.below.size hd2.below⟩
set_option maxHeartbeats 4000000 in
theorem Qav.o1 (a0 a1 a2 a3 : Int) (w : World) (h1 : -1152921504606846976 ≤ a0) (h2 : a0 ≤ 1152921504606846976) (h3 : -1152921504606846976 ≤ a1) (h4 : a1 ≤ 1152921504606846976)
  (h5 : -1152921504606846976 ≤ a2) (h6 : a2 ≤ 1152921504606846976) (hc : (a2 == 0) = J) (m1 : 1 ≤ a3) (m2 : a3 ≤ 5)
  (hh : (a2.natAbs : Int) ≤ (a0.natAbs : Int) * a1.natAbs / 18446744073709551616) :
  Calls Try.prog 96 #[.int .i64 a0, .int .i64 a1, .int .i64 a2, .int .i64 a3] w fun e w' => e = .returned (.tuple #[.int .i64 0, .int .i64 3]) ∧ Below w.heap.size w w' := by
 go_enter Try.func96, Try.ntmps96
 go_wp2_with (first | (go_at_call 90; refine (Qa2.walk _ _ (by omega) (by omega)).mono ?_; rintro e w' ⟨rfl, rfl⟩) | (go_at_call 89; refine (Qa1.walk _ _ (by omega) (by omega) _).mono ?_; rintro e w' ⟨rfl, rfl⟩) | (go_at_call 103; refine (Qah.walkp _ _ hh (by omega) _).mono ?_; rintro e w1 ⟨rfl, hd⟩) | (go_at_call 91; refine (QaV.calls _ _ _ _ _ (md_sgn _ _)).mono ?_; rintro e w2 ⟨rfl, hd2⟩) | (go_at_call 88; go_in) | (go_at_call 104; go_in))
 go_ret2
 exact ⟨rfl, Below.refl _ _⟩
set_option maxHeartbeats 4000000 in
theorem Qav.o2 (a0 a1 a2 a3 : Int) (w : World) (h1 : -1152921504606846976 ≤ a0) (h2 : a0 ≤ 1152921504606846976) (h3 : -1152921504606846976 ≤ a1) (h4 : a1 ≤ 1152921504606846976)
  (h5 : -1152921504606846976 ≤ a2) (h6 : a2 ≤ 1152921504606846976) (hc : (a2 == 0) = J) (m1 : 1 ≤ a3) (m2 : a3 ≤ 5)
  (hh : a0.natAbs * a1.natAbs / 18446744073709551616 < a2.natAbs) (hq : 1152921504606846976 < (a0.natAbs : Int) * a1.natAbs / a2.natAbs) :
  Calls Try.prog 96 #[.int .i64 a0, .int .i64 a1, .int .i64 a2, .int .i64 a3] w fun e w' => e = .returned (.tuple #[.int .i64 0, .int .i64 3]) ∧ Below w.heap.size w w' := by
 go_enter Try.func96, Try.ntmps96
 go_wp2_with (first | (go_at_call 90; refine (Qa2.walk _ _ (by omega) (by omega)).mono ?_; rintro e w' ⟨rfl, rfl⟩) | (go_at_call 89; refine (Qa1.walk _ _ (by omega) (by omega) _).mono ?_; rintro e w' ⟨rfl, rfl⟩) | (go_at_call 103; refine (Qah.walkp _ _ hh (by omega) _).mono ?_; rintro e w1 ⟨rfl, hd⟩) | (go_at_call 91; refine (QaV.calls _ _ _ _ _ (md_sgn _ _)).mono ?_; rintro e w2 ⟨rfl, hd2⟩) | (go_at_call 88; go_in) | (go_at_call 104; go_in))
 go_ret2
 exact ⟨rfl, hd.below⟩
set_option maxHeartbeats 4000000 in
theorem Qav.z (a0 a1 a2 a3 : Int) (w : World) (h1 : -1152921504606846976 ≤ a0) (h2 : a0 ≤ 1152921504606846976) (h3 : -1152921504606846976 ≤ a1) (h4 : a1 ≤ 1152921504606846976)
  (h5 : -1152921504606846976 ≤ a2) (h6 : a2 ≤ 1152921504606846976) (hc : (a2 == 0) = F) (m1 : 1 ≤ a3) (m2 : a3 ≤ 5) :
  Calls Try.prog 96 #[.int .i64 a0, .int .i64 a1, .int .i64 a2, .int .i64 a3] w fun e w' => e = .returned (.tuple #[.int .i64 0, .int .i64 4]) ∧ Below w.heap.size w w' := by
 go_enter Try.func96, Try.ntmps96
 go_wp2_with (go_at_call 88; go_in)
 go_ret2
 exact ⟨rfl, Below.refl _ _⟩
theorem md_end {w w1 w2 : World} {o1 o2 : Obj} (hd : Drawn0 w w1) (hd2 : Drawn0 ((w1.alloc o1).alloc o2) w2) : Below w.heap.size w w2 :=
 QbV (Qae (Qae hd.below _) _) (Nat.le_trans hd.below.size (by simp; omega)) hd2.below
set_option maxHeartbeats 4000000 in
theorem Qav.r1 (a0 a1 a2 : Int) (w : World) (h1 : -1152921504606846976 ≤ a0) (h2 : a0 ≤ 1152921504606846976) (h3 : -1152921504606846976 ≤ a1) (h4 : a1 ≤ 1152921504606846976)
  (h5 : -1152921504606846976 ≤ a2) (h6 : a2 ≤ 1152921504606846976) (hc : (a2 == 0) = J)
  (hh : a0.natAbs * a1.natAbs / 18446744073709551616 < a2.natAbs) (hq : (a0.natAbs : Int) * a1.natAbs / a2.natAbs ≤ 1152921504606846976) (hr : 0 < (a0.natAbs : Int) * a1.natAbs % a2.natAbs) :
  Calls Try.prog 96 #[.int .i64 a0, .int .i64 a1, .int .i64 a2, .int .i64 1] w fun e w' => e = .returned (.tuple #[.int .i64 (mdSgn ((a0.natAbs : Int) * a1.natAbs / a2.natAbs) (Qa7 a0 a1 a2)).1, .int .i64 (mdSgn ((a0.natAbs : Int) * a1.natAbs / a2.natAbs) (Qa7 a0 a1 a2)).2]) ∧ Below w.heap.size w w' := by
 have hmf : ∀ (fn : Fn) (first cap : Array Value) (w : World), (Instr.makeFunc fn first cap).run Try.prog w = .ok (.func fn first cap) w := fun _ _ _ _ => rfl
 go_enter Try.func96, Try.ntmps96
 go_wp2_with (first | (go_at_call 90; refine (Qa2.walk _ _ (by omega) (by omega)).mono ?_; rintro e w' ⟨rfl, rfl⟩) | (go_at_call 89; refine (Qa1.walk _ _ (by omega) (by omega) _).mono ?_; rintro e w' ⟨rfl, rfl⟩) | (go_at_call 103; refine (Qah.walkp _ _ hh (by omega) _).mono ?_; rintro e w1 ⟨rfl, hd⟩) | (go_at_call 91; refine (QaV.calls _ _ _ _ _ (md_sgn _ _)).mono ?_; rintro e w2 ⟨rfl, hd2⟩) | (go_at_call 88; go_in) | (go_at_call 104; go_in) | (go_at_call 106; go_in))
 go_ret2
 exact ⟨rfl, md_end hd hd2⟩
set_option maxHeartbeats 4000000 in
theorem Qav.r2 (a0 a1 a2 : Int) (w : World) (h1 : -1152921504606846976 ≤ a0) (h2 : a0 ≤ 1152921504606846976) (h3 : -1152921504606846976 ≤ a1) (h4 : a1 ≤ 1152921504606846976)
  (h5 : -1152921504606846976 ≤ a2) (h6 : a2 ≤ 1152921504606846976) (hc : (a2 == 0) = J)
  (hh : a0.natAbs * a1.natAbs / 18446744073709551616 < a2.natAbs) (hq : (a0.natAbs : Int) * a1.natAbs / a2.natAbs ≤ 1152921504606846976) (hr : 0 < (a0.natAbs : Int) * a1.natAbs % a2.natAbs) :
  Calls Try.prog 96 #[.int .i64 a0, .int .i64 a1, .int .i64 a2, .int .i64 2] w fun e w' => e = .returned (.tuple #[.int .i64 (mdSgn ((a0.natAbs : Int) * a1.natAbs / a2.natAbs + 1) (Qa7 a0 a1 a2)).1, .int .i64 (mdSgn ((a0.natAbs : Int) * a1.natAbs / a2.natAbs + 1) (Qa7 a0 a1 a2)).2]) ∧ Below w.heap.size w w' := by
 have hmf : ∀ (fn : Fn) (first cap : Array Value) (w : World), (Instr.makeFunc fn first cap).run Try.prog w = .ok (.func fn first cap) w := fun _ _ _ _ => rfl
 have hw : IntKind.u64.wrap ((a0.natAbs : Int) * a1.natAbs / a2.natAbs + 1) = (a0.natAbs : Int) * a1.natAbs / a2.natAbs + 1 := by
  have : 0 ≤ (a0.natAbs : Int) * a1.natAbs / a2.natAbs := Int.ediv_nonneg (Int.mul_nonneg (by omega) (by omega)) (by omega)
  rw [IntKind.wrap_u64]; omega
 go_enter Try.func96, Try.ntmps96
 go_wp2_with (first | (go_at_call 90; refine (Qa2.walk _ _ (by omega) (by omega)).mono ?_; rintro e w' ⟨rfl, rfl⟩) | (go_at_call 89; refine (Qa1.walk _ _ (by omega) (by omega) _).mono ?_; rintro e w' ⟨rfl, rfl⟩) | (go_at_call 103; refine (Qah.walkp _ _ hh (by omega) _).mono ?_; rintro e w1 ⟨rfl, hd⟩) | (go_at_call 91; refine (QaV.calls _ _ _ _ _ (md_sgn _ _)).mono ?_; rintro e w2 ⟨rfl, hd2⟩) | (go_at_call 88; go_in) | (go_at_call 104; go_in) | (go_at_call 106; go_in))
 go_ret2
 exact ⟨rfl, md_end hd hd2⟩
set_option maxHeartbeats 4000000 in
theorem Qav.r3t (a0 a1 a2 : Int) (w : World) (h1 : -1152921504606846976 ≤ a0) (h2 : a0 ≤ 1152921504606846976) (h3 : -1152921504606846976 ≤ a1) (h4 : a1 ≤ 1152921504606846976)
  (h5 : -1152921504606846976 ≤ a2) (h6 : a2 ≤ 1152921504606846976) (hc : (a2 == 0) = J) (fb : (!((!(decide (a0 < 0) == decide (a1 < 0))) == decide (a2 < 0))) = F)
  (hh : a0.natAbs * a1.natAbs / 18446744073709551616 < a2.natAbs) (hq : (a0.natAbs : Int) * a1.natAbs / a2.natAbs ≤ 1152921504606846976) (hr : 0 < (a0.natAbs : Int) * a1.natAbs % a2.natAbs) :
  Calls Try.prog 96 #[.int .i64 a0, .int .i64 a1, .int .i64 a2, .int .i64 3] w fun e w' => e = .returned (.tuple #[.int .i64 (mdSgn ((a0.natAbs : Int) * a1.natAbs / a2.natAbs + 1) F).1, .int .i64 (mdSgn ((a0.natAbs : Int) * a1.natAbs / a2.natAbs + 1) F).2]) ∧ Below w.heap.size w w' := by
 have hmf : ∀ (fn : Fn) (first cap : Array Value) (w : World), (Instr.makeFunc fn first cap).run Try.prog w = .ok (.func fn first cap) w := fun _ _ _ _ => rfl
 have hw : IntKind.u64.wrap ((a0.natAbs : Int) * a1.natAbs / a2.natAbs + 1) = (a0.natAbs : Int) * a1.natAbs / a2.natAbs + 1 := by
  have : 0 ≤ (a0.natAbs : Int) * a1.natAbs / a2.natAbs := Int.ediv_nonneg (Int.mul_nonneg (by omega) (by omega)) (by omega)
  rw [IntKind.wrap_u64]; omega
 go_enter Try.func96, Try.ntmps96
 go_wp2_with (first | (go_at_call 90; refine (Qa2.walk _ _ (by omega) (by omega)).mono ?_; rintro e w' ⟨rfl, rfl⟩) | (go_at_call 89; refine (Qa1.walk _ _ (by omega) (by omega) _).mono ?_; rintro e w' ⟨rfl, rfl⟩) | (go_at_call 103; refine (Qah.walkp _ _ hh (by omega) _).mono ?_; rintro e w1 ⟨rfl, hd⟩) | (go_at_call 91; refine (QaV.calls _ _ _ _ _ (md_sgn _ _)).mono ?_; rintro e w2 ⟨rfl, hd2⟩) | (go_at_call 88; go_in) | (go_at_call 104; go_in) | (go_at_call 106; go_in))
 go_ret2
 exact ⟨rfl, md_end hd hd2⟩
set_option maxHeartbeats 4000000 in
theorem Qav.r3f (a0 a1 a2 : Int) (w : World) (h1 : -1152921504606846976 ≤ a0) (h2 : a0 ≤ 1152921504606846976) (h3 : -1152921504606846976 ≤ a1) (h4 : a1 ≤ 1152921504606846976)
  (h5 : -1152921504606846976 ≤ a2) (h6 : a2 ≤ 1152921504606846976) (hc : (a2 == 0) = J) (fb : (!((!(decide (a0 < 0) == decide (a1 < 0))) == decide (a2 < 0))) = J)
  (hh : a0.natAbs * a1.natAbs / 18446744073709551616 < a2.natAbs) (hq : (a0.natAbs : Int) * a1.natAbs / a2.natAbs ≤ 1152921504606846976) (hr : 0 < (a0.natAbs : Int) * a1.natAbs % a2.natAbs) :
  Calls Try.prog 96 #[.int .i64 a0, .int .i64 a1, .int .i64 a2, .int .i64 3] w fun e w' => e = .returned (.tuple #[.int .i64 (mdSgn ((a0.natAbs : Int) * a1.natAbs / a2.natAbs) J).1, .int .i64 (mdSgn ((a0.natAbs : Int) * a1.natAbs / a2.natAbs) J).2]) ∧ Below w.heap.size w w' := by
 have hmf : ∀ (fn : Fn) (first cap : Array Value) (w : World), (Instr.makeFunc fn first cap).run Try.prog w = .ok (.func fn first cap) w := fun _ _ _ _ => rfl
 go_enter Try.func96, Try.ntmps96
 go_wp2_with (first | (go_at_call 90; refine (Qa2.walk _ _ (by omega) (by omega)).mono ?_; rintro e w' ⟨rfl, rfl⟩) | (go_at_call 89; refine (Qa1.walk _ _ (by omega) (by omega) _).mono ?_; rintro e w' ⟨rfl, rfl⟩) | (go_at_call 103; refine (Qah.walkp _ _ hh (by omega) _).mono ?_; rintro e w1 ⟨rfl, hd⟩) | (go_at_call 91; refine (QaV.calls _ _ _ _ _ (md_sgn _ _)).mono ?_; rintro e w2 ⟨rfl, hd2⟩) | (go_at_call 88; go_in) | (go_at_call 104; go_in) | (go_at_call 106; go_in))
 go_ret2
 exact ⟨rfl, md_end hd hd2⟩
set_option maxHeartbeats 4000000 in
theorem Qav.r4t (a0 a1 a2 : Int) (w : World) (h1 : -1152921504606846976 ≤ a0) (h2 : a0 ≤ 1152921504606846976) (h3 : -1152921504606846976 ≤ a1) (h4 : a1 ≤ 1152921504606846976)
  (h5 : -1152921504606846976 ≤ a2) (h6 : a2 ≤ 1152921504606846976) (hc : (a2 == 0) = J) (fb : (!((!(decide (a0 < 0) == decide (a1 < 0))) == decide (a2 < 0))) = F)
  (hh : a0.natAbs * a1.natAbs / 18446744073709551616 < a2.natAbs) (hq : (a0.natAbs : Int) * a1.natAbs / a2.natAbs ≤ 1152921504606846976) (hr : 0 < (a0.natAbs : Int) * a1.natAbs % a2.natAbs) :
  Calls Try.prog 96 #[.int .i64 a0, .int .i64 a1, .int .i64 a2, .int .i64 4] w fun e w' => e = .returned (.tuple #[.int .i64 (mdSgn ((a0.natAbs : Int) * a1.natAbs / a2.natAbs) F).1, .int .i64 (mdSgn ((a0.natAbs : Int) * a1.natAbs / a2.natAbs) F).2]) ∧ Below w.heap.size w w' := by
 have hmf : ∀ (fn : Fn) (first cap : Array Value) (w : World), (Instr.makeFunc fn first cap).run Try.prog w = .ok (.func fn first cap) w := fun _ _ _ _ => rfl
 go_enter Try.func96, Try.ntmps96
 go_wp2_with (first | (go_at_call 90; refine (Qa2.walk _ _ (by omega) (by omega)).mono ?_; rintro e w' ⟨rfl, rfl⟩) | (go_at_call 89; refine (Qa1.walk _ _ (by omega) (by omega) _).mono ?_; rintro e w' ⟨rfl, rfl⟩) | (go_at_call 103; refine (Qah.walkp _ _ hh (by omega) _).mono ?_; rintro e w1 ⟨rfl, hd⟩) | (go_at_call 91; refine (QaV.calls _ _ _ _ _ (md_sgn _ _)).mono ?_; rintro e w2 ⟨rfl, hd2⟩) | (go_at_call 88; go_in) | (go_at_call 104; go_in) | (go_at_call 106; go_in))
 go_ret2
 exact ⟨rfl, md_end hd hd2⟩
set_option maxHeartbeats 4000000 in
theorem Qav.r4f (a0 a1 a2 : Int) (w : World) (h1 : -1152921504606846976 ≤ a0) (h2 : a0 ≤ 1152921504606846976) (h3 : -1152921504606846976 ≤ a1) (h4 : a1 ≤ 1152921504606846976)
  (h5 : -1152921504606846976 ≤ a2) (h6 : a2 ≤ 1152921504606846976) (hc : (a2 == 0) = J) (fb : (!((!(decide (a0 < 0) == decide (a1 < 0))) == decide (a2 < 0))) = J)
  (hh : a0.natAbs * a1.natAbs / 18446744073709551616 < a2.natAbs) (hq : (a0.natAbs : Int) * a1.natAbs / a2.natAbs ≤ 1152921504606846976) (hr : 0 < (a0.natAbs : Int) * a1.natAbs % a2.natAbs) :
  Calls Try.prog 96 #[.int .i64 a0, .int .i64 a1, .int .i64 a2, .int .i64 4] w fun e w' => e = .returned (.tuple #[.int .i64 (mdSgn ((a0.natAbs : Int) * a1.natAbs / a2.natAbs + 1) J).1, .int .i64 (mdSgn ((a0.natAbs : Int) * a1.natAbs / a2.natAbs + 1) J).2]) ∧ Below w.heap.size w w' := by
 have hmf : ∀ (fn : Fn) (first cap : Array Value) (w : World), (Instr.makeFunc fn first cap).run Try.prog w = .ok (.func fn first cap) w := fun _ _ _ _ => rfl
 have hw : IntKind.u64.wrap ((a0.natAbs : Int) * a1.natAbs / a2.natAbs + 1) = (a0.natAbs : Int) * a1.natAbs / a2.natAbs + 1 := by
  have : 0 ≤ (a0.natAbs : Int) * a1.natAbs / a2.natAbs := Int.ediv_nonneg (Int.mul_nonneg (by omega) (by omega)) (by omega)
  rw [IntKind.wrap_u64]; omega
 go_enter Try.func96, Try.ntmps96
 go_wp2_with (first | (go_at_call 90; refine (Qa2.walk _ _ (by omega) (by omega)).mono ?_; rintro e w' ⟨rfl, rfl⟩) | (go_at_call 89; refine (Qa1.walk _ _ (by omega) (by omega) _).mono ?_; rintro e w' ⟨rfl, rfl⟩) | (go_at_call 103; refine (Qah.walkp _ _ hh (by omega) _).mono ?_; rintro e w1 ⟨rfl, hd⟩) | (go_at_call 91; refine (QaV.calls _ _ _ _ _ (md_sgn _ _)).mono ?_; rintro e w2 ⟨rfl, hd2⟩) | (go_at_call 88; go_in) | (go_at_call 104; go_in) | (go_at_call 106; go_in))
 go_ret2
 exact ⟨rfl, md_end hd hd2⟩
set_option maxHeartbeats 4000000 in
theorem Qav.r5 (a0 a1 a2 : Int) (w : World) (h1 : -1152921504606846976 ≤ a0) (h2 : a0 ≤ 1152921504606846976) (h3 : -1152921504606846976 ≤ a1) (h4 : a1 ≤ 1152921504606846976)
  (h5 : -1152921504606846976 ≤ a2) (h6 : a2 ≤ 1152921504606846976) (hc : (a2 == 0) = J) (hb : Bool) (hhalf : Aside0 (mdHalf ((a0.natAbs : Int) * a1.natAbs / a2.natAbs) ((a0.natAbs : Int) * a1.natAbs % a2.natAbs) a2.natAbs = hb))
  (hh : a0.natAbs * a1.natAbs / 18446744073709551616 < a2.natAbs) (hq : (a0.natAbs : Int) * a1.natAbs / a2.natAbs ≤ 1152921504606846976) (hr : 0 < (a0.natAbs : Int) * a1.natAbs % a2.natAbs) :
  Calls Try.prog 96 #[.int .i64 a0, .int .i64 a1, .int .i64 a2, .int .i64 5] w fun e w' => e = .returned (.tuple #[.int .i64 (mdSgn (if hb = F then (a0.natAbs : Int) * a1.natAbs / a2.natAbs + 1 else (a0.natAbs : Int) * a1.natAbs / a2.natAbs) (Qa7 a0 a1 a2)).1, .int .i64 (mdSgn (if hb = F then (a0.natAbs : Int) * a1.natAbs / a2.natAbs + 1 else (a0.natAbs : Int) * a1.natAbs / a2.natAbs) (Qa7 a0 a1 a2)).2]) ∧ Below w.heap.size w w' := by
 have hmf : ∀ (fn : Fn) (first cap : Array Value) (w : World), (Instr.makeFunc fn first cap).run Try.prog w = .ok (.func fn first cap) w := fun _ _ _ _ => rfl
 have hw : IntKind.u64.wrap ((a0.natAbs : Int) * a1.natAbs / a2.natAbs + 1) = (a0.natAbs : Int) * a1.natAbs / a2.natAbs + 1 := by
  have : 0 ≤ (a0.natAbs : Int) * a1.natAbs / a2.natAbs := Int.ediv_nonneg (Int.mul_nonneg (by omega) (by omega)) (by omega)
  rw [IntKind.wrap_u64]; omega
 have hq0 : 0 ≤ (a0.natAbs : Int) * a1.natAbs / a2.natAbs := Int.ediv_nonneg (Int.mul_nonneg (by omega) (by omega)) (by omega)
 have hrc : (a0.natAbs : Int) * a1.natAbs % a2.natAbs < a2.natAbs := Int.emod_lt_of_pos _ (by omega)
 go_enter Try.func96, Try.ntmps96
 go_wp2_with (first | (go_at_call 90; refine (Qa2.walk _ _ (by omega) (by omega)).mono ?_; rintro e w' ⟨rfl, rfl⟩) | (go_at_call 89; refine (Qa1.walk _ _ (by omega) (by omega) _).mono ?_; rintro e w' ⟨rfl, rfl⟩) | (go_at_call 103; refine (Qah.walkp _ _ hh (by omega) _).mono ?_; rintro e w1 ⟨rfl, hd⟩) | (go_at_call 91; refine (QaV.calls _ _ _ _ _ (md_sgn _ _)).mono ?_; rintro e w2 ⟨rfl, hd2⟩) | (go_at_call 88; go_in) | (go_at_call 104; go_in))
 refine (Qdb.half _ _ _ _ _ _ (by go_simp) (by omega) (by omega) (by omega) (by omega)).mono ?_
 rw [hhalf.out]
 rintro e w' ⟨rfl, rfl⟩
 cases hb
 ·go_wp2_with (go_at_call 91; refine (QaV.calls _ _ _ _ _ (md_sgn _ _)).mono ?_; rintro e w2 ⟨rfl, hd2⟩)
  go_ret2
  exact ⟨rfl, md_end hd hd2⟩
 go_wp2_with (go_at_call 91; refine (QaV.calls _ _ _ _ _ (md_sgn _ _)).mono ?_; rintro e w2 ⟨rfl, hd2⟩)
 go_ret2
 exact ⟨rfl, md_end hd hd2⟩
theorem Qbq {a b c mode : Int} (q : Int) (h : mdQ a b c mode = q) (h0 : 0 ≤ q) : mdSgn q (Qa7 a b c) = mdRes a b c mode := by
 unfold mdRes
 rw [h, QdP q _ h0]
def Qav.f (a0 a1 a2 a3 : Int) : Option (Int × Int) :=
 if mdFits a0 ∧ mdFits a1 ∧ mdFits a2 ∧ 1 ≤ a3 ∧ a3 ≤ 5 then
  if a2 = 0 then some (0, 4) else some (mdRes a0 a1 a2 a3)
 else some (0, 2)
theorem Qav.res (a0 a1 a2 a3 : Int) (w : World) (h1 : -1152921504606846976 ≤ a0) (h2 : a0 ≤ 1152921504606846976) (h3 : -1152921504606846976 ≤ a1) (h4 : a1 ≤ 1152921504606846976)
  (h5 : -1152921504606846976 ≤ a2) (h6 : a2 ≤ 1152921504606846976) (hc : (a2 == 0) = J) (m1 : 1 ≤ a3) (m2 : a3 ≤ 5) :
  Calls Try.prog 96 #[.int .i64 a0, .int .i64 a1, .int .i64 a2, .int .i64 a3] w fun e w' => e = .returned (.tuple #[.int .i64 (mdRes a0 a1 a2 a3).1, .int .i64 (mdRes a0 a1 a2 a3).2]) ∧ Below w.heap.size w w' := by
 have hc' : a2 ≠ 0 := by simpa using hc
 have hq0 : 0 ≤ (a0.natAbs : Int) * a1.natAbs / a2.natAbs := Int.ediv_nonneg (Int.mul_nonneg (by omega) (by omega)) (by omega)
 by_cases hh : a0.natAbs * a1.natAbs / 18446744073709551616 < a2.natAbs
 ·by_cases hq : (a0.natAbs : Int) * a1.natAbs / a2.natAbs ≤ 1152921504606846976
  ·by_cases hr : 0 < (a0.natAbs : Int) * a1.natAbs % a2.natAbs
   ·have up : mdAway a3 (Qa7 a0 a1 a2) ((a0.natAbs : Int) * a1.natAbs / a2.natAbs) ((a0.natAbs : Int) * a1.natAbs % a2.natAbs) a2.natAbs = F → mdQ a0 a1 a2 a3 = (a0.natAbs : Int) * a1.natAbs / a2.natAbs + 1 := fun h => by unfold mdQ; rw [if_pos ⟨hr, h⟩]
    have dn : mdAway a3 (Qa7 a0 a1 a2) ((a0.natAbs : Int) * a1.natAbs / a2.natAbs) ((a0.natAbs : Int) * a1.natAbs % a2.natAbs) a2.natAbs = J → mdQ a0 a1 a2 a3 = (a0.natAbs : Int) * a1.natAbs / a2.natAbs := fun h => by unfold mdQ; rw [if_neg (fun h' => by rw [h] at h'; cases h'.2)]
    obtain rfl | rfl | rfl | rfl | rfl : a3 = 1 ∨ a3 = 2 ∨ a3 = 3 ∨ a3 = 4 ∨ a3 = 5 := by omega
    ·rw [← Qbq _ (dn (by unfold mdAway; rfl)) hq0]
     exact Qav.r1 a0 a1 a2 w h1 h2 h3 h4 h5 h6 hc hh hq hr
    ·rw [← Qbq _ (up (by unfold mdAway; rfl)) (by omega)]
     exact Qav.r2 a0 a1 a2 w h1 h2 h3 h4 h5 h6 hc hh hq hr
    ·cases fb : Qa7 a0 a1 a2
     ·rw [← Qbq _ (dn (by unfold mdAway; rw [fb]; rfl)) hq0, fb]
      exact Qav.r3f a0 a1 a2 w h1 h2 h3 h4 h5 h6 hc fb hh hq hr
     rw [← Qbq _ (up (by unfold mdAway; rw [fb]; rfl)) (by omega), fb]
     exact Qav.r3t a0 a1 a2 w h1 h2 h3 h4 h5 h6 hc fb hh hq hr
    ·cases fb : Qa7 a0 a1 a2
     ·rw [← Qbq _ (up (by unfold mdAway; rw [fb]; rfl)) (by omega), fb]
      exact Qav.r4f a0 a1 a2 w h1 h2 h3 h4 h5 h6 hc fb hh hq hr
     rw [← Qbq _ (dn (by unfold mdAway; rw [fb]; rfl)) hq0, fb]
     exact Qav.r4t a0 a1 a2 w h1 h2 h3 h4 h5 h6 hc fb hh hq hr
    cases hb : mdHalf ((a0.natAbs : Int) * a1.natAbs / a2.natAbs) ((a0.natAbs : Int) * a1.natAbs % a2.natAbs) a2.natAbs
    ·rw [← Qbq _ (dn (by unfold mdAway; exact hb)) hq0]
     exact Qav.r5 a0 a1 a2 w h1 h2 h3 h4 h5 h6 hc J (Aside0.mk hb) hh hq hr
    rw [← Qbq _ (up (by unfold mdAway; exact hb)) (by omega)]
    exact Qav.r5 a0 a1 a2 w h1 h2 h3 h4 h5 h6 hc F (Aside0.mk hb) hh hq hr
   have e : mdQ a0 a1 a2 a3 = (a0.natAbs : Int) * a1.natAbs / a2.natAbs := by unfold mdQ; rw [if_neg (fun h => hr h.1)]
   rw [← Qbq _ e hq0]
   exact Qav.m0 a0 a1 a2 a3 w h1 h2 h3 h4 h5 h6 hc m1 m2 hh hq (by omega)
  have e : mdRes a0 a1 a2 a3 = (0, 3) := by unfold mdRes; rw [if_pos (by unfold mdQ; split <;> omega)]
  rw [e]
  exact Qav.o2 a0 a1 a2 a3 w h1 h2 h3 h4 h5 h6 hc m1 m2 hh (by omega)
 have hbig : 1152921504606846976 < (a0.natAbs : Int) * a1.natAbs / a2.natAbs := by
  have h7 : a2.natAbs * 18446744073709551616 ≤ a0.natAbs * a1.natAbs := (Nat.le_div_iff_mul_le (by omega)).1 (by omega)
  have h8 : 18446744073709551616 ≤ a0.natAbs * a1.natAbs / a2.natAbs := (Nat.le_div_iff_mul_le (by omega)).2 (by rw [Nat.mul_comm]; exact h7)
  have h9 : ((a0.natAbs * a1.natAbs / a2.natAbs : Nat) : Int) = (a0.natAbs : Int) * a1.natAbs / a2.natAbs := by simp
  omega
 have e : mdRes a0 a1 a2 a3 = (0, 3) := by unfold mdRes; rw [if_pos (by unfold mdQ; split <;> omega)]
 rw [e]
 have h9 : ((a0.natAbs * a1.natAbs : Nat) : Int) = (a0.natAbs : Int) * a1.natAbs := Int.natCast_mul _ _
 exact Qav.o1 a0 a1 a2 a3 w h1 h2 h3 h4 h5 h6 hc m1 m2 (by omega)
theorem Qav.calls (a0 a1 a2 a3 r1 r2 : Int) (w : World) (h : Qav.f a0 a1 a2 a3 = some (r1, r2)) :
  Calls Try.prog 96 #[.int .i64 a0, .int .i64 a1, .int .i64 a2, .int .i64 a3] w fun e w' => e = .returned (.tuple #[.int .i64 r1, .int .i64 r2]) ∧ Below w.heap.size w w' := by
 unfold Qav.f at h
 by_cases c : mdFits a0 ∧ mdFits a1 ∧ mdFits a2 ∧ 1 ≤ a3 ∧ a3 ≤ 5
 ·rw [if_pos c] at h
  obtain ⟨⟨c1, c2⟩, ⟨c3, c4⟩, ⟨c5, c6⟩, c7, c8⟩ := c
  by_cases d : a2 = 0
  ·rw [if_pos d] at h
   have h' := Option.some.inj h
   simp only [Prod.mk.injEq] at h'
   obtain ⟨rfl, rfl⟩ := h'
   exact Qav.z a0 a1 a2 a3 w c1 c2 c3 c4 c5 c6 (by simpa using d) c7 c8
  rw [if_neg d] at h
  have h' := Option.some.inj h
  have e1 : (mdRes a0 a1 a2 a3).1 = r1 := by rw [h']
  have e2 : (mdRes a0 a1 a2 a3).2 = r2 := by rw [h']
  rw [← e1, ← e2]
  exact Qav.res a0 a1 a2 a3 w c1 c2 c3 c4 c5 c6 (by simpa using d) c7 c8
 rw [if_neg c] at h
 have h' := Option.some.inj h
 simp only [Prod.mk.injEq] at h'
 obtain ⟨rfl, rfl⟩ := h'
 refine (Qav.bad a0 a1 a2 a3 w c).mono ?_
 rintro e w' ⟨rfl, rfl⟩
 exact ⟨rfl, Below.refl _ _⟩
def QaG.f (a0 : Int) : Option (Int) := if a0 < 0 then (some (wrap64 (-a0))) else (some a0)
set_option maxHeartbeats 8000000 in
theorem QaG.calls (a0 : Int) (r : Int) (w : World) (h : QaG.f a0 = some r) :
  Calls Try.prog 80 #[.int .i64 a0] w fun e w' => e = .returned (.int .i64 r) ∧ Drawn0 w w' := by
 have H : (if a0 < 0 then (some (wrap64 (-a0))) else (some a0)) = some r := h
 clear h
 by_cases c2 : a0 < 0
 ·rw [if_pos c2] at H
  have c2b0 : decide (a0 < 0) = F := decide_eq_true c2
  clear c2
  obtain rfl := Option.some.inj H
  go_enter Try.func80, Try.ntmps80
  go_wp2
  go_ret
  exact ⟨Zs, Zd⟩
 rw [if_neg c2] at H
 have c2b0 : decide (a0 < 0) = J := decide_eq_false c2
 clear c2
 obtain rfl := Option.some.inj H
 go_enter Try.func80, Try.ntmps80
 go_wp2
 go_ret
 exact ⟨Zs, Zd⟩
end Go.Proofs.Ytggbflplbblgbaa.Pr
