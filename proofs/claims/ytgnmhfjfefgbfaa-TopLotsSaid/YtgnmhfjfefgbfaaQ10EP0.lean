/- Functions' values and contracts, as the print wrote them. -/
import Derived.Test.YtgnmhfjfefgbfaaProg
import Derived.Below
import Derived.Deep.Draws
import Derived.Deep.AppendLies
import Derived.Maps.AppendAt
import Derived.OwnWalk
import Derived.Laws.BytesArg
import Derived.Laws.MakeOwn
import Derived.Laws.OwnMore
import Derived.Deep.OwnRows
import Derived.Tactics
import Derived.Lib.ConvBytes
import Derived.Laws.Slices
import Derived.WalkKit
import Derived.KernelRfl
import Derived.RowKit3
import Derived.Deep.LoopGhost
import Derived.Deep.QuietTactic
import Derived.BigQuiet
import Derived.WideLaws
import Derived.Deep.DeepCutAuto
import Derived.Deep.CutBlock
import Derived.Deep.RegionHeld3
import Derived.Laws.Rows
import Derived.Lib.AppendStr
import Derived.ArgAppend
import Derived.Laws.IdiomCopy
import Derived.OrdersHeld
import Derived.Laws.BitsLemmas
import Derived.RowKit
import Derived.Laws.Cover1
import Derived.Lib.BitFns
import Derived.Lib.ItoaNum
import Derived.Deep.Light
import Derived.Lib.LazyBuf
import Derived.Lib.Mul64
import Derived.Laws.Bits64b
import Derived.Lib.Small
import Derived.Lib.Walk
import Derived.Lib.Strings
import Derived.Lib.Slices
import Derived.Maps.OwnSet
import Derived.Shelf.SlSortCmp.Whole1
import Derived.Sort.Row
import Derived.Sort.Grow
import Derived.Sort.LotA
import Derived.RangeFuncNested
import Derived.RangeFuncBound
import Derived.RangeFuncCalls
import Derived.RangeFuncLeaves
import Derived.RangeFuncBox
import Derived.Shelf.Abstract
import Derived.OwnWalkIn
import Derived.TacticsInMore
import Derived.LoopNIn
import Derived.LoopIn
import Derived.RegionIn
import Derived.Sort.MapsRangeIn
import Derived.Sort.KeysCollected
import Derived.RangeFuncMany
import Derived.Maps.OwnIn
import Derived.Shelf.SlSortCmp.NoneTotal
import Derived.Shelf.Spec.SlicesInsertGrow
import Derived.Test.YtgnmhfjfefgbfaaQ10EWWords
import Derived.Test.YtgnmhfjfefgbfaaQ10EWLast
import Derived.Test.YtgnmhfjfefgbfaaQ10EWTab
import Derived.Test.YtgnmhfjfefgbfaaQ10EWApart
import Derived.Test.YtgnmhfjfefgbfaaQ10EWArr
import Derived.Test.YtgnmhfjfefgbfaaQ10EWFoot
import Derived.Test.YtgnmhfjfefgbfaaQ10EWKept
import Derived.Test.YtgnmhfjfefgbfaaQ10EWShare
import Derived.Test.YtgnmhfjfefgbfaaQ10EWN
import Derived.Test.YtgnmhfjfefgbfaaQ10EWAt
import Derived.Test.YtgnmhfjfefgbfaaQ10EWEqStruct
import Derived.Test.YtgnmhfjfefgbfaaQ10EWRepsOne
import Derived.Test.YtgnmhfjfefgbfaaQ10EWGuard
import Derived.Test.YtgnmhfjfefgbfaaQ10EWNEv
import Derived.Test.YtgnmhfjfefgbfaaQ10EWMore
namespace Go.Proofs.Ytgnmhfjfefgbfaa.Pr
open Bool renaming true → J
open Bool renaming false → V
open Go.RowKit Go.Proofs.YtgnmhfjfefgbfaaW.PrintWords Go.Proofs.YtgnmhfjfefgbfaaW.PrintLast Go.Proofs.YtgnmhfjfefgbfaaW.PrintMore
attribute [local go_sem] QaO QaQ QaU QaV QaK QaL QaP QaR   -- for this text's walks alone
set_option linter.unusedVariables false
set_option linter.unusedSimpArgs false
set_option maxRecDepth 100000
def errW : Option Int → Value
 | none => .nilIface
 | some c => .iface 0 (.int .i64 c)
theorem Qar : errW none = .nilIface := rfl
theorem Qas (c : Int) : errW (some c) = .iface 0 (.int .i64 c) := rfl
theorem Qbl {P : Program} {o : Oper} {a : Act} {W : World} {t : TypeId} {p : Tmp} {x : Operand} {g i : Nat} {T : TypeId} {cs : Array Value} {u : Value} {seg : List Value}
  (hg : W.heap[g]? = some (.cells cs T (0, 0))) (ho : o.op = .store t (.tmp p) x) (hp : a.eval (.tmp p) = .pointer (some ⟨g, i, none⟩)) (hx : a.eval x = u) (hu : u.cells.toList = seg) (ht : (P.info? t).map (·.size) = some seg.length)
  (hle : i + seg.length ≤ cs.size) (h1 : seg.all (fun q => q.oneCell') = J) : (execOp a.eval o).run P W = .ok .skip (W.setCells g i seg) := by
 have hrun := Qdd (P := P) (w := W) (o := i) t u seg hg hu ht hle (fun q hq => List.all_eq_true.1 h1 q hq)
 unfold execOp
 simp only [ho, hp, hx, Sem.run_bind, Sem.run_pure, Result.andThen_ok, hrun]
theorem cellg {W w1 : World} {row : Option Nat} (hg : W.grownBy w1 row) {a : Addr} {v : Value} (h : W.cell? a = some v) (hne : some a.block ≠ row) : w1.cell? a = some v := by
 have hb := hg.block a.block (World.block_lt_of_cell? _ _ h) hne
 unfold World.cell? at h ⊢
 rw [hb]
 exact h
theorem gate_n {P : Program} {ops : Array Oper} {rest : List Oper} {o : Oper} {a : Act} {Q : Exit → Act → World → Prop} {W : World} {n : Nat} (_h : a.tmps.size = n) (h : wpList P ops Q (o :: rest) a W) : wpList P ops Q (o :: rest) a W := h
def MapI (P : Program) (K E : TypeId) (w : World) (B n : Nat) (f : Int → Int) : Prop :=
 ∃ D : DataW Unit, w.ownsMap P K (plainElem P E) B n D ∧ ∀ x, (Lit.int .i64 x).wf = J → D.atKey (.int .i64 x) (.lit (.int .i64 0)) = .lit (.int .i64 (f x))
theorem MapI.made (P : Program) (K E : TypeId) (w : World) : MapI P K E (w.alloc (.map #[] 0)) w.heap.size 0 (fun _ => 0) := ⟨.map [], World.ownsMap_made _ _ _ _, fun _ _ => rfl⟩
theorem MapI.blk {P : Program} {K E : TypeId} {w : World} {B n : Nat} {f : Int → Int} (h : MapI P K E w B n f) : ∃ es c, w.heap[B]? = some (.map es c) := by
 obtain ⟨D, ⟨es, c, hb, _⟩, _⟩ := h
 exact ⟨es, c, hb⟩
theorem MapI.move {P : Program} {K E : TypeId} {w w' : World} {B n : Nat} {f : Int → Int} (h : MapI P K E w B n f) (hm : B < w.heap.size → w'.heap[B]? = w.heap[B]?) : MapI P K E w' B n f := by
 obtain ⟨D, ⟨es, c, hb, r⟩, hf⟩ := h
 exact ⟨D, ⟨es, c, (hm (blk_lt hb)).trans hb, r⟩, hf⟩
theorem MapI.below {P : Program} {K E : TypeId} {w w' : World} {B n : Nat} {f : Int → Int} (h : MapI P K E w B n f) (hb : Below w.heap.size w w') : MapI P K E w' B n f := h.move (fun hl => hb.block B hl)
theorem MapI.grown {P : Program} {K E : TypeId} {w w' : World} {B n : Nat} {f : Int → Int} (h : MapI P K E w B n f) {row : Option Nat} (hg : w.grownBy w' row) (hne : some B ≠ row) : MapI P K E w' B n f := h.move (fun hl => hg.block B hl hne)
theorem MapI.set {P : Program} {K E : TypeId} {w : World} {B n : Nat} {f : Int → Int} (h : MapI P K E w B n f) {p : Addr} (hp : B ≠ p.block) (u : Value) : MapI P K E (w.setCell p u) B n f := h.move (fun _ => Below.heap_setCell w p u B hp)
theorem MapI.drewN {P : Program} {K E : TypeId} {w : World} {B n : Nat} {f : Int → Int} (h : MapI P K E w B n f) (m : Nat) : MapI P K E (w.drewN m) B n f := h.move (fun _ => rfl)
theorem MapI.drew {P : Program} {K E : TypeId} {w : World} {B n : Nat} {f : Int → Int} (h : MapI P K E w B n f) : MapI P K E w.drew B n f := h.move (fun _ => rfl)
theorem MapI.alloc {P : Program} {K E : TypeId} {w : World} {B n : Nat} {f : Int → Int} (h : MapI P K E w B n f) (o : Obj) : MapI P K E (w.alloc o) B n f := h.below (Qac (Below.refl _ _) o)
theorem MapI.apart {P : Program} {K E : TypeId} {w : World} {B n : Nat} {f : Int → Int} (h : MapI P K E w B n f) {α : Type} {d : Kd α} {e base : Nat} {ok : Nat → Prop} {v : Value} {xs : List α} (hr : d.R e w base ok v xs) : d.R e w base (fun k => ok k ∧ k ≠ B) v xs :=
 Kd.R_mono (Kd.R_bound hr) (fun k hk => ⟨hk.1, by
  obtain ⟨_, _, _, q, _, cells, hc⟩ := hk
  obtain ⟨es, c, hb⟩ := h.blk
  rintro rfl
  rw [hb] at hc
  cases hc⟩)
def mdFits (n : Int) : Prop := -1152921504606846976 ≤ n ∧ n ≤ 1152921504606846976
instance (n : Int) : Decidable (mdFits n) := inferInstanceAs (Decidable (_ ∧ _))
theorem Qej {P : Program} {fn : Func} {R : Ending → World → Prop} {c : Code} {a : Act} {w : World} (h : c.wp P (bodyPost P fn R) a w) : (Code.scope c).wp P (bodyPost P fn R) a w :=
 wp_scope_straight (Code.wp_mono (fun e a w hq => by cases e <;> first | exact hq | exact hq.elim) h)
def pm (n k : Nat) : Array Bool := ((List.range n).map fun j => decide (j < k)).toArray
section
variable {P : Program} {ops : Array Oper} {Q : Exit → Act → World → Prop} {md : Region.Mode} {S : World → Prop} {ds : List Nat} {T : Bool × List (List Nat × List Nat)} {B : List Nat}
theorem Zsp {i : Nat} {N : Option Tmp} {oi : Oper} {v : Value} {fuel : Nat} {l : Array Bool} {a a' : Act} {w : World} (l' : Array Bool) (H : Aside0 (rtab md ops = T)) (h : QaH P md ops Q S ds fuel l' a' w) (hi : ops[i]? = some oi := by rfl) (hN : oi.dst = N := by rfl) (hc : anyT T l.toList l'.toList i = J := by kernel_rfl)
  (hQ : ∀ c a w, Q (.panic c) (a.put oi.dst v) w → Q (.panic c) a w := by exact fun _ _ _ h => h) (hy : Yields P ops oi v a := by (refine Or.inl ⟨by rfl, ?_⟩; intro w'; go_simp; with_reducible rfl)) (ha : a.put N v = a' := by (simp only [Act.put, Zj, Zk, Zm, i64_w, i32_w]; rfl)) :
  QaH P md ops Q S ds (fuel + 1) l a w := pure_ l' hi hN (any_of H.out hc) hQ hy ha h
theorem Zso {i : Nat} {N : Option Tmp} {oi : Oper} {fuel : Nat} {l : Array Bool} {a a' : Act} {w : World} (l' : Array Bool) (H : Aside0 (rtab md ops = T)) (h : QaH P md ops Q S ds fuel l' a' w) (hi : ops[i]? = some oi := by rfl) (hN : oi.dst = N := by rfl) (hc : anyT T l.toList l'.toList i = J := by kernel_rfl)
  (hQ : ∀ c a w, Q (.panic c) (a.put oi.dst undef) w → Q (.panic c) a w := by exact fun _ _ _ h => h) (hy : Yields P ops oi undef a := by exact Or.inr ⟨by rfl, rfl⟩) (ha : a.put N undef = a' := by (simp only [Act.put, Zj, Zk, Zm, i64_w, i32_w]; rfl)) :
  QaH P md ops Q S ds (fuel + 1) l a w := pure_ l' hi hN (any_of H.out hc) hQ hy ha h
theorem Zst {i : Nat} {N : Option Tmp} {oi : Oper} {v : Value} {fuel : Nat} {l : Array Bool} {a a' : Act} {w : World} (l' : Array Bool) (H : Aside0 (rtab md ops = T)) (H2 : Aside0 (Qbg T.2 B = J)) (hS : S w) (h : QaH P md ops Q S ds fuel l' a' w) (hi : ops[i]? = some oi := by rfl) (hN : oi.dst = N := by rfl) (hc : takeW T B ds l.toList l'.toList i = J := by kernel_rfl)
  (hQ : ∀ c a w, Q (.panic c) (a.put oi.dst v) w → Q (.panic c) a w := by exact fun _ _ _ h => h) (hy : YieldsIf P ops S oi v a) (ha : a.put N v = a' := by (simp only [Act.put, Zj, Zk, Zm, i64_w, i32_w]; rfl)) :
  QaH P md ops Q S ds (fuel + 1) l a w := take_ l' hi hN (Qfc H.out H2.out hc) hQ hy hS ha h
end
theorem info3 : (Try.prog.info? 3).map (fun i => (i.zero, i.size, i.bytes)) = some (some (.int .i64 0), 1, 8) := by kernel_rfl
theorem info9 : (Try.prog.info? 9).map (fun i => (i.zero, i.size, i.bytes)) = some (some (.string ⟨#[]⟩), 1, 16) := by kernel_rfl
theorem info22 : (Try.prog.info? 22).map (fun i => (i.zero, i.size, i.bytes)) = some (some (.slice none 0 0), 1, 24) := by kernel_rfl
theorem info71 : (Try.prog.info? 71).map (fun i => (i.zero, i.size, i.bytes)) = some (some (.agg #[(.string ⟨#[]⟩), (.int .i64 0), (.int .i64 0), (.int .i64 0), (.int .i64 0), (.int .i64 0)]), 6, 56) := by kernel_rfl
theorem Qd0 : (Try.prog.info? 128).map (fun i => (i.zero, i.size, i.bytes)) = some (some (.agg #[(.string ⟨#[]⟩), (.int .i64 0), (.int .i64 0), (.int .i64 0), (.slice none 0 0), (.int .i64 0)]), 6, 72) := by kernel_rfl
structure S69 where
 f0 : ByteArray
 f1 : Int
 f2 : Int
 f3 : Int
def z69 : S69 := ⟨(⟨#[]⟩ : ByteArray), (0 : Int), (0 : Int), (0 : Int)⟩
def k69 : Kd S69 := Kd.iso (Kd.pair Kd.string (Kd.pair (Kd.int .i64) (Kd.pair (Kd.int .i64) (Kd.int .i64)))) (fun x : S69 => (x.f0, x.f1, x.f2, x.f3))
theorem QeW : Kd.Heap k69 := Kd.heap_iso _ (Kd.heap_pair Kd.heap_string (Kd.heap_pair (Kd.heap_int .i64) (Kd.heap_pair (Kd.heap_int .i64) (Kd.heap_int .i64))))
theorem Qdr {w : World} {x : S69} {cs : List Value} (h : k69.K w x cs) : cs = [.string x.f0, .int .i64 x.f1, .int .i64 x.f2, .int .i64 x.f3] := by
 obtain ⟨_, _, rfl, rfl, ⟨_, _, rfl, rfl, ⟨_, _, rfl, rfl, rfl⟩⟩⟩ := h
 exact rfl
theorem k69_mk (w : World) (x : S69)  : k69.K w x [.string x.f0, .int .i64 x.f1, .int .i64 x.f2, .int .i64 x.f3] := ⟨[.string x.f0], [.int .i64 x.f1, .int .i64 x.f2, .int .i64 x.f3], rfl, rfl, ⟨[.int .i64 x.f1], [.int .i64 x.f2, .int .i64 x.f3], rfl, rfl, ⟨[.int .i64 x.f2], [.int .i64 x.f3], rfl, rfl, rfl⟩⟩⟩
theorem Qfy (w : World) (base : Nat) (ok : Nat → Prop) (x : S69)  : k69.M w base ok x [.string x.f0, .int .i64 x.f1, .int .i64 x.f2, .int .i64 x.f3] := ⟨[.string x.f0], [.int .i64 x.f1, .int .i64 x.f2, .int .i64 x.f3], rfl, rfl, ⟨[.int .i64 x.f1], [.int .i64 x.f2, .int .i64 x.f3], rfl, rfl, ⟨[.int .i64 x.f2], [.int .i64 x.f3], rfl, rfl, rfl⟩⟩⟩
structure S71 where
 f0 : S69
 f1 : Int
 f2 : Int
def z71 : S71 := ⟨z69, (0 : Int), (0 : Int)⟩
def k71 : Kd S71 := Kd.iso (Kd.pair k69 (Kd.pair (Kd.int .i64) (Kd.int .i64))) (fun x : S71 => (x.f0, x.f1, x.f2))
theorem QeX {w : World} {x : S71} {cs : List Value} (h : k71.K w x cs) : cs = [.string x.f0.f0, .int .i64 x.f0.f1, .int .i64 x.f0.f2, .int .i64 x.f0.f3, .int .i64 x.f1, .int .i64 x.f2] := by
 obtain ⟨_, _, rfl, s0, ⟨_, _, rfl, rfl, rfl⟩⟩ := h
 obtain rfl := Qdr s0
 exact rfl
theorem Qbx (w : World) (base : Nat) (ok : Nat → Prop) (x : S71)  : k71.M w base ok x [.string x.f0.f0, .int .i64 x.f0.f1, .int .i64 x.f0.f2, .int .i64 x.f0.f3, .int .i64 x.f1, .int .i64 x.f2] := ⟨[.string x.f0.f0, .int .i64 x.f0.f1, .int .i64 x.f0.f2, .int .i64 x.f0.f3], [.int .i64 x.f1, .int .i64 x.f2], rfl, (Qfy w base ok x.f0 ), ⟨[.int .i64 x.f1], [.int .i64 x.f2], rfl, rfl, rfl⟩⟩
def rd_T71 (xs : List S71) (i : Int) : S71 := xs.getD i.toNat z71
theorem at_T71 {w : World} {A : Option Addr} {n : Nat} {xs : List S71} (h : Kd.C k71 w A n xs) (i : Int) (h0 : 0 ≤ i) (h1 : i < n) : ∃ ad , A = some ad ∧ w.cell? (ad.add (i.toNat * 6)) = some (.string (rd_T71 xs i).f0.f0) ∧ w.cell? ⟨(ad.add (i.toNat * 6)).block, (ad.add (i.toNat * 6)).off + 1, none⟩ = some (.int .i64 (rd_T71 xs i).f0.f1) ∧ w.cell? ⟨(ad.add (i.toNat * 6)).block, (ad.add (i.toNat * 6)).off + 2, none⟩ = some (.int .i64 (rd_T71 xs i).f0.f2) ∧ w.cell? ⟨(ad.add (i.toNat * 6)).block, (ad.add (i.toNat * 6)).off + 3, none⟩ = some (.int .i64 (rd_T71 xs i).f0.f3) ∧ w.cell? ⟨(ad.add (i.toNat * 6)).block, (ad.add (i.toNat * 6)).off + 4, none⟩ = some (.int .i64 (rd_T71 xs i).f1) ∧ w.cell? ⟨(ad.add (i.toNat * 6)).block, (ad.add (i.toNat * 6)).off + 5, none⟩ = some (.int .i64 (rd_T71 xs i).f2) := by
 obtain ⟨ad, c, e, _, hK, hc0⟩ := Kd.C_get h z71 i h0 h1
 have hc : ∀ j u, c[j]? = some u → w.cell? (ad.add (i.toNat * 6 + j)) = some u := hc0
 obtain rfl := QeX hK
 exact ⟨ad, e, hc 0 _ rfl, by rw [← QaZ _ _ 1 (by omega)]; exact hc 1 _ rfl, by rw [← QaZ _ _ 2 (by omega)]; exact hc 2 _ rfl, by rw [← QaZ _ _ 3 (by omega)]; exact hc 3 _ rfl, by rw [← QaZ _ _ 4 (by omega)]; exact hc 4 _ rfl, by rw [← QaZ _ _ 5 (by omega)]; exact hc 5 _ rfl⟩
structure S128 where
 f0 : S69
 f1 : (List Int)
 f2 : Int
def z128 : S128 := ⟨z69, ([] : List Int), (0 : Int)⟩
def k128 : Kd S128 := Kd.iso (Kd.pair k69 (Kd.pair (Kd.slice 3 (Kd.int .i64)) (Kd.int .i64))) (fun x : S128 => (x.f0, x.f1, x.f2))
theorem Qbn : Kd.Heap k128 := Kd.heap_iso _ (Kd.heap_pair QeW (Kd.heap_pair (Kd.heap_slice 3 (Kd.heap_int .i64)) (Kd.heap_int .i64)))
theorem Qb3 {w : World} {x : S128} {cs : List Value} (h : k128.K w x cs) : ∃ A4 c4, cs = [.string x.f0.f0, .int .i64 x.f0.f1, .int .i64 x.f0.f2, .int .i64 x.f0.f3, .slice A4 x.f1.length c4, .int .i64 x.f2] ∧ x.f1.length ≤ c4 ∧ (Kd.int .i64).C w A4 x.f1.length x.f1 := by
 obtain ⟨_, _, rfl, s0, ⟨_, _, rfl, ⟨A4, c4, rfl, l4, g4⟩, rfl⟩⟩ := h
 obtain rfl := Qdr s0
 exact ⟨A4, c4, rfl, l4, g4⟩
theorem Qfw (w : World) (x : S128) {A4 : Option Addr} {c4 : Nat} (l4 : x.f1.length ≤ c4) (g4 : (Kd.int .i64).C w A4 x.f1.length x.f1) : k128.K w x [.string x.f0.f0, .int .i64 x.f0.f1, .int .i64 x.f0.f2, .int .i64 x.f0.f3, .slice A4 x.f1.length c4, .int .i64 x.f2] := ⟨[.string x.f0.f0, .int .i64 x.f0.f1, .int .i64 x.f0.f2, .int .i64 x.f0.f3], [.slice A4 x.f1.length c4, .int .i64 x.f2], rfl, (k69_mk w x.f0 ), ⟨[.slice A4 x.f1.length c4], [.int .i64 x.f2], rfl, ⟨A4, c4, rfl, l4, g4⟩, rfl⟩⟩
theorem Qbo {W : World} {ok : Nat → Prop} {x : S128} {cs : List Value} (h : Kd.FK k128 W ok x cs) : ∃ A4 c4, cs = [.string x.f0.f0, .int .i64 x.f0.f1, .int .i64 x.f0.f2, .int .i64 x.f0.f3, .slice A4 x.f1.length c4, .int .i64 x.f2] ∧ x.f1.length ≤ c4 ∧ Kd.F (Kd.int .i64) W ok A4 x.f1.length x.f1 := by
 obtain ⟨A4, c4, rfl, l4, _⟩ := Qb3 (Kd.FK_now h)
 exact ⟨A4, c4, rfl, l4, (fun W' hW => by obtain ⟨A4_, c4_, he, l4_, g4_⟩ := Qb3 (h W' hW); injection (Option.some.inj (show some (Value.slice A4 x.f1.length c4) = some (Value.slice A4_ x.f1.length c4_) from congrArg (fun l => l[4]?) he)) with ha_ _ _; rw [ha_]; exact g4_)⟩
theorem Qdq (W : World) (ok : Nat → Prop) (x : S128) {A4 : Option Addr} {c4 : Nat} (l4 : x.f1.length ≤ c4) (g4 : Kd.F (Kd.int .i64) W ok A4 x.f1.length x.f1) : Kd.FK k128 W ok x [.string x.f0.f0, .int .i64 x.f0.f1, .int .i64 x.f0.f2, .int .i64 x.f0.f3, .slice A4 x.f1.length c4, .int .i64 x.f2] := fun W2 hW => Qfw W2 x l4 (g4 W2 hW)
def Qaa (xs : List S128) (i : Int) : S128 := xs.getD i.toNat z128
theorem Qbm {w : World} {A : Option Addr} {n : Nat} {xs : List S128} (h : Kd.C k128 w A n xs) (i : Int) (h0 : 0 ≤ i) (h1 : i < n) : ∃ ad A4 c4, A = some ad ∧ w.cell? (ad.add (i.toNat * 6)) = some (.string (Qaa xs i).f0.f0) ∧ w.cell? ⟨(ad.add (i.toNat * 6)).block, (ad.add (i.toNat * 6)).off + 1, none⟩ = some (.int .i64 (Qaa xs i).f0.f1) ∧ w.cell? ⟨(ad.add (i.toNat * 6)).block, (ad.add (i.toNat * 6)).off + 2, none⟩ = some (.int .i64 (Qaa xs i).f0.f2) ∧ w.cell? ⟨(ad.add (i.toNat * 6)).block, (ad.add (i.toNat * 6)).off + 3, none⟩ = some (.int .i64 (Qaa xs i).f0.f3) ∧ w.cell? ⟨(ad.add (i.toNat * 6)).block, (ad.add (i.toNat * 6)).off + 4, none⟩ = some (.slice A4 (Qaa xs i).f1.length c4) ∧ w.cell? ⟨(ad.add (i.toNat * 6)).block, (ad.add (i.toNat * 6)).off + 5, none⟩ = some (.int .i64 (Qaa xs i).f2) ∧ (Qaa xs i).f1.length ≤ c4 ∧ (Kd.int .i64).C w A4 (Qaa xs i).f1.length (Qaa xs i).f1 := by
 obtain ⟨ad, c, e, _, hK, hc0⟩ := Kd.C_get h z128 i h0 h1
 have hc : ∀ j u, c[j]? = some u → w.cell? (ad.add (i.toNat * 6 + j)) = some u := hc0
 obtain ⟨A4, c4, rfl, l4, g4⟩ := Qb3 hK
 exact ⟨ad, A4, c4, e, hc 0 _ rfl, by rw [← QaZ _ _ 1 (by omega)]; exact hc 1 _ rfl, by rw [← QaZ _ _ 2 (by omega)]; exact hc 2 _ rfl, by rw [← QaZ _ _ 3 (by omega)]; exact hc 3 _ rfl, by rw [← QaZ _ _ 4 (by omega)]; exact hc 4 _ rfl, by rw [← QaZ _ _ 5 (by omega)]; exact hc 5 _ rfl, l4, g4⟩
def rd_L7 (xs : List (List S71)) (i : Int) : (List S71) := xs.getD i.toNat ([] : List S71)
theorem at_L7 {w : World} {A : Option Addr} {n : Nat} {xs : List (List S71)} (h : Kd.C (Kd.slice 71 k71) w A n xs) (i : Int) (h0 : 0 ≤ i) (h1 : i < n) : ∃ ad A0 c0, A = some ad ∧ w.cell? (ad.add i.toNat) = some (.slice A0 (rd_L7 xs i).length c0) ∧ (rd_L7 xs i).length ≤ c0 ∧ k71.C w A0 (rd_L7 xs i).length (rd_L7 xs i) := by
 obtain ⟨ad, c, e, _, hK, hc0⟩ := Kd.C_get h ([] : List S71) i h0 h1
 have hc : ∀ j u, c[j]? = some u → w.cell? (ad.add (i.toNat * 1 + j)) = some u := hc0
 obtain ⟨A0, c0, rfl, l0, g0⟩ := hK
 exact ⟨ad, A0, c0, e, by have hq := hc 0 _ rfl; rwa [Nat.mul_one, Nat.add_zero] at hq, l0, g0⟩
structure S146 where
 f0 : Int
 f1 : Int
 f2 : Int
structure S67 where
 f0 : Int
 f1 : (List S71)
def z67 : S67 := ⟨(0 : Int), ([] : List S71)⟩
def k67 : Kd S67 := Kd.iso (Kd.pair (Kd.int .i64) (Kd.slice 71 k71)) (fun x : S67 => (x.f0, x.f1))
theorem Qcw {w : World} {x : S67} {cs : List Value} (h : k67.K w x cs) : ∃ A1 c1, cs = [.int .i64 x.f0, .slice A1 x.f1.length c1] ∧ x.f1.length ≤ c1 ∧ k71.C w A1 x.f1.length x.f1 := by
 obtain ⟨_, _, rfl, rfl, ⟨A1, c1, rfl, l1, g1⟩⟩ := h
 exact ⟨A1, c1, rfl, l1, g1⟩
theorem Qfx (w : World) (base : Nat) (ok : Nat → Prop) (x : S67) {v1 : Value} (g1 : k71.R 71 w base ok v1 x.f1) : k67.M w base ok x [.int .i64 x.f0, v1] := ⟨[.int .i64 x.f0], [v1], rfl, rfl, ⟨v1, rfl, g1⟩⟩
theorem Qb4 {W : World} {ok : Nat → Prop} {x : S67} {cs : List Value} (h : Kd.FK k67 W ok x cs) : ∃ A1 c1, cs = [.int .i64 x.f0, .slice A1 x.f1.length c1] ∧ x.f1.length ≤ c1 ∧ Kd.F k71 W ok A1 x.f1.length x.f1 := by
 obtain ⟨A1, c1, rfl, l1, _⟩ := Qcw (Kd.FK_now h)
 exact ⟨A1, c1, rfl, l1, (fun W' hW => by obtain ⟨A1_, c1_, he, l1_, g1_⟩ := Qcw (h W' hW); injection (Option.some.inj (show some (Value.slice A1 x.f1.length c1) = some (Value.slice A1_ x.f1.length c1_) from congrArg (fun l => l[1]?) he)) with ha_ _ _; rw [ha_]; exact g1_)⟩
def rd_T67 (xs : List S67) (i : Int) : S67 := xs.getD i.toNat z67
theorem at_T67 {w : World} {A : Option Addr} {n : Nat} {xs : List S67} (h : Kd.C k67 w A n xs) (i : Int) (h0 : 0 ≤ i) (h1 : i < n) : ∃ ad A1 c1, A = some ad ∧ w.cell? (ad.add (i.toNat * 2)) = some (.int .i64 (rd_T67 xs i).f0) ∧ w.cell? ⟨(ad.add (i.toNat * 2)).block, (ad.add (i.toNat * 2)).off + 1, none⟩ = some (.slice A1 (rd_T67 xs i).f1.length c1) ∧ (rd_T67 xs i).f1.length ≤ c1 ∧ k71.C w A1 (rd_T67 xs i).f1.length (rd_T67 xs i).f1 := by
 obtain ⟨ad, c, e, _, hK, hc0⟩ := Kd.C_get h z67 i h0 h1
 have hc : ∀ j u, c[j]? = some u → w.cell? (ad.add (i.toNat * 2 + j)) = some u := hc0
 obtain ⟨A1, c1, rfl, l1, g1⟩ := Qcw hK
 exact ⟨ad, A1, c1, e, hc 0 _ rfl, by rw [← QaZ _ _ 1 (by omega)]; exact hc 1 _ rfl, l1, g1⟩
def Qbf.f (a0 : Int) : Option (Bool) := if a0 ≥ (-1152921504606846976) then (some (decide (a0 ≤ 1152921504606846976))) else (some V)
set_option maxHeartbeats 8000000 in
theorem Qbf.calls (a0 : Int) (r : Bool) (w : World) (h : Qbf.f a0 = some r) :
  Calls Try.prog 136 #[.int .i64 a0] w fun e w' => e = .returned (.bool r) ∧ Drawn0 w w' := by
 have H : (if a0 ≥ (-1152921504606846976) then (some (decide (a0 ≤ 1152921504606846976))) else (some V)) = some r := h
 clear h
 by_cases c2 : a0 ≥ (-1152921504606846976)
 ·rw [if_pos c2] at H
  have c2b0 : decide ((-1152921504606846976) ≤ a0) = J := decide_eq_true c2
  clear c2
  obtain rfl := Option.some.inj H
  go_enter Try.func136, Try.ntmps136
  go_wp2
  go_ret
  exact ⟨Zs, Zd⟩
 rw [if_neg c2] at H
 have c2b0 : decide ((-1152921504606846976) ≤ a0) = V := decide_eq_false c2
 clear c2
 obtain rfl := Option.some.inj H
 go_enter Try.func136, Try.ntmps136
 go_wp2
 go_ret
 exact ⟨Zs, Zd⟩
def Qbj.f (a0 : Int) : Option (Int × Int) := (Qbf.f a0).bind fun t111 => (if t111 = J then (some (a0, 0)) else (some (0, 3)))
set_option maxHeartbeats 8000000 in
theorem Qbj.calls (a0 : Int) (r1 : Int) (r2 : Int) (w : World) (h : Qbj.f a0 = some (r1, r2)) :
  Calls Try.prog 137 #[.int .i64 a0] w fun e w' => e = .returned (.tuple #[.int .i64 r1, .int .i64 r2]) ∧ Drawn0 w w' := by
 have H : ((Qbf.f a0).bind fun t111 => (if t111 = J then (some (a0, 0)) else (some (0, 3)))) = some (r1, r2) := h
 clear h
 replace H := Option.bind_eq_some_iff.mp H
 obtain ⟨t111, A20, H⟩ := H
 replace H : (if t111 = J then (some (a0, 0)) else (some (0, 3))) = some (r1, r2) := H
 have A2 := Aside0.mk A20
 clear A20
 go_enter Try.func137, Try.ntmps137
 go_upto_if 6 with (first | ((with_reducible refine QaF (f := 136) rfl ?_); refine goesL_ (some 5) rfl rfl Try.func136 (by kernel_rfl) rfl #[.int .i64 a0] rfl (Zl) ?_; (with_reducible refine (Qbf.calls a0 t111 _ A2.out).mono ?_); rintro e w' ⟨rfl, ⟨nd, rfl⟩⟩; refine ⟨_, rfl, ?_⟩))
 (try simp only [Act.put, Zj, Zk, Zm])
 by_cases c3 : t111 = J
 ·subst c3
  have H1 : (some (a0, 0)) = some (r1, r2) := by rw [if_pos rfl] at H; exact H
  clear H
  have H := H1
  clear H1
  simp only [Option.some.injEq, Prod.mk.injEq] at H
  obtain ⟨rfl, rfl⟩ := H
  go_wp2
  go_ret2
  exact ⟨Zs, Zd⟩
 replace c3 := Bool.eq_false_iff.mpr c3
 subst c3
 have H1 : (some (0, 3)) = some (r1, r2) := by rw [if_neg (show ¬ (V = J) by decide)] at H; exact H
 clear H
 have H := H1
 clear H1
 simp only [Option.some.injEq, Prod.mk.injEq] at H
 obtain ⟨rfl, rfl⟩ := H
 go_wp2
 go_ret2
 exact ⟨Zs, Zd⟩
def QaG.l0 : Nat → List Int → Int → Int → Int → Int → Option (Int × Int)
 | 0, _, _, _, _, _ => none
 | k + 1, x0, x4, x5, x9, x10 => if x10 < x9 then (if 0 ≤ x10 then (if x10 < (x0.length : Int) then ((Qbf.f (rd x0 x10)).bind fun t113 => (if t113 = J then (QaG.l0 k x0 (wrap64 (x4 + ((rd x0 x10) / 4294967296))) (wrap64 (x5 + (Go.bits .and .i64 (rd x0 x10) 4294967295))) x9 (wrap64 (x10 + 1))) else (some (0, 2)))) else (none)) else (none)) else (if (wrap64 (x4 + (x5 / 4294967296))) < (-268435456) then (some (0, 3)) else (if (wrap64 (x4 + (x5 / 4294967296))) > 268435456 then (some (0, 3)) else ((Qbj.f (wrap64 ((wrap64 ((wrap64 (x4 + (x5 / 4294967296))) * 4294967296)) + (Go.bits .and .i64 x5 4294967295)))).bind fun bt116 => (some (bt116.1, bt116.2)))))
def QaG.f (k : Nat) (l0 : List Int) : Option (Int × Int) := QaG.l0 k l0 0 0 (l0.length : Int) 0
theorem QaG.mono_l : ∀ k, (∀ y0 y1 y2 y3 y4, LeO (QaG.l0 k y0 y1 y2 y3 y4) (QaG.l0 (k + 1) y0 y1 y2 y3 y4))
 | 0 => fun _ _ _ _ _ r h => by simp [QaG.l0] at h
 | k + 1 => by
  have ih0 := QaG.mono_l k
  intro y0 y1 y2 y3 y4
  unfold QaG.l0
  exact ZM1 ih0
theorem QaG.mono : ∀ a0 k, LeO (QaG.f k a0) (QaG.f (k + 1) a0) := by
 intro a0 k
 have ih0 := QaG.mono_l k
 unfold QaG.f
 exact ZM1 ih0
set_option maxHeartbeats 8000000 in
theorem QaG.calls (k : Nat) (A0 : Option Addr) (c0 : Nat) (l0 : List Int) (r1 : Int) (r2 : Int) (w : World) (hr0 : Kd.C (Kd.int .i64) w A0 l0.length l0) (hc0 : l0.length ≤ c0) (h : QaG.f k l0 = some (r1, r2)) :
  Calls Try.prog 56 #[.slice A0 l0.length c0] w fun e w' => e = .returned (.tuple #[.int .i64 r1, .int .i64 r2]) ∧ Drawn0 w w' := by
 have HR0 := Aside0.mk hr0
 have HC0 := Aside0.mk hc0
 clear hr0 hc0
 have H : (QaG.l0 k l0 0 0 (l0.length : Int) 0) = some (r1, r2) := h
 clear h
 have H' := Aside0.mk H
 clear H
 go_enter Try.func56, Try.ntmps56
 go_wp2
 go_loopg [4, 5, 10] k (fun kq v4 v5 v10 w' => ∃ (x4_1 : Int) (x5_1 : Int) (x10_1 : Int), v4 = .int .i64 x4_1 ∧ v5 = .int .i64 x5_1 ∧ v10 = .int .i64 x10_1 ∧ Aside0 (QaG.l0 kq l0 x4_1 x5_1 (l0.length : Int) x10_1 = some (r1, r2)) ∧ Aside0 (kq ≤ k) ∧ Drawn0 w w')
 case atStart => exact ⟨(0), (0), (0), (Zs), (Zs), (Zs), H', ⟨Nat.le_refl _⟩, Zd⟩
 case round =>
  clear H'
  obtain ⟨x4_1, x5_1, x10_1, rfl, rfl, rfl, HA, HK1, ⟨m1, rfl⟩⟩ := hrel
  cases gk with
  | zero => exact absurd HA.out (by simp [QaG.l0])
  | succ k1 =>
   have H := HA.out
   clear HA
   simp only [QaG.l0] at H
   by_cases c2 : x10_1 < (l0.length : Int)
   ·rw [if_pos c2] at H
    have c2b0 : decide (x10_1 < (l0.length : Int)) = J := decide_eq_true c2
    clear c2
    (try simp only [c2b0])
    by_cases c3 : 0 ≤ x10_1
    ·rw [if_pos c3] at H
     have c3b0 : decide (0 ≤ x10_1) = J := decide_eq_true c3
     clear c3
     by_cases c4 : x10_1 < (l0.length : Int)
     ·rw [if_pos c4] at H
      have c4b0 : decide (x10_1 < (l0.length : Int)) = J := decide_eq_true c4
      clear c4
      replace H := Option.bind_eq_some_iff.mp H
      obtain ⟨t113, A50, H⟩ := H
      replace H : (if t113 = J then (QaG.l0 k1 l0 (wrap64 (x4_1 + ((rd l0 x10_1) / 4294967296))) (wrap64 (x5_1 + (Go.bits .and .i64 (rd l0 x10_1) 4294967295))) (l0.length : Int) (wrap64 (x10_1 + 1))) else (some (0, 2))) = some (r1, r2) := H
      have A5 := Aside0.mk A50
      clear A50
      have p112 : 0 ≤ (x10_1 : Int) := Ze
      have q112 : x10_1 < (l0.length : Int) := Ze
      obtain ⟨ad112, e112, hx112_0⟩ := Kd.at_int HR0.out x10_1 p112 q112
      cases e112
      replace p112 := eq_true p112
      replace q112 := eq_true q112
      go_upto_if 18 with (first | ((with_reducible refine QaF (f := 136) rfl ?_); refine goesL_ (some 17) rfl rfl Try.func136 (by kernel_rfl) rfl #[.int .i64 (rd l0 x10_1)] rfl (Zl) ?_; (with_reducible refine (Qbf.calls (rd l0 x10_1) t113 _ A5.out).mono ?_); rintro e w' ⟨rfl, ⟨nd, rfl⟩⟩; refine ⟨_, rfl, ?_⟩))
      (try simp only [Act.put, Zj, Zk, Zm])
      by_cases c6 : t113 = J
      ·subst c6
       have H1 : (QaG.l0 k1 l0 (wrap64 (x4_1 + ((rd l0 x10_1) / 4294967296))) (wrap64 (x5_1 + (Go.bits .and .i64 (rd l0 x10_1) 4294967295))) (l0.length : Int) (wrap64 (x10_1 + 1))) = some (r1, r2) := by rw [if_pos rfl] at H; exact H
       clear H
       have H := H1
       clear H1
       have H' := Aside0.mk H
       clear H
       have p114 : 0 ≤ (x10_1 : Int) := Ze
       have q114 : x10_1 < (l0.length : Int) := Ze
       obtain ⟨ad114, e114, hx114_0⟩ := Kd.at_int HR0.out x10_1 p114 q114
       obtain rfl : ad112 = ad114 := (by injection e114)
       replace p114 := eq_true p114
       replace q114 := eq_true q114
       have p115 : 0 ≤ (x10_1 : Int) := Ze
       have q115 : x10_1 < (l0.length : Int) := Ze
       obtain ⟨ad115, e115, hx115_0⟩ := Kd.at_int HR0.out x10_1 p115 q115
       obtain rfl : ad112 = ad115 := (by injection e115)
       replace p115 := eq_true p115
       replace q115 := eq_true q115
       go_wp2
       go_roundg k1
       case measure => have := HK1.out; omega
       case rel => exact ⟨(wrap64 (x4_1 + ((rd l0 x10_1) / 4294967296))), (wrap64 (x5_1 + (Go.bits .and .i64 (rd l0 x10_1) 4294967295))), (wrap64 (x10_1 + 1)), (Zs), (Zs), (Zs), H', ⟨by have := HK1.out; omega⟩, Zd⟩
      replace c6 := Bool.eq_false_iff.mpr c6
      subst c6
      have H1 : (some (0, 2)) = some (r1, r2) := by rw [if_neg (show ¬ (V = J) by decide)] at H; exact H
      clear H
      have H := H1
      clear H1
      simp only [Option.some.injEq, Prod.mk.injEq] at H
      obtain ⟨rfl, rfl⟩ := H
      go_wp2
      go_ret2
      exact ⟨Zs, Zd⟩
     rw [if_neg c4] at H
     exact absurd H (by simp)
    rw [if_neg c3] at H
    exact absurd H (by simp)
   rw [if_neg c2] at H
   have c2b0 : decide (x10_1 < (l0.length : Int)) = V := decide_eq_false c2
   clear c2
   (try simp only [c2b0])
   by_cases c7 : (wrap64 (x4_1 + (x5_1 / 4294967296))) < (-268435456)
   ·rw [if_pos c7] at H
    have c7b0 : decide ((wrap64 (x4_1 + (x5_1 / 4294967296))) < (-268435456)) = J := decide_eq_true c7
    clear c7
    simp only [Option.some.injEq, Prod.mk.injEq] at H
    obtain ⟨rfl, rfl⟩ := H
    go_wp2
    go_ret2
    exact ⟨Zs, Zd⟩
   rw [if_neg c7] at H
   have c7b0 : decide ((wrap64 (x4_1 + (x5_1 / 4294967296))) < (-268435456)) = V := decide_eq_false c7
   clear c7
   by_cases c8 : (wrap64 (x4_1 + (x5_1 / 4294967296))) > 268435456
   ·rw [if_pos c8] at H
    have c8b0 : decide (268435456 < (wrap64 (x4_1 + (x5_1 / 4294967296)))) = J := decide_eq_true c8
    clear c8
    (try simp only [c8b0])
    simp only [Option.some.injEq, Prod.mk.injEq] at H
    obtain ⟨rfl, rfl⟩ := H
    go_wp2
    go_ret2
    exact ⟨Zs, Zd⟩
   rw [if_neg c8] at H
   have c8b0 : decide (268435456 < (wrap64 (x4_1 + (x5_1 / 4294967296)))) = V := decide_eq_false c8
   clear c8
   (try simp only [c8b0])
   replace H := Option.bind_eq_some_iff.mp H
   obtain ⟨⟨t116, t117⟩, A90, H⟩ := H
   replace H : (some (t116, t117)) = some (r1, r2) := H
   have A9 := Aside0.mk A90
   clear A90
   simp only [Option.some.injEq, Prod.mk.injEq] at H
   obtain ⟨rfl, rfl⟩ := H
   go_wp2_with (first | ((with_reducible refine QaF (f := 137) rfl ?_); refine goesL_ (some 52) rfl rfl Try.func137 (by kernel_rfl) rfl #[.int .i64 (wrap64 ((wrap64 ((wrap64 (x4_1 + (x5_1 / 4294967296))) * 4294967296)) + (Go.bits .and .i64 x5_1 4294967295)))] rfl (Zl) ?_; (with_reducible refine (Qbj.calls (wrap64 ((wrap64 ((wrap64 (x4_1 + (x5_1 / 4294967296))) * 4294967296)) + (Go.bits .and .i64 x5_1 4294967295))) t116 t117 _ A9.out).mono ?_); rintro e w' ⟨rfl, ⟨nd, rfl⟩⟩; refine ⟨_, rfl, ?_⟩))
   go_ret2
   exact ⟨Zs, Zd⟩
theorem eqA69 (d : Nat) (w : World) (x0 y0 : ByteArray) (x1 y1 : Int) (x2 y2 : Int) (x3 y3 : Int) :
  (Op.equalIn (d + 2) 69 (.agg #[.string x0, .int .i64 x1, .int .i64 x2, .int .i64 x3]) (.agg #[.string y0, .int .i64 y1, .int .i64 y2, .int .i64 y3])).run Try.prog w = .ok (x0.toList == y0.toList && (x1 == y1 && (x2 == y2 && (x3 == y3)))) w := by
 refine eqA_of Try.underlying69 (by kernel_rfl) ?_
 refine QbH (by rfl) (by go_simp; rfl) (by go_simp; rfl) (by go_simp) ?_
 refine QbH (by rfl) (by go_simp; rfl) (by go_simp; rfl) (by go_simp) ?_
 refine QbH (by rfl) (by go_simp; rfl) (by go_simp; rfl) (by go_simp) ?_
 exact Qdl (by rfl) (by go_simp; rfl) (by go_simp; rfl) (by go_simp)
def QaM.f (a0_0 : ByteArray) (a0_1 a0_2 a0_3 : Int) (a1_0 : ByteArray) (a1_1 a1_2 a1_3 : Int) : Option Int :=
 if a0_0.toList = a1_0.toList then
  if a0_2 = a1_2 then
   if a0_1 = a1_1 then
    if a0_3 = a1_3 then some 0 else if a0_3 < a1_3 then some (-1) else some 1
   else if a0_1 < a1_1 then some (-1) else some 1
  else if a0_2 < a1_2 then some (-1) else some 1
 else if Op.bytesLess a0_0.toList a1_0.toList = J then some (-1) else some 1
set_option maxHeartbeats 4000000 in
theorem QaM.calls (a0_0 : ByteArray) (a0_1 : Int) (a0_2 : Int) (a0_3 : Int) (a1_0 : ByteArray) (a1_1 : Int) (a1_2 : Int) (a1_3 : Int) (r : Int) (w : World) (h : QaM.f a0_0 a0_1 a0_2 a0_3 a1_0 a1_1 a1_2 a1_3 = some r) :
  Calls Try.prog 49 #[.agg #[.string a0_0, .int .i64 a0_1, .int .i64 a0_2, .int .i64 a0_3], .agg #[.string a1_0, .int .i64 a1_1, .int .i64 a1_2, .int .i64 a1_3]] w fun e w' => e = .returned (.int .i64 r) ∧ Below w.heap.size w w' := by
 have hu38 := Try.underlying69
 have HH := Aside0.mk h
 clear h
 go_enter Try.func49, Try.ntmps49
 go_wp2
 all_goals go_ret
 all_goals refine ⟨congrArg Ending.returned (congrArg (Value.int IntKind.i64) ?_), by repeat (first | exact Below.refl _ _ | apply Qac | apply Qab | apply Qbk)⟩
 all_goals (go_light; have H := HH.out; clear HH; unfold QaM.f at H)
 all_goals ((repeat' split at H) <;> (first | exact (Option.some.inj H) | (exfalso; omega) | (exfalso; simp_all; done) | (exfalso; simp_all; omega)))
def QaS.f (a0 : Int) : Option (Bool) := if a0 ≥ 0 then (some (decide (a0 ≤ 1048576))) else (some V)
set_option maxHeartbeats 8000000 in
theorem QaS.calls (a0 : Int) (r : Bool) (w : World) (h : QaS.f a0 = some r) :
  Calls Try.prog 50 #[.int .i64 a0] w fun e w' => e = .returned (.bool r) ∧ Drawn0 w w' := by
 have H : (if a0 ≥ 0 then (some (decide (a0 ≤ 1048576))) else (some V)) = some r := h
 clear h
 by_cases c2 : a0 ≥ 0
 ·rw [if_pos c2] at H
  have c2b0 : decide (0 ≤ a0) = J := decide_eq_true c2
  clear c2
  obtain rfl := Option.some.inj H
  go_enter Try.func50, Try.ntmps50
  go_wp2
  go_ret
  exact ⟨Zs, Zd⟩
 rw [if_neg c2] at H
 have c2b0 : decide (0 ≤ a0) = V := decide_eq_false c2
 clear c2
 obtain rfl := Option.some.inj H
 go_enter Try.func50, Try.ntmps50
 go_wp2
 go_ret
 exact ⟨Zs, Zd⟩
mutual
def Qal.l0 : Nat → List (S71) → List (S71) → Int → Int → Option (Int)
 | 0, _, _, _, _ => none
 | k + 1, x0, x8, x9, x10 => if x10 < x9 then (if 0 ≤ x10 then (if x10 < (x8.length : Int) then (if x10 > 0 then (if 0 ≤ (wrap64 (x10 - 1)) then (if (wrap64 (x10 - 1)) < (x0.length : Int) then ((QaM.f ((rd_T71 x0 (wrap64 (x10 - 1))).f0.f0) ((rd_T71 x0 (wrap64 (x10 - 1))).f0.f1) ((rd_T71 x0 (wrap64 (x10 - 1))).f0.f2) ((rd_T71 x0 (wrap64 (x10 - 1))).f0.f3) ((rd_T71 x8 x10).f0.f0) ((rd_T71 x8 x10).f0.f1) ((rd_T71 x8 x10).f0.f2) ((rd_T71 x8 x10).f0.f3)).bind fun t108 => (Qal.j1 k x0 x8 x9 x10 (decide (t108 ≥ 0)) ((rd_T71 x8 x10).f0.f0) ((rd_T71 x8 x10).f0.f1) ((rd_T71 x8 x10).f0.f2) ((rd_T71 x8 x10).f0.f3) ((rd_T71 x8 x10).f1) ((rd_T71 x8 x10).f2))) else (none)) else (none)) else (Qal.j1 k x0 x8 x9 x10 V ((rd_T71 x8 x10).f0.f0) ((rd_T71 x8 x10).f0.f1) ((rd_T71 x8 x10).f0.f2) ((rd_T71 x8 x10).f0.f3) ((rd_T71 x8 x10).f1) ((rd_T71 x8 x10).f2))) else (none)) else (none)) else (some 0)
def Qal.j1 : Nat → List (S71) → List (S71) → Int → Int → Bool → ByteArray → Int → Int → Int → Int → Int → Option (Int)
 | 0, _, _, _, _, _, _, _, _, _, _, _ => none
 | k + 1, x0, x8, x9, x10, x28, x107000, x107001, x107002, x107003, x107004, x107005 => if x28 = J then (some 19) else ((QaS.f x107004).bind fun t109 => (if t109 = J then ((QaS.f x107005).bind fun t110 => (if t110 = J then (if x107004 = 0 then (if x107005 = 0 then (some 18) else (Qal.l0 k x0 x8 x9 (wrap64 (x10 + 1)))) else (Qal.l0 k x0 x8 x9 (wrap64 (x10 + 1)))) else (some 18))) else (some 18)))
end
def Qal.f (k : Nat) (l0 : List (S71)) : Option (Int) := if (l0.length : Int) > 128 then (some 8) else (Qal.l0 k l0 l0 (l0.length : Int) 0)
theorem Qal.mono_l : ∀ k, (∀ y0 y1 y2 y3, LeO (Qal.l0 k y0 y1 y2 y3) (Qal.l0 (k + 1) y0 y1 y2 y3)) ∧ (∀ y0 y1 y2 y3 y4 y5 y6 y7 y8 y9 y10, LeO (Qal.j1 k y0 y1 y2 y3 y4 y5 y6 y7 y8 y9 y10) (Qal.j1 (k + 1) y0 y1 y2 y3 y4 y5 y6 y7 y8 y9 y10))
 | 0 => ⟨fun _ _ _ _ r h => by simp [Qal.l0] at h, fun _ _ _ _ _ _ _ _ _ _ _ r h => by simp [Qal.j1] at h⟩
 | k + 1 => by
  obtain ⟨ih0, ih1⟩ := Qal.mono_l k
  refine ⟨?_, ?_⟩
  ·intro y0 y1 y2 y3
   unfold Qal.l0
   exact ZM2 ih0 ih1
  intro y0 y1 y2 y3 y4 y5 y6 y7 y8 y9 y10
  unfold Qal.j1
  exact ZM2 ih0 ih1
theorem Qal.mono : ∀ a0 k, LeO (Qal.f k a0) (Qal.f (k + 1) a0) := by
 intro a0 k
 obtain ⟨ih0, ih1⟩ := Qal.mono_l k
 unfold Qal.f
 exact ZM2 ih0 ih1
def Qal.T6 : Bool × List (List Nat × List Nat) := (J, [([], []), ([0], [0]), ([1], [1]), ([2], [2]), ([2], [2]), ([4, 2], [2, 4]), ([3, 5, 2], [2, 3, 5]), ([6, 2], [2, 6]), ([7, 2], [2, 7]), ([2], [2]), ([9, 2], [2, 9]), ([8, 10, 2, 2], [2, 8, 10]), ([11, 2], [2, 11]), ([2, 12], [2, 12])])
def Qal.B6 : List Nat := [0, 1, 3, 7, 7, 23, 63, 127, 255, 7, 519, 2047, 4095, 8191]
theorem Qal.tab6 : rtab .any (opsOf Try.f9 6) = Qal.T6 := by kernel_rfl
theorem Qal.bits6 : Qbg Qal.T6.2 Qal.B6 = J := by kernel_rfl
set_option maxHeartbeats 8000000 in
theorem Qal.calls (k : Nat) (A0 : Option Addr) (c0 : Nat) (l0 : List (S71)) (r : Int) (w : World) (hr0 : Kd.C k71 w A0 l0.length l0) (hc0 : l0.length ≤ c0) (h : Qal.f k l0 = some r) :
  Calls Try.prog 9 #[.slice A0 l0.length c0] w fun e w' => e = .returned (.int .i64 r) ∧ Below w.heap.size w w' := by
 have hu71 := Try.underlying71
 have hu69 := Try.underlying69
 have HR0 := Aside0.mk hr0
 have HC0 := Aside0.mk hc0
 clear hr0 hc0
 have HB := Aside0.mk (Below.refl w.heap.size w)
 have H : (if (l0.length : Int) > 128 then (some 8) else (Qal.l0 k l0 l0 (l0.length : Int) 0)) = some r := h
 clear h
 by_cases c2 : (l0.length : Int) > 128
 ·rw [if_pos c2] at H
  have c2b0 : decide (128 < (l0.length : Int)) = J := decide_eq_true c2
  have c2b1 : decide (128 < l0.length) = J := decide_eq_true (by omega)
  clear c2
  obtain rfl := Option.some.inj H
  go_enter Try.func9, Try.ntmps9
  go_wp2
  go_ret
  exact ⟨Zq, Zb⟩
 rw [if_neg c2] at H
 have c2b0 : decide (128 < (l0.length : Int)) = V := decide_eq_false c2
 have c2b1 : decide (128 < l0.length) = V := decide_eq_false (by omega)
 clear c2
 have H' := Aside0.mk H
 clear H
 go_enter Try.func9, Try.ntmps9
 go_wp2
 go_loopg [10] k (fun kq v10 w' => ∃ (x10_1 : Int), v10 = .int .i64 x10_1 ∧ Aside0 (Qal.l0 kq l0 l0 (l0.length : Int) x10_1 = some r) ∧ Aside0 (kq ≤ k) ∧ Aside0 (Below w.heap.size w w'))
 case atStart => exact ⟨(0), (Zs), H', ⟨Nat.le_refl _⟩, ⟨Zb⟩⟩
 case round =>
  clear H'
  try clear c2
  try clear c2b0
  try clear c2b1
  try clear p2
  obtain ⟨x10_1, rfl, HA, HK1, HB⟩ := hrel
  cases gk with
  | zero => exact absurd HA.out (by simp [Qal.l0])
  | succ k1 =>
   have H := HA.out
   clear HA
   simp only [Qal.l0] at H
   by_cases c3 : x10_1 < (l0.length : Int)
   ·rw [if_pos c3] at H
    have c3b0 : decide (x10_1 < (l0.length : Int)) = J := decide_eq_true c3
    clear c3
    (try simp only [c3b0])
    by_cases c4 : 0 ≤ x10_1
    ·rw [if_pos c4] at H
     have c4b0 : decide (0 ≤ x10_1) = J := decide_eq_true c4
     clear c4
     by_cases c5 : x10_1 < (l0.length : Int)
     ·rw [if_pos c5] at H
      have c5b0 : decide (x10_1 < (l0.length : Int)) = J := decide_eq_true c5
      clear c5
      have HC6 := Aside0.mk H
      clear H
      have p105 : 0 ≤ (x10_1 : Int) := Ze
      have q105 : x10_1 < (l0.length : Int) := Ze
      obtain ⟨ad105, e105, hx105_0, hx105_1, hx105_2, hx105_3, hx105_4, hx105_5⟩ := at_T71 HR0.out x10_1 p105 q105
      cases e105
      replace hx105_0 := Zx HB.out hx105_0
      replace hx105_1 := Zx HB.out hx105_1
      replace hx105_2 := Zx HB.out hx105_2
      replace hx105_3 := Zx HB.out hx105_3
      replace hx105_4 := Zx HB.out hx105_4
      replace hx105_5 := Zx HB.out hx105_5
      replace p105 := eq_true p105
      replace q105 := eq_true q105
      go_upto_region 6 with (first | ((with_reducible refine QaX (N := 4) rfl ?_); refine Zbx (N := 4) (cs := #[.string (⟨#[]⟩ : ByteArray), .int .i64 0, .int .i64 0, .int .i64 0, .int .i64 0, .int .i64 0]) (t := 71) ?_; intro gb106 hg w7 hbox hb; have BK106 := Aside0.mk (hbox); have GW106 := Aside0.mk (Zt w hg (Zb)); have GE106 := GW106; replace HB := Aside0.mk (Qav (Zb) hb); clear hb hbox hg; obtain ⟨hcz8_0, hfz8_0⟩ := Zy (v := (.string (⟨#[]⟩ : ByteArray))) BK106.out 0; obtain ⟨hcz8_1, hfz8_1⟩ := Zy (v := (.int .i64 0)) BK106.out 1; obtain ⟨hcz8_2, hfz8_2⟩ := Zy (v := (.int .i64 0)) BK106.out 2; obtain ⟨hcz8_3, hfz8_3⟩ := Zy (v := (.int .i64 0)) BK106.out 3; obtain ⟨hcz8_4, hfz8_4⟩ := Zy (v := (.int .i64 0)) BK106.out 4; obtain ⟨hcz8_5, hfz8_5⟩ := Zy (v := (.int .i64 0)) BK106.out 5))
      (try simp only [Act.put, Zj, Zk, Zm])
      go_cut [28] (fun v28 wc => ∃ (kq : Nat) (x28_5 : Bool), v28 = .bool x28_5 ∧ Aside0 (Qal.j1 kq l0 l0 (l0.length : Int) x10_1 x28_5 ((rd_T71 l0 x10_1).f0.f0) ((rd_T71 l0 x10_1).f0.f1) ((rd_T71 l0 x10_1).f0.f2) ((rd_T71 l0 x10_1).f0.f3) ((rd_T71 l0 x10_1).f1) ((rd_T71 l0 x10_1).f2) = some r) ∧ Aside0 (kq ≤ k1) ∧ Aside0 (wc.heap[gb106]? = some (.cells #[.string ((rd_T71 l0 x10_1).f0.f0), .int .i64 ((rd_T71 l0 x10_1).f0.f1), .int .i64 ((rd_T71 l0 x10_1).f0.f2), .int .i64 ((rd_T71 l0 x10_1).f0.f3), .int .i64 ((rd_T71 l0 x10_1).f1), .int .i64 ((rd_T71 l0 x10_1).f2)] 71 (0, 0))) ∧ Aside0 (Below w.heap.size w wc))
      case first =>
       have H := HC6.out
       clear HC6
       by_cases c9 : x10_1 > 0
       ·rw [if_pos c9] at H
        have c9b0 : decide (0 < x10_1) = J := decide_eq_true c9
        clear c9
        (first | rw [c9b0] | (simp only [i64_w, i32_w]; rw [c9b0]) | skip)
        obtain ⟨ji10, hji10⟩ : ∃ j_ : Int, (wrap64 (x10_1 - 1)) = j_ := ⟨_, rfl⟩
        replace H : (if 0 ≤ (ji10) then (if (ji10) < (l0.length : Int) then ((QaM.f ((rd_T71 l0 (ji10)).f0.f0) ((rd_T71 l0 (ji10)).f0.f1) ((rd_T71 l0 (ji10)).f0.f2) ((rd_T71 l0 (ji10)).f0.f3) ((rd_T71 l0 x10_1).f0.f0) ((rd_T71 l0 x10_1).f0.f1) ((rd_T71 l0 x10_1).f0.f2) ((rd_T71 l0 x10_1).f0.f3)).bind fun t108 => (Qal.j1 k1 l0 l0 (l0.length : Int) x10_1 (decide (t108 ≥ 0)) ((rd_T71 l0 x10_1).f0.f0) ((rd_T71 l0 x10_1).f0.f1) ((rd_T71 l0 x10_1).f0.f2) ((rd_T71 l0 x10_1).f0.f3) ((rd_T71 l0 x10_1).f1) ((rd_T71 l0 x10_1).f2))) else (none)) else (none)) = some r := by first | (rw [hji10] at H; exact H) | (simp only [hji10] at H ⊢; exact H)
        have hji10w : (IntKind.i64.wrap (x10_1 - 1)) = ji10 := (i64_w _).trans hji10
        by_cases c11 : 0 ≤ (ji10)
        ·rw [if_pos c11] at H
         have c11b0 : decide (0 ≤ (ji10)) = J := decide_eq_true c11
         clear c11
         by_cases c12 : (ji10) < (l0.length : Int)
         ·rw [if_pos c12] at H
          have c12b0 : decide ((ji10) < (l0.length : Int)) = J := decide_eq_true c12
          clear c12
          replace H := Option.bind_eq_some_iff.mp H
          obtain ⟨t108, A130, H⟩ := H
          replace H : (Qal.j1 k1 l0 l0 (l0.length : Int) x10_1 (decide (t108 ≥ 0)) ((rd_T71 l0 x10_1).f0.f0) ((rd_T71 l0 x10_1).f0.f1) ((rd_T71 l0 x10_1).f0.f2) ((rd_T71 l0 x10_1).f0.f3) ((rd_T71 l0 x10_1).f1) ((rd_T71 l0 x10_1).f2)) = some r := H
          have A13 := Aside0.mk A130
          clear A130
          have H' := Aside0.mk H
          clear H
          try go_wp2
          have n0_ : Aside0 (((((((w7.setCell ⟨gb106, 0, none⟩ (.string ((rd_T71 l0 x10_1).f0.f0))).setCell ⟨gb106, 1, none⟩ (.int .i64 ((rd_T71 l0 x10_1).f0.f1))).setCell ⟨gb106, 2, none⟩ (.int .i64 ((rd_T71 l0 x10_1).f0.f2))).setCell ⟨gb106, 3, none⟩ (.int .i64 ((rd_T71 l0 x10_1).f0.f3))).setCell ⟨gb106, 4, none⟩ (.int .i64 ((rd_T71 l0 x10_1).f1))).setCell ⟨gb106, 5, none⟩ (.int .i64 ((rd_T71 l0 x10_1).f2))).heap[gb106]? = some (.cells #[.string ((rd_T71 l0 x10_1).f0.f0), .int .i64 ((rd_T71 l0 x10_1).f0.f1), .int .i64 ((rd_T71 l0 x10_1).f0.f2), .int .i64 ((rd_T71 l0 x10_1).f0.f3), .int .i64 ((rd_T71 l0 x10_1).f1), .int .i64 ((rd_T71 l0 x10_1).f2)] 71 (0, 0))) := ⟨Zp2 BK106.out⟩
          have n1_ : Aside0 (Below w.heap.size w ((((((w7.setCell ⟨gb106, 0, none⟩ (.string ((rd_T71 l0 x10_1).f0.f0))).setCell ⟨gb106, 1, none⟩ (.int .i64 ((rd_T71 l0 x10_1).f0.f1))).setCell ⟨gb106, 2, none⟩ (.int .i64 ((rd_T71 l0 x10_1).f0.f2))).setCell ⟨gb106, 3, none⟩ (.int .i64 ((rd_T71 l0 x10_1).f0.f3))).setCell ⟨gb106, 4, none⟩ (.int .i64 ((rd_T71 l0 x10_1).f1))).setCell ⟨gb106, 5, none⟩ (.int .i64 ((rd_T71 l0 x10_1).f2)))) := ⟨Zc1 GE106.out⟩
          (try clear BK106)
          (try clear HB)
          generalize ((((((w7.setCell ⟨gb106, 0, none⟩ (.string ((rd_T71 l0 x10_1).f0.f0))).setCell ⟨gb106, 1, none⟩ (.int .i64 ((rd_T71 l0 x10_1).f0.f1))).setCell ⟨gb106, 2, none⟩ (.int .i64 ((rd_T71 l0 x10_1).f0.f2))).setCell ⟨gb106, 3, none⟩ (.int .i64 ((rd_T71 l0 x10_1).f0.f3))).setCell ⟨gb106, 4, none⟩ (.int .i64 ((rd_T71 l0 x10_1).f1))).setCell ⟨gb106, 5, none⟩ (.int .i64 ((rd_T71 l0 x10_1).f2))) = w14 at n0_ n1_ ⊢
          have BK106 := n0_
          have HB := n1_
          clear n0_ n1_
          replace BK106 := Aside0.mk (Qah BK106.out)
          replace HB := Aside0.mk (Qad HB.out)
          have p107 : 0 ≤ ((ji10) : Int) := Ze
          have q107 : (ji10) < (l0.length : Int) := Ze
          obtain ⟨ad107, e107, hx107_0, hx107_1, hx107_2, hx107_3, hx107_4, hx107_5⟩ := at_T71 HR0.out (ji10) p107 q107
          have hw107_5 := hx107_5
          have hw107_4 := hx107_4
          have hw107_3 := hx107_3
          have hw107_2 := hx107_2
          have hw107_1 := hx107_1
          have hw107_0 := hx107_0
          obtain rfl : ad105 = ad107 := (by injection e107)
          replace hx107_0 := Zx HB.out hx107_0
          replace hx107_1 := Zx HB.out hx107_1
          replace hx107_2 := Zx HB.out hx107_2
          replace hx107_3 := Zx HB.out hx107_3
          replace hx107_4 := Zx HB.out hx107_4
          replace hx107_5 := Zx HB.out hx107_5
          replace p107 := eq_true p107
          replace q107 := eq_true q107
          refine start_ (n := 14) (S := fun w' => w'.cell? ⟨gb106, 0, none⟩ = some (.string ((rd_T71 l0 x10_1).f0.f0)) ∧ w'.cell? ⟨gb106, 1, none⟩ = some (.int .i64 ((rd_T71 l0 x10_1).f0.f1)) ∧ w'.cell? ⟨gb106, 2, none⟩ = some (.int .i64 ((rd_T71 l0 x10_1).f0.f2)) ∧ w'.cell? ⟨gb106, 3, none⟩ = some (.int .i64 ((rd_T71 l0 x10_1).f0.f3)) ∧ w'.cell? ⟨gb106, 4, none⟩ = some (.int .i64 ((rd_T71 l0 x10_1).f1)) ∧ w'.cell? ⟨gb106, 5, none⟩ = some (.int .i64 ((rd_T71 l0 x10_1).f2)) ∧ w'.cell? (ad105.add (((ji10)).toNat * 6)) = some (.string ((rd_T71 l0 (ji10)).f0.f0)) ∧ w'.cell? ⟨(ad105.add (((ji10)).toNat * 6)).block, (ad105.add (((ji10)).toNat * 6)).off + 1, none⟩ = some (.int .i64 ((rd_T71 l0 (ji10)).f0.f1)) ∧ w'.cell? ⟨(ad105.add (((ji10)).toNat * 6)).block, (ad105.add (((ji10)).toNat * 6)).off + 2, none⟩ = some (.int .i64 ((rd_T71 l0 (ji10)).f0.f2)) ∧ w'.cell? ⟨(ad105.add (((ji10)).toNat * 6)).block, (ad105.add (((ji10)).toNat * 6)).off + 3, none⟩ = some (.int .i64 ((rd_T71 l0 (ji10)).f0.f3)) ∧ w'.cell? ⟨(ad105.add (((ji10)).toNat * 6)).block, (ad105.add (((ji10)).toNat * 6)).off + 4, none⟩ = some (.int .i64 ((rd_T71 l0 (ji10)).f1)) ∧ w'.cell? ⟨(ad105.add (((ji10)).toNat * 6)).block, (ad105.add (((ji10)).toNat * 6)).off + 5, none⟩ = some (.int .i64 ((rd_T71 l0 (ji10)).f2))) (ds := []) #[V, V, V, V, V, V, V, V, V, V, V, V, V, V] (by kernel_rfl) rfl rfl ⟨(Qae BK106.out 0).trans rfl, (Qae BK106.out 1).trans rfl, (Qae BK106.out 2).trans rfl, (Qae BK106.out 3).trans rfl, (Qae BK106.out 4).trans rfl, (Qae BK106.out 5).trans rfl, ((HB.out.cell (World.block_lt_of_cell? w _ hw107_0)).trans hw107_0), ((HB.out.cell (World.block_lt_of_cell? w _ hw107_1)).trans hw107_1), ((HB.out.cell (World.block_lt_of_cell? w _ hw107_2)).trans hw107_2), ((HB.out.cell (World.block_lt_of_cell? w _ hw107_3)).trans hw107_3), ((HB.out.cell (World.block_lt_of_cell? w _ hw107_4)).trans hw107_4), ((HB.out.cell (World.block_lt_of_cell? w _ hw107_5)).trans hw107_5)⟩ (fun hHeld => ?_); refine Qa3 Qal.tab6 Qal.bits6 (fun HT_ HW_ => ?_)
          generalize w14.drew = w15 at BK106 HB hx107_0 hx107_1 hx107_2 hx107_3 hx107_4 hx107_5 hHeld ⊢
          refine Zsp (i := 0) (N := some 15) (pm 14 1) HT_ ?_
          refine Zsp (i := 1) (N := some 16) (pm 14 2) HT_ ?_
          refine Zsp (i := 2) (N := some 17) (pm 14 3) HT_ ?_
          refine Zsp (i := 3) (N := some 18) (pm 14 4) HT_ ?_
          refine Zsp (i := 4) (N := some 19) (pm 14 5) HT_ ?_
          refine Zsp (i := 5) (N := some 20) (pm 14 6) HT_ ?_
          refine Zsp (i := 6) (N := some 21) (pm 14 7) HT_ ?_
          refine Zsp (i := 7) (N := some 22) (pm 14 8) HT_ ?_
          refine Zsp (i := 9) (N := some 24) #[J, J, J, J, J, J, J, J, V, J, V, V, V, V] HT_ ?_
          refine Zst (i := 8) (N := some 23) (pm 14 10) HT_ HW_ hHeld ?_ (hy := by (refine Or.inl ⟨by rfl, ?_⟩; rintro w' ⟨s0, s1, s2, s3, s4, s5, s6, s7, s8, s9, s10, s11⟩; go_simp; with_reducible rfl))
          refine Zst (i := 10) (N := some 25) (pm 14 11) HT_ HW_ hHeld ?_ (hy := by (refine Or.inl ⟨by rfl, ?_⟩; rintro w' ⟨s0, s1, s2, s3, s4, s5, s6, s7, s8, s9, s10, s11⟩; go_simp; with_reducible rfl))
          refine one_ (i := 11) (N := some 26) #[J, J, J, J, J, J, J, J, J, J, J, J, V, V] rfl rfl (one_of HT_.out (by kernel_rfl)) (by decide) (fun K hK => ?_)
          refine goes_ Try.func49 (by kernel_rfl) rfl #[.agg #[.string ((rd_T71 l0 (ji10)).f0.f0), .int .i64 ((rd_T71 l0 (ji10)).f0.f1), .int .i64 ((rd_T71 l0 (ji10)).f0.f2), .int .i64 ((rd_T71 l0 (ji10)).f0.f3)], .agg #[.string ((rd_T71 l0 x10_1).f0.f0), .int .i64 ((rd_T71 l0 x10_1).f0.f1), .int .i64 ((rd_T71 l0 x10_1).f0.f2), .int .i64 ((rd_T71 l0 x10_1).f0.f3)]] (by rfl) rfl rfl (by (try simp only [List.map_toArray, List.map_cons, List.map_nil]); first | done | (simp only [hji10]; rfl) | rfl | (simp only [List.length_drop, List.length_take]; rfl)) ?_
          with_reducible refine (QaM.calls ((rd_T71 l0 (ji10)).f0.f0) ((rd_T71 l0 (ji10)).f0.f1) ((rd_T71 l0 (ji10)).f0.f2) ((rd_T71 l0 (ji10)).f0.f3) ((rd_T71 l0 x10_1).f0.f0) ((rd_T71 l0 x10_1).f0.f1) ((rd_T71 l0 x10_1).f0.f2) ((rd_T71 l0 x10_1).f0.f3) t108 _ A13.out).mono ?_
          rintro e w16 ⟨rfl, hb⟩
          refine ⟨_, rfl, ?_⟩
          replace BK106 := Aside0.mk (Zi BK106.out hb)
          replace HB := Aside0.mk (Qav (Zc1 GE106.out) hb)
          (try clear hb)
          (try clear hb2)
          (try clear hk)
          (try clear hi)
          refine hK.out _ _ ⟨(Qae BK106.out 0).trans rfl, (Qae BK106.out 1).trans rfl, (Qae BK106.out 2).trans rfl, (Qae BK106.out 3).trans rfl, (Qae BK106.out 4).trans rfl, (Qae BK106.out 5).trans rfl, ((HB.out.cell (World.block_lt_of_cell? w _ hw107_0)).trans hw107_0), ((HB.out.cell (World.block_lt_of_cell? w _ hw107_1)).trans hw107_1), ((HB.out.cell (World.block_lt_of_cell? w _ hw107_2)).trans hw107_2), ((HB.out.cell (World.block_lt_of_cell? w _ hw107_3)).trans hw107_3), ((HB.out.cell (World.block_lt_of_cell? w _ hw107_4)).trans hw107_4), ((HB.out.cell (World.block_lt_of_cell? w _ hw107_5)).trans hw107_5)⟩ (fun hHeld => ?_)
          clear hK K
          refine norm_ (a' := ?_) ?_ ?_
          rotate_left
          ·show Act.put _ (some 26) _ = _
           simp only [Act.put, Zj, Zk, Zm, i64_w, i32_w]
           rfl
          refine Zsp (i := 12) (N := some 27) (pm 14 13) HT_ ?_
          refine Zsp (i := 13) (N := some 28) (pm 14 14) HT_ ?_
          refine done_ (Qbc HT_.out (by kernel_rfl)) ?_
          try go_wp2
          go_meet
          case rel => exact ⟨_, (decide (t108 ≥ 0)), (Zs), H', ⟨by have := HK1.out; first | omega | exact Nat.le_refl _⟩, ⟨Zu BK106.out⟩, ⟨Zc1 GE106.out⟩⟩
         rw [if_neg c12] at H
         exact absurd H (by simp)
        rw [if_neg c11] at H
        exact absurd H (by simp)
       rw [if_neg c9] at H
       have c9b0 : decide (0 < x10_1) = V := decide_eq_false c9
       clear c9
       (first | rw [c9b0] | (simp only [i64_w, i32_w]; rw [c9b0]) | skip)
       have H' := Aside0.mk H
       clear H
       try go_wp2
       have n0_ : Aside0 (((((((w7.setCell ⟨gb106, 0, none⟩ (.string ((rd_T71 l0 x10_1).f0.f0))).setCell ⟨gb106, 1, none⟩ (.int .i64 ((rd_T71 l0 x10_1).f0.f1))).setCell ⟨gb106, 2, none⟩ (.int .i64 ((rd_T71 l0 x10_1).f0.f2))).setCell ⟨gb106, 3, none⟩ (.int .i64 ((rd_T71 l0 x10_1).f0.f3))).setCell ⟨gb106, 4, none⟩ (.int .i64 ((rd_T71 l0 x10_1).f1))).setCell ⟨gb106, 5, none⟩ (.int .i64 ((rd_T71 l0 x10_1).f2))).heap[gb106]? = some (.cells #[.string ((rd_T71 l0 x10_1).f0.f0), .int .i64 ((rd_T71 l0 x10_1).f0.f1), .int .i64 ((rd_T71 l0 x10_1).f0.f2), .int .i64 ((rd_T71 l0 x10_1).f0.f3), .int .i64 ((rd_T71 l0 x10_1).f1), .int .i64 ((rd_T71 l0 x10_1).f2)] 71 (0, 0))) := ⟨Zp2 BK106.out⟩
       have n1_ : Aside0 (Below w.heap.size w ((((((w7.setCell ⟨gb106, 0, none⟩ (.string ((rd_T71 l0 x10_1).f0.f0))).setCell ⟨gb106, 1, none⟩ (.int .i64 ((rd_T71 l0 x10_1).f0.f1))).setCell ⟨gb106, 2, none⟩ (.int .i64 ((rd_T71 l0 x10_1).f0.f2))).setCell ⟨gb106, 3, none⟩ (.int .i64 ((rd_T71 l0 x10_1).f0.f3))).setCell ⟨gb106, 4, none⟩ (.int .i64 ((rd_T71 l0 x10_1).f1))).setCell ⟨gb106, 5, none⟩ (.int .i64 ((rd_T71 l0 x10_1).f2)))) := ⟨Zc1 GE106.out⟩
       (try clear BK106)
       (try clear HB)
       generalize ((((((w7.setCell ⟨gb106, 0, none⟩ (.string ((rd_T71 l0 x10_1).f0.f0))).setCell ⟨gb106, 1, none⟩ (.int .i64 ((rd_T71 l0 x10_1).f0.f1))).setCell ⟨gb106, 2, none⟩ (.int .i64 ((rd_T71 l0 x10_1).f0.f2))).setCell ⟨gb106, 3, none⟩ (.int .i64 ((rd_T71 l0 x10_1).f0.f3))).setCell ⟨gb106, 4, none⟩ (.int .i64 ((rd_T71 l0 x10_1).f1))).setCell ⟨gb106, 5, none⟩ (.int .i64 ((rd_T71 l0 x10_1).f2))) = w17 at n0_ n1_ ⊢
       have BK106 := n0_
       have HB := n1_
       clear n0_ n1_
       replace BK106 := Aside0.mk (Qah BK106.out)
       replace HB := Aside0.mk (Qad HB.out)
       refine start_ (n := 14) (S := fun w' => True) (ds := []) #[V, V, V, V, V, V, V, V, V, V, V, V, V, V] (by kernel_rfl) rfl rfl trivial (fun hHeld => ?_); refine Qa3 Qal.tab6 Qal.bits6 (fun HT_ HW_ => ?_)
       generalize w17.drew = w18 at BK106 HB hHeld ⊢
       refine Zsp (i := 0) (N := some 15) (pm 14 1) HT_ ?_
       refine Zsp (i := 1) (N := some 16) (pm 14 2) HT_ ?_
       refine Zsp (i := 2) (N := some 17) (pm 14 3) HT_ ?_
       refine Zso (i := 3) (N := some 18) (pm 14 4) HT_ ?_
       refine Zso (i := 4) (N := some 19) (pm 14 5) HT_ ?_
       refine Zso (i := 5) (N := some 20) (pm 14 6) HT_ ?_
       refine Zso (i := 6) (N := some 21) (pm 14 7) HT_ ?_
       refine Zso (i := 7) (N := some 22) (pm 14 8) HT_ ?_
       refine Zso (i := 8) (N := some 23) (pm 14 9) HT_ ?_
       refine Zso (i := 9) (N := some 24) (pm 14 10) HT_ ?_
       refine Zso (i := 10) (N := some 25) (pm 14 11) HT_ ?_
       refine Zso (i := 11) (N := some 26) (pm 14 12) HT_ ?_
       refine Zso (i := 12) (N := some 27) (pm 14 13) HT_ ?_
       refine Zsp (i := 13) (N := some 28) (pm 14 14) HT_ ?_
       refine done_ (Qbc HT_.out (by kernel_rfl)) ?_
       try go_wp2
       go_meet
       case rel => exact ⟨_, (V), (Zs), H', ⟨by have := HK1.out; first | omega | exact Nat.le_refl _⟩, ⟨Zu BK106.out⟩, ⟨Zc1 GE106.out⟩⟩
      case rest =>
       clear HC6
       try clear c1
       try clear p1
       try clear q1
       try clear hx1
       try clear c2
       try clear c2b0
       try clear c2b1
       try clear p2
       try clear c3
       try clear c3b0
       try clear c4
       try clear c4b0
       try clear c5
       try clear c5b0
       try clear p6
       try clear c9
       try clear c9b0
       try clear p10
       try clear q10
       try clear hx10
       try clear c11
       try clear c11b0
       try clear c12
       try clear c12b0
       try clear hcz8_0
       try clear hcz8_1
       try clear hcz8_2
       try clear hcz8_3
       try clear hcz8_4
       try clear hcz8_5
       try clear hfz8_0
       try clear hfz8_1
       try clear hfz8_2
       try clear hfz8_3
       try clear hfz8_4
       try clear hfz8_5
       try clear hx105_0
       try clear hx105_1
       try clear hx105_2
       try clear hx105_3
       try clear hx105_4
       try clear hx105_5
       try clear hx107_0
       try clear hx107_1
       try clear hx107_2
       try clear hx107_3
       try clear hx107_4
       try clear hx107_5
       try clear p105
       try clear p107
       try clear p2
       try clear q105
       try clear q107
       obtain ⟨kq, x28_5, rfl, HA, HJ5, BK106, HB⟩ := hcut
       cases kq with
       | zero => exact absurd HA.out (by simp [Qal.j1])
       | succ kj5 =>
        have H := HA.out
        clear HA
        simp only [Qal.j1] at H
        by_cases c19 : x28_5 = J
        ·subst c19
         have H1 : (some 19) = some r := by rw [if_pos rfl] at H; exact H
         clear H
         have H := H1
         clear H1
         obtain rfl := Option.some.inj H
         go_wp2
         go_ret
         exact ⟨Zq, Zc1 GE106.out⟩
        replace c19 := Bool.eq_false_iff.mpr c19
        subst c19
        have H1 : ((QaS.f ((rd_T71 l0 x10_1).f1)).bind fun t109 => (if t109 = J then ((QaS.f ((rd_T71 l0 x10_1).f2)).bind fun t110 => (if t110 = J then (if ((rd_T71 l0 x10_1).f1) = 0 then (if ((rd_T71 l0 x10_1).f2) = 0 then (some 18) else (Qal.l0 kj5 l0 l0 (l0.length : Int) (wrap64 (x10_1 + 1)))) else (Qal.l0 kj5 l0 l0 (l0.length : Int) (wrap64 (x10_1 + 1)))) else (some 18))) else (some 18))) = some r := by rw [if_neg (show ¬ (V = J) by decide)] at H; exact H
        clear H
        have H := H1
        clear H1
        replace H := Option.bind_eq_some_iff.mp H
        obtain ⟨t109, A200, H⟩ := H
        replace H : (if t109 = J then ((QaS.f ((rd_T71 l0 x10_1).f2)).bind fun t110 => (if t110 = J then (if ((rd_T71 l0 x10_1).f1) = 0 then (if ((rd_T71 l0 x10_1).f2) = 0 then (some 18) else (Qal.l0 kj5 l0 l0 (l0.length : Int) (wrap64 (x10_1 + 1)))) else (Qal.l0 kj5 l0 l0 (l0.length : Int) (wrap64 (x10_1 + 1)))) else (some 18))) else (some 18)) = some r := H
        have A20 := Aside0.mk A200
        clear A200
        by_cases c21 : t109 = J
        ·subst c21
         have H1 : ((QaS.f ((rd_T71 l0 x10_1).f2)).bind fun t110 => (if t110 = J then (if ((rd_T71 l0 x10_1).f1) = 0 then (if ((rd_T71 l0 x10_1).f2) = 0 then (some 18) else (Qal.l0 kj5 l0 l0 (l0.length : Int) (wrap64 (x10_1 + 1)))) else (Qal.l0 kj5 l0 l0 (l0.length : Int) (wrap64 (x10_1 + 1)))) else (some 18))) = some r := by rw [if_pos rfl] at H; exact H
         clear H
         have H := H1
         clear H1
         replace H := Option.bind_eq_some_iff.mp H
         obtain ⟨t110, A220, H⟩ := H
         replace H : (if t110 = J then (if ((rd_T71 l0 x10_1).f1) = 0 then (if ((rd_T71 l0 x10_1).f2) = 0 then (some 18) else (Qal.l0 kj5 l0 l0 (l0.length : Int) (wrap64 (x10_1 + 1)))) else (Qal.l0 kj5 l0 l0 (l0.length : Int) (wrap64 (x10_1 + 1)))) else (some 18)) = some r := H
         have A22 := Aside0.mk A220
         clear A220
         by_cases c23 : t110 = J
         ·subst c23
          have H1 : (if ((rd_T71 l0 x10_1).f1) = 0 then (if ((rd_T71 l0 x10_1).f2) = 0 then (some 18) else (Qal.l0 kj5 l0 l0 (l0.length : Int) (wrap64 (x10_1 + 1)))) else (Qal.l0 kj5 l0 l0 (l0.length : Int) (wrap64 (x10_1 + 1)))) = some r := by rw [if_pos rfl] at H; exact H
          clear H
          have H := H1
          clear H1
          by_cases c24 : ((rd_T71 l0 x10_1).f1) = 0
          ·rw [if_pos c24] at H
           have c24b0 : (((rd_T71 l0 x10_1).f1) == 0) = J := beq_iff_eq.mpr c24
           have c24b1 : (((rd_T71 l0 x10_1).f1) != 0) = V := bne_eq_false_iff_eq.mpr c24
           clear c24
           obtain ⟨hcz25_0, hfz25_0⟩ := Zy (v := (.string ((rd_T71 l0 x10_1).f0.f0))) BK106.out 0
           obtain ⟨hcz25_1, hfz25_1⟩ := Zy (v := (.int .i64 ((rd_T71 l0 x10_1).f0.f1))) BK106.out 1
           obtain ⟨hcz25_2, hfz25_2⟩ := Zy (v := (.int .i64 ((rd_T71 l0 x10_1).f0.f2))) BK106.out 2
           obtain ⟨hcz25_3, hfz25_3⟩ := Zy (v := (.int .i64 ((rd_T71 l0 x10_1).f0.f3))) BK106.out 3
           obtain ⟨hcz25_4, hfz25_4⟩ := Zy (v := (.int .i64 ((rd_T71 l0 x10_1).f1))) BK106.out 4
           obtain ⟨hcz25_5, hfz25_5⟩ := Zy (v := (.int .i64 ((rd_T71 l0 x10_1).f2))) BK106.out 5
           go_upto_if 48 with (first | ((with_reducible refine QaF (f := 50) rfl ?_); refine goesL_ (some 31) rfl rfl Try.func50 (by kernel_rfl) rfl #[.int .i64 ((rd_T71 l0 x10_1).f1)] rfl (Zl) ?_; (with_reducible refine (QaS.calls ((rd_T71 l0 x10_1).f1) J _ A20.out).mono ?_); rintro e w' ⟨rfl, ⟨nd, rfl⟩⟩; refine ⟨_, rfl, ?_⟩) | (go_at_call 50; (with_reducible refine (QaS.calls ((rd_T71 l0 x10_1).f2) J _ A22.out).mono ?_); rintro e w' ⟨rfl, ⟨nd, rfl⟩⟩))
           (try simp only [Act.put, Zj, Zk, Zm])
           by_cases c26 : ((rd_T71 l0 x10_1).f2) = 0
           ·rw [if_pos c26] at H
            have c26b0 : (((rd_T71 l0 x10_1).f2) == 0) = J := beq_iff_eq.mpr c26
            have c26b1 : (((rd_T71 l0 x10_1).f2) != 0) = V := bne_eq_false_iff_eq.mpr c26
            clear c26
            (try simp only [c26b0, c26b1])
            obtain rfl := Option.some.inj H
            go_wp2
            go_ret
            exact ⟨Zq, Zc1 GE106.out⟩
           rw [if_neg c26] at H
           have c26b0 : (((rd_T71 l0 x10_1).f2) == 0) = V := beq_eq_false_iff_ne.mpr c26
           have c26b1 : (((rd_T71 l0 x10_1).f2) != 0) = J := bne_iff_ne.mpr c26
           (try simp only [c26b0, c26b1])
           have H' := Aside0.mk H
           clear H
           go_wp2
           go_roundg kj5
           case measure => have := HK1.out; have := HJ5.out; omega
           case rel => exact ⟨(wrap64 (x10_1 + 1)), (Zs), H', ⟨by have := HK1.out; have := HJ5.out; omega⟩, ⟨Zc1 GE106.out⟩⟩
          rw [if_neg c24] at H
          have c24b0 : (((rd_T71 l0 x10_1).f1) == 0) = V := beq_eq_false_iff_ne.mpr c24
          have c24b1 : (((rd_T71 l0 x10_1).f1) != 0) = J := bne_iff_ne.mpr c24
          have H' := Aside0.mk H
          clear H
          obtain ⟨hcz27_0, hfz27_0⟩ := Zy (v := (.string ((rd_T71 l0 x10_1).f0.f0))) BK106.out 0
          obtain ⟨hcz27_1, hfz27_1⟩ := Zy (v := (.int .i64 ((rd_T71 l0 x10_1).f0.f1))) BK106.out 1
          obtain ⟨hcz27_2, hfz27_2⟩ := Zy (v := (.int .i64 ((rd_T71 l0 x10_1).f0.f2))) BK106.out 2
          obtain ⟨hcz27_3, hfz27_3⟩ := Zy (v := (.int .i64 ((rd_T71 l0 x10_1).f0.f3))) BK106.out 3
          obtain ⟨hcz27_4, hfz27_4⟩ := Zy (v := (.int .i64 ((rd_T71 l0 x10_1).f1))) BK106.out 4
          obtain ⟨hcz27_5, hfz27_5⟩ := Zy (v := (.int .i64 ((rd_T71 l0 x10_1).f2))) BK106.out 5
          go_wp2_with (first | ((with_reducible refine QaF (f := 50) rfl ?_); refine goesL_ (some 31) rfl rfl Try.func50 (by kernel_rfl) rfl #[.int .i64 ((rd_T71 l0 x10_1).f1)] rfl (Zl) ?_; (with_reducible refine (QaS.calls ((rd_T71 l0 x10_1).f1) J _ A20.out).mono ?_); rintro e w' ⟨rfl, ⟨nd, rfl⟩⟩; refine ⟨_, rfl, ?_⟩) | (go_at_call 50; (with_reducible refine (QaS.calls ((rd_T71 l0 x10_1).f2) J _ A22.out).mono ?_); rintro e w' ⟨rfl, ⟨nd, rfl⟩⟩))
          go_roundg kj5
          case measure => have := HK1.out; have := HJ5.out; omega
          case rel => exact ⟨(wrap64 (x10_1 + 1)), (Zs), H', ⟨by have := HK1.out; have := HJ5.out; omega⟩, ⟨Zc1 GE106.out⟩⟩
         replace c23 := Bool.eq_false_iff.mpr c23
         subst c23
         have H1 : (some 18) = some r := by rw [if_neg (show ¬ (V = J) by decide)] at H; exact H
         clear H
         have H := H1
         clear H1
         obtain rfl := Option.some.inj H
         obtain ⟨hcz28_0, hfz28_0⟩ := Zy (v := (.string ((rd_T71 l0 x10_1).f0.f0))) BK106.out 0
         obtain ⟨hcz28_1, hfz28_1⟩ := Zy (v := (.int .i64 ((rd_T71 l0 x10_1).f0.f1))) BK106.out 1
         obtain ⟨hcz28_2, hfz28_2⟩ := Zy (v := (.int .i64 ((rd_T71 l0 x10_1).f0.f2))) BK106.out 2
         obtain ⟨hcz28_3, hfz28_3⟩ := Zy (v := (.int .i64 ((rd_T71 l0 x10_1).f0.f3))) BK106.out 3
         obtain ⟨hcz28_4, hfz28_4⟩ := Zy (v := (.int .i64 ((rd_T71 l0 x10_1).f1))) BK106.out 4
         obtain ⟨hcz28_5, hfz28_5⟩ := Zy (v := (.int .i64 ((rd_T71 l0 x10_1).f2))) BK106.out 5
         go_wp2_with (first | ((with_reducible refine QaF (f := 50) rfl ?_); refine goesL_ (some 31) rfl rfl Try.func50 (by kernel_rfl) rfl #[.int .i64 ((rd_T71 l0 x10_1).f1)] rfl (Zl) ?_; (with_reducible refine (QaS.calls ((rd_T71 l0 x10_1).f1) J _ A20.out).mono ?_); rintro e w' ⟨rfl, ⟨nd, rfl⟩⟩; refine ⟨_, rfl, ?_⟩) | (go_at_call 50; (with_reducible refine (QaS.calls ((rd_T71 l0 x10_1).f2) V _ A22.out).mono ?_); rintro e w' ⟨rfl, ⟨nd, rfl⟩⟩))
         go_ret
         exact ⟨Zq, Zc1 GE106.out⟩
        replace c21 := Bool.eq_false_iff.mpr c21
        subst c21
        have H1 : (some 18) = some r := by rw [if_neg (show ¬ (V = J) by decide)] at H; exact H
        clear H
        have H := H1
        clear H1
        obtain rfl := Option.some.inj H
        obtain ⟨hcz29_0, hfz29_0⟩ := Zy (v := (.string ((rd_T71 l0 x10_1).f0.f0))) BK106.out 0
        obtain ⟨hcz29_1, hfz29_1⟩ := Zy (v := (.int .i64 ((rd_T71 l0 x10_1).f0.f1))) BK106.out 1
        obtain ⟨hcz29_2, hfz29_2⟩ := Zy (v := (.int .i64 ((rd_T71 l0 x10_1).f0.f2))) BK106.out 2
        obtain ⟨hcz29_3, hfz29_3⟩ := Zy (v := (.int .i64 ((rd_T71 l0 x10_1).f0.f3))) BK106.out 3
        obtain ⟨hcz29_4, hfz29_4⟩ := Zy (v := (.int .i64 ((rd_T71 l0 x10_1).f1))) BK106.out 4
        obtain ⟨hcz29_5, hfz29_5⟩ := Zy (v := (.int .i64 ((rd_T71 l0 x10_1).f2))) BK106.out 5
        go_wp2_with (first | ((with_reducible refine QaF (f := 50) rfl ?_); refine goesL_ (some 31) rfl rfl Try.func50 (by kernel_rfl) rfl #[.int .i64 ((rd_T71 l0 x10_1).f1)] rfl (Zl) ?_; (with_reducible refine (QaS.calls ((rd_T71 l0 x10_1).f1) V _ A20.out).mono ?_); rintro e w' ⟨rfl, ⟨nd, rfl⟩⟩; refine ⟨_, rfl, ?_⟩))
        go_ret
        exact ⟨Zq, Zc1 GE106.out⟩
     rw [if_neg c5] at H
     exact absurd H (by simp)
    rw [if_neg c4] at H
    exact absurd H (by simp)
   rw [if_neg c3] at H
   have c3b0 : decide (x10_1 < (l0.length : Int)) = V := decide_eq_false c3
   clear c3
   (try simp only [c3b0])
   obtain rfl := Option.some.inj H
   go_wp2
   go_ret
   exact ⟨Zq, Zb⟩
mutual
def Qan.l0 : Nat → List (S128) → List (S128) → Int → Int → Option (Int)
 | 0, _, _, _, _ => none
 | k + 1, x0, x10, x11, x12 => if x12 < x11 then (if 0 ≤ x12 then (if x12 < (x10.length : Int) then (if x12 > 0 then (if 0 ≤ (wrap64 (x12 - 1)) then (if (wrap64 (x12 - 1)) < (x0.length : Int) then ((QaM.f ((Qaa x0 (wrap64 (x12 - 1))).f0.f0) ((Qaa x0 (wrap64 (x12 - 1))).f0.f1) ((Qaa x0 (wrap64 (x12 - 1))).f0.f2) ((Qaa x0 (wrap64 (x12 - 1))).f0.f3) ((Qaa x10 x12).f0.f0) ((Qaa x10 x12).f0.f1) ((Qaa x10 x12).f0.f2) ((Qaa x10 x12).f0.f3)).bind fun t121 => (Qan.j1 k x0 x10 x11 x12 (decide (t121 ≥ 0)) ((Qaa x10 x12).f0.f0) ((Qaa x10 x12).f0.f1) ((Qaa x10 x12).f0.f2) ((Qaa x10 x12).f0.f3) ((Qaa x10 x12).f1) ((Qaa x10 x12).f2))) else (none)) else (none)) else (Qan.j1 k x0 x10 x11 x12 V ((Qaa x10 x12).f0.f0) ((Qaa x10 x12).f0.f1) ((Qaa x10 x12).f0.f2) ((Qaa x10 x12).f0.f3) ((Qaa x10 x12).f1) ((Qaa x10 x12).f2))) else (none)) else (none)) else (some 0)
def Qan.j1 : Nat → List (S128) → List (S128) → Int → Int → Bool → ByteArray → Int → Int → Int → List Int → Int → Option (Int)
 | 0, _, _, _, _, _, _, _, _, _, _, _ => none
 | k + 1, x0, x10, x11, x12, x30, x120000, x120001, x120002, x120003, x120004, x120005 => if x30 = J then (some 19) else (if (x120004.length : Int) < 1 then (Qan.j2 k x0 x10 x11 x12 J x120000 x120001 x120002 x120003 x120004 x120005) else (if (x120004.length : Int) > 32 then (Qan.j2 k x0 x10 x11 x12 J x120000 x120001 x120002 x120003 x120004 x120005) else (if 0 < (x0.length : Int) then (Qan.j2 k x0 x10 x11 x12 ((x120004.length : Int) != (((Qaa x0 0).f1).length : Int)) x120000 x120001 x120002 x120003 x120004 x120005) else (none))))
def Qan.j2 : Nat → List (S128) → List (S128) → Int → Int → Bool → ByteArray → Int → Int → Int → List Int → Int → Option (Int)
 | 0, _, _, _, _, _, _, _, _, _, _, _ => none
 | k + 1, x0, x10, x11, x12, x51, x120000, x120001, x120002, x120003, x120004, x120005 => if x51 = J then (some 27) else (Qan.l1 k x0 x10 x11 x12 x120004 (x120004.length : Int) 0 x120000 x120001 x120002 x120003 x120004 x120005)
def Qan.l1 : Nat → List (S128) → List (S128) → Int → Int → List Int → Int → Int → ByteArray → Int → Int → Int → List Int → Int → Option (Int)
 | 0, _, _, _, _, _, _, _, _, _, _, _, _, _ => none
 | k + 1, x0, x10, x11, x12, x53, x54, x55, x120000, x120001, x120002, x120003, x120004, x120005 => if x55 < x54 then (if 0 ≤ x55 then (if x55 < (x53.length : Int) then (if (rd x53 x55) < (-68719476736) then (some 3) else (if (rd x53 x55) > 68719476736 then (some 3) else (Qan.l1 k x0 x10 x11 x12 x53 x54 (wrap64 (x55 + 1)) x120000 x120001 x120002 x120003 x120004 x120005))) else (none)) else (none)) else (if x120005 < (-1000) then (some 2) else (if x120005 > 1000 then (some 2) else (Qan.l0 k x0 x10 x11 (wrap64 (x12 + 1)))))
end
def Qan.f (k : Nat) (l0 : List (S128)) : Option (Int) := if (l0.length : Int) > 128 then (some 8) else (Qan.l0 k l0 l0 (l0.length : Int) 0)
theorem Qan.mono_l : ∀ k, (∀ y0 y1 y2 y3, LeO (Qan.l0 k y0 y1 y2 y3) (Qan.l0 (k + 1) y0 y1 y2 y3)) ∧ (∀ y0 y1 y2 y3 y4 y5 y6 y7 y8 y9 y10, LeO (Qan.j1 k y0 y1 y2 y3 y4 y5 y6 y7 y8 y9 y10) (Qan.j1 (k + 1) y0 y1 y2 y3 y4 y5 y6 y7 y8 y9 y10)) ∧ (∀ y0 y1 y2 y3 y4 y5 y6 y7 y8 y9 y10, LeO (Qan.j2 k y0 y1 y2 y3 y4 y5 y6 y7 y8 y9 y10) (Qan.j2 (k + 1) y0 y1 y2 y3 y4 y5 y6 y7 y8 y9 y10)) ∧ (∀ y0 y1 y2 y3 y4 y5 y6 y7 y8 y9 y10 y11 y12, LeO (Qan.l1 k y0 y1 y2 y3 y4 y5 y6 y7 y8 y9 y10 y11 y12) (Qan.l1 (k + 1) y0 y1 y2 y3 y4 y5 y6 y7 y8 y9 y10 y11 y12))
 | 0 => ⟨fun _ _ _ _ r h => by simp [Qan.l0] at h, fun _ _ _ _ _ _ _ _ _ _ _ r h => by simp [Qan.j1] at h, fun _ _ _ _ _ _ _ _ _ _ _ r h => by simp [Qan.j2] at h, fun _ _ _ _ _ _ _ _ _ _ _ _ _ r h => by simp [Qan.l1] at h⟩
 | k + 1 => by
  obtain ⟨ih0, ih1, ih2, ih3⟩ := Qan.mono_l k
  refine ⟨?_, ?_, ?_, ?_⟩
  ·intro y0 y1 y2 y3
   unfold Qan.l0
   exact ZM4 ih0 ih1 ih2 ih3
  ·intro y0 y1 y2 y3 y4 y5 y6 y7 y8 y9 y10
   unfold Qan.j1
   exact ZM4 ih0 ih1 ih2 ih3
  ·intro y0 y1 y2 y3 y4 y5 y6 y7 y8 y9 y10
   unfold Qan.j2
   exact ZM4 ih0 ih1 ih2 ih3
  intro y0 y1 y2 y3 y4 y5 y6 y7 y8 y9 y10 y11 y12
  unfold Qan.l1
  exact ZM4 ih0 ih1 ih2 ih3
theorem Qan.mono : ∀ a0 k, LeO (Qan.f k a0) (Qan.f (k + 1) a0) := by
 intro a0 k
 obtain ⟨ih0, ih1, ih2, ih3⟩ := Qan.mono_l k
 unfold Qan.f
 exact ZM4 ih0 ih1 ih2 ih3
def Qan.T6 : Bool × List (List Nat × List Nat) := (J, [([], []), ([0], [0]), ([1], [1]), ([2], [2]), ([2], [2]), ([4, 2], [2, 4]), ([3, 5, 2], [2, 3, 5]), ([6, 2], [2, 6]), ([7, 2], [2, 7]), ([2], [2]), ([9, 2], [2, 9]), ([8, 10, 2, 2], [2, 8, 10]), ([11, 2], [2, 11]), ([2, 12], [2, 12])])
def Qan.B6 : List Nat := [0, 1, 3, 7, 7, 23, 63, 127, 255, 7, 519, 2047, 4095, 8191]
theorem Qan.tab6 : rtab .any (opsOf Try.f74 6) = Qan.T6 := by kernel_rfl
theorem Qan.bits6 : Qbg Qan.T6.2 Qan.B6 = J := by kernel_rfl
def Qan.T8 : Bool × List (List Nat × List Nat) := (J, [([], []), ([0], [0]), ([1], [1]), ([2], [2]), ([3], [3]), ([4], [4]), ([5, 4], [4, 5]), ([6, 4], [4, 6]), ([7, 4], [4, 7]), ([4, 8], [4, 8]), ([9, 4], [9]), ([10], [10]), ([11, 10], [10, 11]), ([12, 10], [10, 12]), ([10], [10]), ([14, 10], [10, 14]), ([15, 10], [10, 15]), ([16, 10], [10, 16]), ([17, 10], [10, 17]), ([13, 18, 10], [10, 13, 18]), ([10, 19], [10, 19])])
def Qan.B8 : List Nat := [0, 1, 3, 7, 15, 31, 63, 127, 255, 511, 1023, 2047, 4095, 8191, 2047, 18431, 51199, 116735, 247807, 524287, 1048575]
theorem Qan.tab8 : rtab .any (opsOf Try.f74 8) = Qan.T8 := by kernel_rfl
theorem Qan.bits8 : Qbg Qan.T8.2 Qan.B8 = J := by kernel_rfl
set_option maxHeartbeats 8000000 in
theorem Qan.calls (k : Nat) (A0 : Option Addr) (c0 : Nat) (l0 : List (S128)) (r : Int) (w : World) (hr0 : Kd.C k128 w A0 l0.length l0) (hc0 : l0.length ≤ c0) (h : Qan.f k l0 = some r) :
  Calls Try.prog 74 #[.slice A0 l0.length c0] w fun e w' => e = .returned (.int .i64 r) ∧ Below w.heap.size w w' := by
 have hu128 := Try.underlying128
 have hu69 := Try.underlying69
 have HR0 := Aside0.mk hr0
 have HC0 := Aside0.mk hc0
 clear hr0 hc0
 have HB := Aside0.mk (Below.refl w.heap.size w)
 have H : (if (l0.length : Int) > 128 then (some 8) else (Qan.l0 k l0 l0 (l0.length : Int) 0)) = some r := h
 clear h
 by_cases c2 : (l0.length : Int) > 128
 ·rw [if_pos c2] at H
  have c2b0 : decide (128 < (l0.length : Int)) = J := decide_eq_true c2
  have c2b1 : decide (128 < l0.length) = J := decide_eq_true (by omega)
  clear c2
  obtain rfl := Option.some.inj H
  go_enter Try.func74, Try.ntmps74
  go_wp2
  go_ret
  exact ⟨Zq, Zb⟩
 rw [if_neg c2] at H
 have c2b0 : decide (128 < (l0.length : Int)) = V := decide_eq_false c2
 have c2b1 : decide (128 < l0.length) = V := decide_eq_false (by omega)
 clear c2
 have H' := Aside0.mk H
 clear H
 go_enter Try.func74, Try.ntmps74
 go_wp2
 go_loopg [12] k (fun kq v12 w' => ∃ (x12_1 : Int), v12 = .int .i64 x12_1 ∧ Aside0 (Qan.l0 kq l0 l0 (l0.length : Int) x12_1 = some r) ∧ Aside0 (kq ≤ k) ∧ Aside0 (Below w.heap.size w w'))
 case atStart => exact ⟨(0), (Zs), H', ⟨Nat.le_refl _⟩, ⟨Zb⟩⟩
 case round =>
  clear H'
  try clear c2
  try clear c2b0
  try clear c2b1
  try clear p2
  obtain ⟨x12_1, rfl, HA, HK1, HB⟩ := hrel
  cases gk with
  | zero => exact absurd HA.out (by simp [Qan.l0])
  | succ k1 =>
   have H := HA.out
   clear HA
   simp only [Qan.l0] at H
   by_cases c3 : x12_1 < (l0.length : Int)
   ·rw [if_pos c3] at H
    have c3b0 : decide (x12_1 < (l0.length : Int)) = J := decide_eq_true c3
    clear c3
    (try simp only [c3b0])
    by_cases c4 : 0 ≤ x12_1
    ·rw [if_pos c4] at H
     have c4b0 : decide (0 ≤ x12_1) = J := decide_eq_true c4
     clear c4
     by_cases c5 : x12_1 < (l0.length : Int)
     ·rw [if_pos c5] at H
      have c5b0 : decide (x12_1 < (l0.length : Int)) = J := decide_eq_true c5
      clear c5
      have HC6 := Aside0.mk H
      clear H
      have p118 : 0 ≤ (x12_1 : Int) := Ze
      have q118 : x12_1 < (l0.length : Int) := Ze
      obtain ⟨ad118, A118_4, c118_4, e118, hx118_0, hx118_1, hx118_2, hx118_3, hx118_4, hx118_5, hl118_4, hi118_4⟩ := Qbm HR0.out x12_1 p118 q118
      cases e118
      replace hx118_0 := Zx HB.out hx118_0
      replace hx118_1 := Zx HB.out hx118_1
      replace hx118_2 := Zx HB.out hx118_2
      replace hx118_3 := Zx HB.out hx118_3
      replace hx118_4 := Zx HB.out hx118_4
      replace hx118_5 := Zx HB.out hx118_5
      have HR118_4 := Aside0.mk hi118_4
      have HC118_4 := Aside0.mk hl118_4
      clear hi118_4 hl118_4
      replace p118 := eq_true p118
      replace q118 := eq_true q118
      go_upto_region 6 with (first | ((with_reducible refine QaX (N := 4) rfl ?_); (try (refine Qbu (by rfl) ?_; dsimp only)); refine Zbx (N := 4) (cs := #[.string (⟨#[]⟩ : ByteArray), .int .i64 0, .int .i64 0, .int .i64 0, .slice none 0 0, .int .i64 0]) (t := 128) ?_; intro gb119 hg w7 hbox hb; have BK119 := Aside0.mk (hbox); have GW119 := Aside0.mk (Zt w hg (Zb)); have GE119 := GW119; replace HB := Aside0.mk (Qav (Zb) hb); clear hb hbox hg; obtain ⟨hcz8_0, hfz8_0⟩ := Zy (v := (.string (⟨#[]⟩ : ByteArray))) BK119.out 0; obtain ⟨hcz8_1, hfz8_1⟩ := Zy (v := (.int .i64 0)) BK119.out 1; obtain ⟨hcz8_2, hfz8_2⟩ := Zy (v := (.int .i64 0)) BK119.out 2; obtain ⟨hcz8_3, hfz8_3⟩ := Zy (v := (.int .i64 0)) BK119.out 3; obtain ⟨hcz8_4, hfz8_4⟩ := Zy (v := (.slice none 0 0)) BK119.out 4; obtain ⟨hcz8_5, hfz8_5⟩ := Zy (v := (.int .i64 0)) BK119.out 5))
      (try simp only [Act.put, Zj, Zk, Zm])
      go_cut [30] (fun v30 wc => ∃ (kq : Nat) (x30_5 : Bool), v30 = .bool x30_5 ∧ Aside0 (Qan.j1 kq l0 l0 (l0.length : Int) x12_1 x30_5 ((Qaa l0 x12_1).f0.f0) ((Qaa l0 x12_1).f0.f1) ((Qaa l0 x12_1).f0.f2) ((Qaa l0 x12_1).f0.f3) ((Qaa l0 x12_1).f1) ((Qaa l0 x12_1).f2) = some r) ∧ Aside0 (kq ≤ k1) ∧ Aside0 (wc.heap[gb119]? = some (.cells #[.string ((Qaa l0 x12_1).f0.f0), .int .i64 ((Qaa l0 x12_1).f0.f1), .int .i64 ((Qaa l0 x12_1).f0.f2), .int .i64 ((Qaa l0 x12_1).f0.f3), (.slice A118_4 ((Qaa l0 x12_1).f1).length c118_4), .int .i64 ((Qaa l0 x12_1).f2)] 128 (0, 0))) ∧ Aside0 (Below w.heap.size w wc))
      case first =>
       have H := HC6.out
       clear HC6
       by_cases c9 : x12_1 > 0
       ·rw [if_pos c9] at H
        have c9b0 : decide (0 < x12_1) = J := decide_eq_true c9
        clear c9
        (first | rw [c9b0] | (simp only [i64_w, i32_w]; rw [c9b0]) | skip)
        obtain ⟨ji10, hji10⟩ : ∃ j_ : Int, (wrap64 (x12_1 - 1)) = j_ := ⟨_, rfl⟩
        replace H : (if 0 ≤ (ji10) then (if (ji10) < (l0.length : Int) then ((QaM.f ((Qaa l0 (ji10)).f0.f0) ((Qaa l0 (ji10)).f0.f1) ((Qaa l0 (ji10)).f0.f2) ((Qaa l0 (ji10)).f0.f3) ((Qaa l0 x12_1).f0.f0) ((Qaa l0 x12_1).f0.f1) ((Qaa l0 x12_1).f0.f2) ((Qaa l0 x12_1).f0.f3)).bind fun t121 => (Qan.j1 k1 l0 l0 (l0.length : Int) x12_1 (decide (t121 ≥ 0)) ((Qaa l0 x12_1).f0.f0) ((Qaa l0 x12_1).f0.f1) ((Qaa l0 x12_1).f0.f2) ((Qaa l0 x12_1).f0.f3) ((Qaa l0 x12_1).f1) ((Qaa l0 x12_1).f2))) else (none)) else (none)) = some r := by first | (rw [hji10] at H; exact H) | (simp only [hji10] at H ⊢; exact H)
        have hji10w : (IntKind.i64.wrap (x12_1 - 1)) = ji10 := (i64_w _).trans hji10
        by_cases c11 : 0 ≤ (ji10)
        ·rw [if_pos c11] at H
         have c11b0 : decide (0 ≤ (ji10)) = J := decide_eq_true c11
         clear c11
         by_cases c12 : (ji10) < (l0.length : Int)
         ·rw [if_pos c12] at H
          have c12b0 : decide ((ji10) < (l0.length : Int)) = J := decide_eq_true c12
          clear c12
          replace H := Option.bind_eq_some_iff.mp H
          obtain ⟨t121, A130, H⟩ := H
          replace H : (Qan.j1 k1 l0 l0 (l0.length : Int) x12_1 (decide (t121 ≥ 0)) ((Qaa l0 x12_1).f0.f0) ((Qaa l0 x12_1).f0.f1) ((Qaa l0 x12_1).f0.f2) ((Qaa l0 x12_1).f0.f3) ((Qaa l0 x12_1).f1) ((Qaa l0 x12_1).f2)) = some r := H
          have A13 := Aside0.mk A130
          clear A130
          have H' := Aside0.mk H
          clear H
          try go_wp2
          have n0_ : Aside0 (((((((w7.setCell ⟨gb119, 0, none⟩ (.string ((Qaa l0 x12_1).f0.f0))).setCell ⟨gb119, 1, none⟩ (.int .i64 ((Qaa l0 x12_1).f0.f1))).setCell ⟨gb119, 2, none⟩ (.int .i64 ((Qaa l0 x12_1).f0.f2))).setCell ⟨gb119, 3, none⟩ (.int .i64 ((Qaa l0 x12_1).f0.f3))).setCell ⟨gb119, 4, none⟩ (.slice A118_4 ((Qaa l0 x12_1).f1).length c118_4)).setCell ⟨gb119, 5, none⟩ (.int .i64 ((Qaa l0 x12_1).f2))).heap[gb119]? = some (.cells #[.string ((Qaa l0 x12_1).f0.f0), .int .i64 ((Qaa l0 x12_1).f0.f1), .int .i64 ((Qaa l0 x12_1).f0.f2), .int .i64 ((Qaa l0 x12_1).f0.f3), .slice A118_4 ((Qaa l0 x12_1).f1).length c118_4, .int .i64 ((Qaa l0 x12_1).f2)] 128 (0, 0))) := ⟨Zp2 BK119.out⟩
          have n1_ : Aside0 (Below w.heap.size w ((((((w7.setCell ⟨gb119, 0, none⟩ (.string ((Qaa l0 x12_1).f0.f0))).setCell ⟨gb119, 1, none⟩ (.int .i64 ((Qaa l0 x12_1).f0.f1))).setCell ⟨gb119, 2, none⟩ (.int .i64 ((Qaa l0 x12_1).f0.f2))).setCell ⟨gb119, 3, none⟩ (.int .i64 ((Qaa l0 x12_1).f0.f3))).setCell ⟨gb119, 4, none⟩ (.slice A118_4 ((Qaa l0 x12_1).f1).length c118_4)).setCell ⟨gb119, 5, none⟩ (.int .i64 ((Qaa l0 x12_1).f2)))) := ⟨Zc1 GE119.out⟩
          (try clear BK119)
          (try clear HB)
          generalize ((((((w7.setCell ⟨gb119, 0, none⟩ (.string ((Qaa l0 x12_1).f0.f0))).setCell ⟨gb119, 1, none⟩ (.int .i64 ((Qaa l0 x12_1).f0.f1))).setCell ⟨gb119, 2, none⟩ (.int .i64 ((Qaa l0 x12_1).f0.f2))).setCell ⟨gb119, 3, none⟩ (.int .i64 ((Qaa l0 x12_1).f0.f3))).setCell ⟨gb119, 4, none⟩ (.slice A118_4 ((Qaa l0 x12_1).f1).length c118_4)).setCell ⟨gb119, 5, none⟩ (.int .i64 ((Qaa l0 x12_1).f2))) = w14 at n0_ n1_ ⊢
          have BK119 := n0_
          have HB := n1_
          clear n0_ n1_
          replace BK119 := Aside0.mk (Qah BK119.out)
          replace HB := Aside0.mk (Qad HB.out)
          have p120 : 0 ≤ ((ji10) : Int) := Ze
          have q120 : (ji10) < (l0.length : Int) := Ze
          obtain ⟨ad120, A120_4, c120_4, e120, hx120_0, hx120_1, hx120_2, hx120_3, hx120_4, hx120_5, hl120_4, hi120_4⟩ := Qbm HR0.out (ji10) p120 q120
          have hw120_5 := hx120_5
          have hw120_4 := hx120_4
          have hw120_3 := hx120_3
          have hw120_2 := hx120_2
          have hw120_1 := hx120_1
          have hw120_0 := hx120_0
          obtain rfl : ad118 = ad120 := (by injection e120)
          replace hx120_0 := Zx HB.out hx120_0
          replace hx120_1 := Zx HB.out hx120_1
          replace hx120_2 := Zx HB.out hx120_2
          replace hx120_3 := Zx HB.out hx120_3
          replace hx120_4 := Zx HB.out hx120_4
          replace hx120_5 := Zx HB.out hx120_5
          have HR120_4 := Aside0.mk hi120_4
          have HC120_4 := Aside0.mk hl120_4
          clear hi120_4 hl120_4
          replace p120 := eq_true p120
          replace q120 := eq_true q120
          refine start_ (n := 14) (S := fun w' => w'.cell? ⟨gb119, 0, none⟩ = some (.string ((Qaa l0 x12_1).f0.f0)) ∧ w'.cell? ⟨gb119, 1, none⟩ = some (.int .i64 ((Qaa l0 x12_1).f0.f1)) ∧ w'.cell? ⟨gb119, 2, none⟩ = some (.int .i64 ((Qaa l0 x12_1).f0.f2)) ∧ w'.cell? ⟨gb119, 3, none⟩ = some (.int .i64 ((Qaa l0 x12_1).f0.f3)) ∧ w'.cell? ⟨gb119, 4, none⟩ = some (.slice A118_4 ((Qaa l0 x12_1).f1).length c118_4) ∧ w'.cell? ⟨gb119, 5, none⟩ = some (.int .i64 ((Qaa l0 x12_1).f2)) ∧ w'.cell? (ad118.add (((ji10)).toNat * 6)) = some (.string ((Qaa l0 (ji10)).f0.f0)) ∧ w'.cell? ⟨(ad118.add (((ji10)).toNat * 6)).block, (ad118.add (((ji10)).toNat * 6)).off + 1, none⟩ = some (.int .i64 ((Qaa l0 (ji10)).f0.f1)) ∧ w'.cell? ⟨(ad118.add (((ji10)).toNat * 6)).block, (ad118.add (((ji10)).toNat * 6)).off + 2, none⟩ = some (.int .i64 ((Qaa l0 (ji10)).f0.f2)) ∧ w'.cell? ⟨(ad118.add (((ji10)).toNat * 6)).block, (ad118.add (((ji10)).toNat * 6)).off + 3, none⟩ = some (.int .i64 ((Qaa l0 (ji10)).f0.f3)) ∧ w'.cell? ⟨(ad118.add (((ji10)).toNat * 6)).block, (ad118.add (((ji10)).toNat * 6)).off + 4, none⟩ = some (.slice A120_4 ((Qaa l0 (ji10)).f1).length c120_4) ∧ w'.cell? ⟨(ad118.add (((ji10)).toNat * 6)).block, (ad118.add (((ji10)).toNat * 6)).off + 5, none⟩ = some (.int .i64 ((Qaa l0 (ji10)).f2))) (ds := []) #[V, V, V, V, V, V, V, V, V, V, V, V, V, V] (by kernel_rfl) rfl rfl ⟨(Qae BK119.out 0).trans rfl, (Qae BK119.out 1).trans rfl, (Qae BK119.out 2).trans rfl, (Qae BK119.out 3).trans rfl, (Qae BK119.out 4).trans rfl, (Qae BK119.out 5).trans rfl, ((HB.out.cell (World.block_lt_of_cell? w _ hw120_0)).trans hw120_0), ((HB.out.cell (World.block_lt_of_cell? w _ hw120_1)).trans hw120_1), ((HB.out.cell (World.block_lt_of_cell? w _ hw120_2)).trans hw120_2), ((HB.out.cell (World.block_lt_of_cell? w _ hw120_3)).trans hw120_3), ((HB.out.cell (World.block_lt_of_cell? w _ hw120_4)).trans hw120_4), ((HB.out.cell (World.block_lt_of_cell? w _ hw120_5)).trans hw120_5)⟩ (fun hHeld => ?_); refine Qa3 Qan.tab6 Qan.bits6 (fun HT_ HW_ => ?_)
          generalize w14.drew = w15 at BK119 HB HR120_4 hx120_0 hx120_1 hx120_2 hx120_3 hx120_4 hx120_5 hHeld ⊢
          refine Zsp (i := 0) (N := some 17) (pm 14 1) HT_ ?_
          refine Zsp (i := 1) (N := some 18) (pm 14 2) HT_ ?_
          refine Zsp (i := 2) (N := some 19) (pm 14 3) HT_ ?_
          refine Zsp (i := 3) (N := some 20) (pm 14 4) HT_ ?_
          refine Zsp (i := 4) (N := some 21) (pm 14 5) HT_ ?_
          refine Zsp (i := 5) (N := some 22) (pm 14 6) HT_ ?_
          refine Zsp (i := 6) (N := some 23) (pm 14 7) HT_ ?_
          refine Zsp (i := 7) (N := some 24) (pm 14 8) HT_ ?_
          refine Zsp (i := 9) (N := some 26) #[J, J, J, J, J, J, J, J, V, J, V, V, V, V] HT_ ?_
          refine Zst (i := 8) (N := some 25) (pm 14 10) HT_ HW_ hHeld ?_ (hy := by (refine Or.inl ⟨by rfl, ?_⟩; rintro w' ⟨s0, s1, s2, s3, s4, s5, s6, s7, s8, s9, s10, s11⟩; go_simp; with_reducible rfl))
          refine Zst (i := 10) (N := some 27) (pm 14 11) HT_ HW_ hHeld ?_ (hy := by (refine Or.inl ⟨by rfl, ?_⟩; rintro w' ⟨s0, s1, s2, s3, s4, s5, s6, s7, s8, s9, s10, s11⟩; go_simp; with_reducible rfl))
          refine one_ (i := 11) (N := some 28) #[J, J, J, J, J, J, J, J, J, J, J, J, V, V] rfl rfl (one_of HT_.out (by kernel_rfl)) (by decide) (fun K hK => ?_)
          refine goes_ Try.func49 (by kernel_rfl) rfl #[.agg #[.string ((Qaa l0 (ji10)).f0.f0), .int .i64 ((Qaa l0 (ji10)).f0.f1), .int .i64 ((Qaa l0 (ji10)).f0.f2), .int .i64 ((Qaa l0 (ji10)).f0.f3)], .agg #[.string ((Qaa l0 x12_1).f0.f0), .int .i64 ((Qaa l0 x12_1).f0.f1), .int .i64 ((Qaa l0 x12_1).f0.f2), .int .i64 ((Qaa l0 x12_1).f0.f3)]] (by rfl) rfl rfl (by (try simp only [List.map_toArray, List.map_cons, List.map_nil]); first | done | (simp only [hji10]; rfl) | rfl | (simp only [List.length_drop, List.length_take]; rfl)) ?_
          with_reducible refine (QaM.calls ((Qaa l0 (ji10)).f0.f0) ((Qaa l0 (ji10)).f0.f1) ((Qaa l0 (ji10)).f0.f2) ((Qaa l0 (ji10)).f0.f3) ((Qaa l0 x12_1).f0.f0) ((Qaa l0 x12_1).f0.f1) ((Qaa l0 x12_1).f0.f2) ((Qaa l0 x12_1).f0.f3) t121 _ A13.out).mono ?_
          rintro e w16 ⟨rfl, hb⟩
          refine ⟨_, rfl, ?_⟩
          replace BK119 := Aside0.mk (Zi BK119.out hb)
          replace HB := Aside0.mk (Qav (Zc1 GE119.out) hb)
          (try clear hb)
          (try clear hb2)
          (try clear hk)
          (try clear hi)
          refine hK.out _ _ ⟨(Qae BK119.out 0).trans rfl, (Qae BK119.out 1).trans rfl, (Qae BK119.out 2).trans rfl, (Qae BK119.out 3).trans rfl, (Qae BK119.out 4).trans rfl, (Qae BK119.out 5).trans rfl, ((HB.out.cell (World.block_lt_of_cell? w _ hw120_0)).trans hw120_0), ((HB.out.cell (World.block_lt_of_cell? w _ hw120_1)).trans hw120_1), ((HB.out.cell (World.block_lt_of_cell? w _ hw120_2)).trans hw120_2), ((HB.out.cell (World.block_lt_of_cell? w _ hw120_3)).trans hw120_3), ((HB.out.cell (World.block_lt_of_cell? w _ hw120_4)).trans hw120_4), ((HB.out.cell (World.block_lt_of_cell? w _ hw120_5)).trans hw120_5)⟩ (fun hHeld => ?_)
          clear hK K
          refine norm_ (a' := ?_) ?_ ?_
          rotate_left
          ·show Act.put _ (some 28) _ = _
           simp only [Act.put, Zj, Zk, Zm, i64_w, i32_w]
           rfl
          refine Zsp (i := 12) (N := some 29) (pm 14 13) HT_ ?_
          refine Zsp (i := 13) (N := some 30) (pm 14 14) HT_ ?_
          refine done_ (Qbc HT_.out (by kernel_rfl)) ?_
          try go_wp2
          go_meet
          case rel => exact ⟨_, (decide (t121 ≥ 0)), (Zs), H', ⟨by have := HK1.out; first | omega | exact Nat.le_refl _⟩, ⟨Zu BK119.out⟩, ⟨Zc1 GE119.out⟩⟩
         rw [if_neg c12] at H
         exact absurd H (by simp)
        rw [if_neg c11] at H
        exact absurd H (by simp)
       rw [if_neg c9] at H
       have c9b0 : decide (0 < x12_1) = V := decide_eq_false c9
       clear c9
       (first | rw [c9b0] | (simp only [i64_w, i32_w]; rw [c9b0]) | skip)
       have H' := Aside0.mk H
       clear H
       try go_wp2
       have n0_ : Aside0 (((((((w7.setCell ⟨gb119, 0, none⟩ (.string ((Qaa l0 x12_1).f0.f0))).setCell ⟨gb119, 1, none⟩ (.int .i64 ((Qaa l0 x12_1).f0.f1))).setCell ⟨gb119, 2, none⟩ (.int .i64 ((Qaa l0 x12_1).f0.f2))).setCell ⟨gb119, 3, none⟩ (.int .i64 ((Qaa l0 x12_1).f0.f3))).setCell ⟨gb119, 4, none⟩ (.slice A118_4 ((Qaa l0 x12_1).f1).length c118_4)).setCell ⟨gb119, 5, none⟩ (.int .i64 ((Qaa l0 x12_1).f2))).heap[gb119]? = some (.cells #[.string ((Qaa l0 x12_1).f0.f0), .int .i64 ((Qaa l0 x12_1).f0.f1), .int .i64 ((Qaa l0 x12_1).f0.f2), .int .i64 ((Qaa l0 x12_1).f0.f3), .slice A118_4 ((Qaa l0 x12_1).f1).length c118_4, .int .i64 ((Qaa l0 x12_1).f2)] 128 (0, 0))) := ⟨Zp2 BK119.out⟩
       have n1_ : Aside0 (Below w.heap.size w ((((((w7.setCell ⟨gb119, 0, none⟩ (.string ((Qaa l0 x12_1).f0.f0))).setCell ⟨gb119, 1, none⟩ (.int .i64 ((Qaa l0 x12_1).f0.f1))).setCell ⟨gb119, 2, none⟩ (.int .i64 ((Qaa l0 x12_1).f0.f2))).setCell ⟨gb119, 3, none⟩ (.int .i64 ((Qaa l0 x12_1).f0.f3))).setCell ⟨gb119, 4, none⟩ (.slice A118_4 ((Qaa l0 x12_1).f1).length c118_4)).setCell ⟨gb119, 5, none⟩ (.int .i64 ((Qaa l0 x12_1).f2)))) := ⟨Zc1 GE119.out⟩
       (try clear BK119)
       (try clear HB)
       generalize ((((((w7.setCell ⟨gb119, 0, none⟩ (.string ((Qaa l0 x12_1).f0.f0))).setCell ⟨gb119, 1, none⟩ (.int .i64 ((Qaa l0 x12_1).f0.f1))).setCell ⟨gb119, 2, none⟩ (.int .i64 ((Qaa l0 x12_1).f0.f2))).setCell ⟨gb119, 3, none⟩ (.int .i64 ((Qaa l0 x12_1).f0.f3))).setCell ⟨gb119, 4, none⟩ (.slice A118_4 ((Qaa l0 x12_1).f1).length c118_4)).setCell ⟨gb119, 5, none⟩ (.int .i64 ((Qaa l0 x12_1).f2))) = w17 at n0_ n1_ ⊢
       have BK119 := n0_
       have HB := n1_
       clear n0_ n1_
       replace BK119 := Aside0.mk (Qah BK119.out)
       replace HB := Aside0.mk (Qad HB.out)
       refine start_ (n := 14) (S := fun w' => True) (ds := []) #[V, V, V, V, V, V, V, V, V, V, V, V, V, V] (by kernel_rfl) rfl rfl trivial (fun hHeld => ?_); refine Qa3 Qan.tab6 Qan.bits6 (fun HT_ HW_ => ?_)
       generalize w17.drew = w18 at BK119 HB hHeld ⊢
       refine Zsp (i := 0) (N := some 17) (pm 14 1) HT_ ?_
       refine Zsp (i := 1) (N := some 18) (pm 14 2) HT_ ?_
       refine Zsp (i := 2) (N := some 19) (pm 14 3) HT_ ?_
       refine Zso (i := 3) (N := some 20) (pm 14 4) HT_ ?_
       refine Zso (i := 4) (N := some 21) (pm 14 5) HT_ ?_
       refine Zso (i := 5) (N := some 22) (pm 14 6) HT_ ?_
       refine Zso (i := 6) (N := some 23) (pm 14 7) HT_ ?_
       refine Zso (i := 7) (N := some 24) (pm 14 8) HT_ ?_
       refine Zso (i := 8) (N := some 25) (pm 14 9) HT_ ?_
       refine Zso (i := 9) (N := some 26) (pm 14 10) HT_ ?_
       refine Zso (i := 10) (N := some 27) (pm 14 11) HT_ ?_
       refine Zso (i := 11) (N := some 28) (pm 14 12) HT_ ?_
       refine Zso (i := 12) (N := some 29) (pm 14 13) HT_ ?_
       refine Zsp (i := 13) (N := some 30) (pm 14 14) HT_ ?_
       refine done_ (Qbc HT_.out (by kernel_rfl)) ?_
       try go_wp2
       go_meet
       case rel => exact ⟨_, (V), (Zs), H', ⟨by have := HK1.out; first | omega | exact Nat.le_refl _⟩, ⟨Zu BK119.out⟩, ⟨Zc1 GE119.out⟩⟩
      case rest =>
       clear HC6
       try clear c1
       try clear p1
       try clear q1
       try clear hx1
       try clear c2
       try clear c2b0
       try clear c2b1
       try clear p2
       try clear c3
       try clear c3b0
       try clear c4
       try clear c4b0
       try clear c5
       try clear c5b0
       try clear p6
       try clear c7
       try clear c9
       try clear c9b0
       try clear c11
       try clear c11b0
       try clear p11
       try clear q11
       try clear hx11
       try clear c12
       try clear c12b0
       try clear p12
       try clear q12
       try clear hx12
       try clear hcz8_0
       try clear hcz8_1
       try clear hcz8_2
       try clear hcz8_3
       try clear hcz8_4
       try clear hcz8_5
       try clear hfz8_0
       try clear hfz8_1
       try clear hfz8_2
       try clear hfz8_3
       try clear hfz8_4
       try clear hfz8_5
       try clear hx118_0
       try clear hx118_1
       try clear hx118_2
       try clear hx118_3
       try clear hx118_4
       try clear hx118_5
       try clear hx120_0
       try clear hx120_1
       try clear hx120_2
       try clear hx120_3
       try clear hx120_4
       try clear hx120_5
       try clear p118
       try clear p120
       try clear p2
       try clear q118
       try clear q120
       obtain ⟨kq, x30_5, rfl, HA, HJ5, BK119, HB⟩ := hcut
       cases kq with
       | zero => exact absurd HA.out (by simp [Qan.j1])
       | succ kj5 =>
        have H := HA.out
        clear HA
        simp only [Qan.j1] at H
        by_cases c19 : x30_5 = J
        ·subst c19
         have H1 : (some 19) = some r := by rw [if_pos rfl] at H; exact H
         clear H
         have H := H1
         clear H1
         obtain rfl := Option.some.inj H
         go_wp2
         go_ret
         exact ⟨Zq, Zc1 GE119.out⟩
        replace c19 := Bool.eq_false_iff.mpr c19
        subst c19
        have H1 : (if (((Qaa l0 x12_1).f1).length : Int) < 1 then (Qan.j2 kj5 l0 l0 (l0.length : Int) x12_1 J ((Qaa l0 x12_1).f0.f0) ((Qaa l0 x12_1).f0.f1) ((Qaa l0 x12_1).f0.f2) ((Qaa l0 x12_1).f0.f3) ((Qaa l0 x12_1).f1) ((Qaa l0 x12_1).f2)) else (if (((Qaa l0 x12_1).f1).length : Int) > 32 then (Qan.j2 kj5 l0 l0 (l0.length : Int) x12_1 J ((Qaa l0 x12_1).f0.f0) ((Qaa l0 x12_1).f0.f1) ((Qaa l0 x12_1).f0.f2) ((Qaa l0 x12_1).f0.f3) ((Qaa l0 x12_1).f1) ((Qaa l0 x12_1).f2)) else (if 0 < (l0.length : Int) then (Qan.j2 kj5 l0 l0 (l0.length : Int) x12_1 ((((Qaa l0 x12_1).f1).length : Int) != (((Qaa l0 0).f1).length : Int)) ((Qaa l0 x12_1).f0.f0) ((Qaa l0 x12_1).f0.f1) ((Qaa l0 x12_1).f0.f2) ((Qaa l0 x12_1).f0.f3) ((Qaa l0 x12_1).f1) ((Qaa l0 x12_1).f2)) else (none)))) = some r := by rw [if_neg (show ¬ (V = J) by decide)] at H; exact H
        clear H
        have H := H1
        clear H1
        have HC20 := Aside0.mk H
        clear H
        go_upto_region 8 with (fail)
        go_cut [51] (fun v51 wc => ∃ (kq : Nat) (x51_19 : Bool), v51 = .bool x51_19 ∧ Aside0 (Qan.j2 kq l0 l0 (l0.length : Int) x12_1 x51_19 ((Qaa l0 x12_1).f0.f0) ((Qaa l0 x12_1).f0.f1) ((Qaa l0 x12_1).f0.f2) ((Qaa l0 x12_1).f0.f3) ((Qaa l0 x12_1).f1) ((Qaa l0 x12_1).f2) = some r) ∧ Aside0 (kq ≤ kj5) ∧ Aside0 (wc.heap[gb119]? = some (.cells #[.string ((Qaa l0 x12_1).f0.f0), .int .i64 ((Qaa l0 x12_1).f0.f1), .int .i64 ((Qaa l0 x12_1).f0.f2), .int .i64 ((Qaa l0 x12_1).f0.f3), (.slice A118_4 ((Qaa l0 x12_1).f1).length c118_4), .int .i64 ((Qaa l0 x12_1).f2)] 128 (0, 0))) ∧ Aside0 (Below w.heap.size w wc))
        case first =>
         have H := HC20.out
         clear HC20
         by_cases c21 : (((Qaa l0 x12_1).f1).length : Int) < 1
         ·rw [if_pos c21] at H
          have c21b0 : decide ((((Qaa l0 x12_1).f1).length : Int) < 1) = J := decide_eq_true c21
          have c21b1 : decide (((Qaa l0 x12_1).f1).length < 1) = J := decide_eq_true (by omega)
          clear c21
          (first | rw [c21b0] | (simp only [i64_w, i32_w]; rw [c21b0]) | skip)
          have H' := Aside0.mk H
          clear H
          try go_wp2
          replace BK119 := Aside0.mk (Qah BK119.out)
          replace HB := Aside0.mk (Qad HB.out)
          refine start_ (n := 21) (S := fun w' => w'.cell? ⟨gb119, 0, none⟩ = some (.string ((Qaa l0 x12_1).f0.f0)) ∧ w'.cell? ⟨gb119, 1, none⟩ = some (.int .i64 ((Qaa l0 x12_1).f0.f1)) ∧ w'.cell? ⟨gb119, 2, none⟩ = some (.int .i64 ((Qaa l0 x12_1).f0.f2)) ∧ w'.cell? ⟨gb119, 3, none⟩ = some (.int .i64 ((Qaa l0 x12_1).f0.f3)) ∧ w'.cell? ⟨gb119, 4, none⟩ = some (.slice A118_4 ((Qaa l0 x12_1).f1).length c118_4) ∧ w'.cell? ⟨gb119, 5, none⟩ = some (.int .i64 ((Qaa l0 x12_1).f2))) (ds := []) #[V, V, V, V, V, V, V, V, V, V, V, V, V, V, V, V, V, V, V, V, V] (by kernel_rfl) rfl rfl ⟨(Qae BK119.out 0).trans rfl, (Qae BK119.out 1).trans rfl, (Qae BK119.out 2).trans rfl, (Qae BK119.out 3).trans rfl, (Qae BK119.out 4).trans rfl, (Qae BK119.out 5).trans rfl⟩ (fun hHeld => ?_); refine Qa3 Qan.tab8 Qan.bits8 (fun HT_ HW_ => ?_)
          generalize wc.drew = w22 at BK119 HB hHeld ⊢
          refine Zsp (i := 0) (N := some 31) (pm 21 1) HT_ ?_
          refine Zst (i := 1) (N := some 32) (pm 21 2) HT_ HW_ hHeld ?_ (hy := by (refine Or.inl ⟨by rfl, ?_⟩; rintro w' ⟨s0, s1, s2, s3, s4, s5⟩; go_simp; with_reducible rfl))
          refine Zsp (i := 2) (N := some 33) (pm 21 3) HT_ ?_
          refine Zsp (i := 3) (N := some 34) (pm 21 4) HT_ ?_
          refine Zsp (i := 4) (N := some 35) (pm 21 5) HT_ ?_
          refine Zso (i := 5) (N := some 36) (pm 21 6) HT_ ?_
          refine Zso (i := 6) (N := some 37) (pm 21 7) HT_ ?_
          refine Zso (i := 7) (N := some 38) (pm 21 8) HT_ ?_
          refine Zso (i := 8) (N := some 39) (pm 21 9) HT_ ?_
          refine Zsp (i := 9) (N := some 40) (pm 21 10) HT_ ?_
          refine Zsp (i := 10) (N := some 41) (pm 21 11) HT_ ?_
          refine Zso (i := 11) (N := some 42) (pm 21 12) HT_ ?_
          refine Zso (i := 12) (N := some 43) (pm 21 13) HT_ ?_
          refine Zso (i := 13) (N := some 44) (pm 21 14) HT_ ?_
          refine Zso (i := 14) (N := some 45) (pm 21 15) HT_ ?_
          refine Zso (i := 15) (N := some 46) (pm 21 16) HT_ ?_
          refine Zso (i := 16) (N := some 47) (pm 21 17) HT_ ?_
          refine Zso (i := 17) (N := some 48) (pm 21 18) HT_ ?_
          refine Zso (i := 18) (N := some 49) (pm 21 19) HT_ ?_
          refine Zso (i := 19) (N := some 50) (pm 21 20) HT_ ?_
          refine Zsp (i := 20) (N := some 51) (pm 21 21) HT_ ?_
          refine done_ (Qbc HT_.out (by kernel_rfl)) ?_
          try go_wp2
          go_meet
          case rel => exact ⟨_, (J), (Zs), H', ⟨by have := HK1.out; have := HJ5.out; first | omega | exact Nat.le_refl _⟩, ⟨Zu BK119.out⟩, ⟨Zc1 GE119.out⟩⟩
         rw [if_neg c21] at H
         have c21b0 : decide ((((Qaa l0 x12_1).f1).length : Int) < 1) = V := decide_eq_false c21
         have c21b1 : decide (((Qaa l0 x12_1).f1).length < 1) = V := decide_eq_false (by omega)
         clear c21
         (first | rw [c21b0] | (simp only [i64_w, i32_w]; rw [c21b0]) | skip)
         by_cases c23 : (((Qaa l0 x12_1).f1).length : Int) > 32
         ·rw [if_pos c23] at H
          have c23b0 : decide (32 < (((Qaa l0 x12_1).f1).length : Int)) = J := decide_eq_true c23
          have c23b1 : decide (32 < ((Qaa l0 x12_1).f1).length) = J := decide_eq_true (by omega)
          clear c23
          have H' := Aside0.mk H
          clear H
          try go_wp2
          replace BK119 := Aside0.mk (Qah BK119.out)
          replace HB := Aside0.mk (Qad HB.out)
          refine start_ (n := 21) (S := fun w' => w'.cell? ⟨gb119, 0, none⟩ = some (.string ((Qaa l0 x12_1).f0.f0)) ∧ w'.cell? ⟨gb119, 1, none⟩ = some (.int .i64 ((Qaa l0 x12_1).f0.f1)) ∧ w'.cell? ⟨gb119, 2, none⟩ = some (.int .i64 ((Qaa l0 x12_1).f0.f2)) ∧ w'.cell? ⟨gb119, 3, none⟩ = some (.int .i64 ((Qaa l0 x12_1).f0.f3)) ∧ w'.cell? ⟨gb119, 4, none⟩ = some (.slice A118_4 ((Qaa l0 x12_1).f1).length c118_4) ∧ w'.cell? ⟨gb119, 5, none⟩ = some (.int .i64 ((Qaa l0 x12_1).f2))) (ds := []) #[V, V, V, V, V, V, V, V, V, V, V, V, V, V, V, V, V, V, V, V, V] (by kernel_rfl) rfl rfl ⟨(Qae BK119.out 0).trans rfl, (Qae BK119.out 1).trans rfl, (Qae BK119.out 2).trans rfl, (Qae BK119.out 3).trans rfl, (Qae BK119.out 4).trans rfl, (Qae BK119.out 5).trans rfl⟩ (fun hHeld => ?_); refine Qa3 Qan.tab8 Qan.bits8 (fun HT_ HW_ => ?_)
          generalize wc.drew = w24 at BK119 HB hHeld ⊢
          refine Zsp (i := 0) (N := some 31) (pm 21 1) HT_ ?_
          refine Zst (i := 1) (N := some 32) (pm 21 2) HT_ HW_ hHeld ?_ (hy := by (refine Or.inl ⟨by rfl, ?_⟩; rintro w' ⟨s0, s1, s2, s3, s4, s5⟩; go_simp; with_reducible rfl))
          refine Zsp (i := 2) (N := some 33) (pm 21 3) HT_ ?_
          refine Zsp (i := 3) (N := some 34) (pm 21 4) HT_ ?_
          refine Zsp (i := 4) (N := some 35) (pm 21 5) HT_ ?_
          refine Zsp (i := 5) (N := some 36) (pm 21 6) HT_ ?_
          refine Zst (i := 6) (N := some 37) (pm 21 7) HT_ HW_ hHeld ?_ (hy := by (refine Or.inl ⟨by rfl, ?_⟩; rintro w' ⟨s0, s1, s2, s3, s4, s5⟩; go_simp; with_reducible rfl))
          refine Zsp (i := 7) (N := some 38) (pm 21 8) HT_ ?_
          refine Zsp (i := 8) (N := some 39) (pm 21 9) HT_ ?_
          refine Zsp (i := 9) (N := some 40) (pm 21 10) HT_ ?_
          refine Zsp (i := 10) (N := some 41) (pm 21 11) HT_ ?_
          refine Zso (i := 11) (N := some 42) (pm 21 12) HT_ ?_
          refine Zso (i := 12) (N := some 43) (pm 21 13) HT_ ?_
          refine Zso (i := 13) (N := some 44) (pm 21 14) HT_ ?_
          refine Zso (i := 14) (N := some 45) (pm 21 15) HT_ ?_
          refine Zso (i := 15) (N := some 46) (pm 21 16) HT_ ?_
          refine Zso (i := 16) (N := some 47) (pm 21 17) HT_ ?_
          refine Zso (i := 17) (N := some 48) (pm 21 18) HT_ ?_
          refine Zso (i := 18) (N := some 49) (pm 21 19) HT_ ?_
          refine Zso (i := 19) (N := some 50) (pm 21 20) HT_ ?_
          refine Zsp (i := 20) (N := some 51) (pm 21 21) HT_ ?_
          refine done_ (Qbc HT_.out (by kernel_rfl)) ?_
          try go_wp2
          go_meet
          case rel => exact ⟨_, (J), (Zs), H', ⟨by have := HK1.out; have := HJ5.out; first | omega | exact Nat.le_refl _⟩, ⟨Zu BK119.out⟩, ⟨Zc1 GE119.out⟩⟩
         rw [if_neg c23] at H
         have c23b0 : decide (32 < (((Qaa l0 x12_1).f1).length : Int)) = V := decide_eq_false c23
         have c23b1 : decide (32 < ((Qaa l0 x12_1).f1).length) = V := decide_eq_false (by omega)
         clear c23
         by_cases c25 : 0 < (l0.length : Int)
         ·rw [if_pos c25] at H
          have c25b0 : decide (0 < (l0.length : Int)) = J := decide_eq_true c25
          have c25b1 : decide (0 < l0.length) = J := decide_eq_true (by omega)
          clear c25
          have H' := Aside0.mk H
          clear H
          try go_wp2
          replace BK119 := Aside0.mk (Qah BK119.out)
          replace HB := Aside0.mk (Qad HB.out)
          have p122 : 0 ≤ (0 : Int) := (by omega)
          have q122 : 0 < (l0.length : Int) := Ze
          obtain ⟨ad122, A122_4, c122_4, e122, hx122_0, hx122_1, hx122_2, hx122_3, hx122_4, hx122_5, hl122_4, hi122_4⟩ := Qbm HR0.out 0 p122 q122
          have hw122_5 := hx122_5
          (try rw [show ((0 : Int)).toNat = 0 from rfl] at hw122_5)
          (try rw [show 0 * 6 = 0 from rfl] at hw122_5)
          (try rw [Addr.add_zero'] at hw122_5)
          have hw122_4 := hx122_4
          (try rw [show ((0 : Int)).toNat = 0 from rfl] at hw122_4)
          (try rw [show 0 * 6 = 0 from rfl] at hw122_4)
          (try rw [Addr.add_zero'] at hw122_4)
          have hw122_3 := hx122_3
          (try rw [show ((0 : Int)).toNat = 0 from rfl] at hw122_3)
          (try rw [show 0 * 6 = 0 from rfl] at hw122_3)
          (try rw [Addr.add_zero'] at hw122_3)
          have hw122_2 := hx122_2
          (try rw [show ((0 : Int)).toNat = 0 from rfl] at hw122_2)
          (try rw [show 0 * 6 = 0 from rfl] at hw122_2)
          (try rw [Addr.add_zero'] at hw122_2)
          have hw122_1 := hx122_1
          (try rw [show ((0 : Int)).toNat = 0 from rfl] at hw122_1)
          (try rw [show 0 * 6 = 0 from rfl] at hw122_1)
          (try rw [Addr.add_zero'] at hw122_1)
          have hw122_0 := hx122_0
          (try rw [show ((0 : Int)).toNat = 0 from rfl] at hw122_0)
          (try rw [show 0 * 6 = 0 from rfl] at hw122_0)
          (try rw [Addr.add_zero'] at hw122_0)
          obtain rfl : ad118 = ad122 := (by injection e122)
          have qi122 : (0 < l0.length) = True := eq_true (by omega)
          (try rw [show ((0 : Int)).toNat = 0 from rfl] at hx122_0)
          (try rw [show 0 * 6 = 0 from rfl] at hx122_0)
          (try rw [Addr.add_zero'] at hx122_0)
          (try rw [show ((0 : Int)).toNat = 0 from rfl] at hx122_1)
          (try rw [show 0 * 6 = 0 from rfl] at hx122_1)
          (try rw [Addr.add_zero'] at hx122_1)
          (try rw [show ((0 : Int)).toNat = 0 from rfl] at hx122_2)
          (try rw [show 0 * 6 = 0 from rfl] at hx122_2)
          (try rw [Addr.add_zero'] at hx122_2)
          (try rw [show ((0 : Int)).toNat = 0 from rfl] at hx122_3)
          (try rw [show 0 * 6 = 0 from rfl] at hx122_3)
          (try rw [Addr.add_zero'] at hx122_3)
          (try rw [show ((0 : Int)).toNat = 0 from rfl] at hx122_4)
          (try rw [show 0 * 6 = 0 from rfl] at hx122_4)
          (try rw [Addr.add_zero'] at hx122_4)
          (try rw [show ((0 : Int)).toNat = 0 from rfl] at hx122_5)
          (try rw [show 0 * 6 = 0 from rfl] at hx122_5)
          (try rw [Addr.add_zero'] at hx122_5)
          replace hx122_0 := Zx HB.out hx122_0
          replace hx122_1 := Zx HB.out hx122_1
          replace hx122_2 := Zx HB.out hx122_2
          replace hx122_3 := Zx HB.out hx122_3
          replace hx122_4 := Zx HB.out hx122_4
          replace hx122_5 := Zx HB.out hx122_5
          have HR122_4 := Aside0.mk hi122_4
          have HC122_4 := Aside0.mk hl122_4
          clear hi122_4 hl122_4
          replace p122 := eq_true p122
          replace q122 := eq_true q122
          refine start_ (n := 21) (S := fun w' => w'.cell? ⟨gb119, 0, none⟩ = some (.string ((Qaa l0 x12_1).f0.f0)) ∧ w'.cell? ⟨gb119, 1, none⟩ = some (.int .i64 ((Qaa l0 x12_1).f0.f1)) ∧ w'.cell? ⟨gb119, 2, none⟩ = some (.int .i64 ((Qaa l0 x12_1).f0.f2)) ∧ w'.cell? ⟨gb119, 3, none⟩ = some (.int .i64 ((Qaa l0 x12_1).f0.f3)) ∧ w'.cell? ⟨gb119, 4, none⟩ = some (.slice A118_4 ((Qaa l0 x12_1).f1).length c118_4) ∧ w'.cell? ⟨gb119, 5, none⟩ = some (.int .i64 ((Qaa l0 x12_1).f2)) ∧ w'.cell? ad118 = some (.string ((Qaa l0 0).f0.f0)) ∧ w'.cell? ⟨ad118.block, ad118.off + 1, none⟩ = some (.int .i64 ((Qaa l0 0).f0.f1)) ∧ w'.cell? ⟨ad118.block, ad118.off + 2, none⟩ = some (.int .i64 ((Qaa l0 0).f0.f2)) ∧ w'.cell? ⟨ad118.block, ad118.off + 3, none⟩ = some (.int .i64 ((Qaa l0 0).f0.f3)) ∧ w'.cell? ⟨ad118.block, ad118.off + 4, none⟩ = some (.slice A122_4 ((Qaa l0 0).f1).length c122_4) ∧ w'.cell? ⟨ad118.block, ad118.off + 5, none⟩ = some (.int .i64 ((Qaa l0 0).f2))) (ds := []) #[V, V, V, V, V, V, V, V, V, V, V, V, V, V, V, V, V, V, V, V, V] (by kernel_rfl) rfl rfl ⟨(Qae BK119.out 0).trans rfl, (Qae BK119.out 1).trans rfl, (Qae BK119.out 2).trans rfl, (Qae BK119.out 3).trans rfl, (Qae BK119.out 4).trans rfl, (Qae BK119.out 5).trans rfl, ((HB.out.cell (World.block_lt_of_cell? w _ hw122_0)).trans hw122_0), ((HB.out.cell (World.block_lt_of_cell? w _ hw122_1)).trans hw122_1), ((HB.out.cell (World.block_lt_of_cell? w _ hw122_2)).trans hw122_2), ((HB.out.cell (World.block_lt_of_cell? w _ hw122_3)).trans hw122_3), ((HB.out.cell (World.block_lt_of_cell? w _ hw122_4)).trans hw122_4), ((HB.out.cell (World.block_lt_of_cell? w _ hw122_5)).trans hw122_5)⟩ (fun hHeld => ?_); refine Qa3 Qan.tab8 Qan.bits8 (fun HT_ HW_ => ?_)
          generalize wc.drew = w26 at BK119 HB HR122_4 hx122_0 hx122_1 hx122_2 hx122_3 hx122_4 hx122_5 hHeld ⊢
          refine Zsp (i := 0) (N := some 31) (pm 21 1) HT_ ?_
          refine Zst (i := 1) (N := some 32) (pm 21 2) HT_ HW_ hHeld ?_ (hy := by (refine Or.inl ⟨by rfl, ?_⟩; rintro w' ⟨s0, s1, s2, s3, s4, s5, s6, s7, s8, s9, s10, s11⟩; go_simp; with_reducible rfl))
          refine Zsp (i := 2) (N := some 33) (pm 21 3) HT_ ?_
          refine Zsp (i := 3) (N := some 34) (pm 21 4) HT_ ?_
          refine Zsp (i := 4) (N := some 35) (pm 21 5) HT_ ?_
          refine Zsp (i := 5) (N := some 36) (pm 21 6) HT_ ?_
          refine Zst (i := 6) (N := some 37) (pm 21 7) HT_ HW_ hHeld ?_ (hy := by (refine Or.inl ⟨by rfl, ?_⟩; rintro w' ⟨s0, s1, s2, s3, s4, s5, s6, s7, s8, s9, s10, s11⟩; go_simp; with_reducible rfl))
          refine Zsp (i := 7) (N := some 38) (pm 21 8) HT_ ?_
          refine Zsp (i := 8) (N := some 39) (pm 21 9) HT_ ?_
          refine Zsp (i := 9) (N := some 40) (pm 21 10) HT_ ?_
          refine Zsp (i := 10) (N := some 41) (pm 21 11) HT_ ?_
          refine Zsp (i := 11) (N := some 42) (pm 21 12) HT_ ?_
          refine Zsp (i := 14) (N := some 45) #[J, J, J, J, J, J, J, J, J, J, J, J, V, V, J, V, V, V, V, V, V] HT_ ?_
          refine Zsp (i := 15) (N := some 46) #[J, J, J, J, J, J, J, J, J, J, J, J, V, V, J, J, V, V, V, V, V] HT_ ?_
          refine Zsp (i := 16) (N := some 47) #[J, J, J, J, J, J, J, J, J, J, J, J, V, V, J, J, J, V, V, V, V] HT_ ?_
          refine Zst (i := 12) (N := some 43) #[J, J, J, J, J, J, J, J, J, J, J, J, J, V, J, J, J, V, V, V, V] HT_ HW_ hHeld ?_ (hy := by (refine Or.inl ⟨by rfl, ?_⟩; rintro w' ⟨s0, s1, s2, s3, s4, s5, s6, s7, s8, s9, s10, s11⟩; go_simp; with_reducible rfl))
          refine Zsp (i := 13) (N := some 44) (pm 21 17) HT_ ?_
          refine Zst (i := 17) (N := some 48) (pm 21 18) HT_ HW_ hHeld ?_ (hy := by (refine Or.inl ⟨by rfl, ?_⟩; rintro w' ⟨s0, s1, s2, s3, s4, s5, s6, s7, s8, s9, s10, s11⟩; go_simp; with_reducible rfl))
          refine Zsp (i := 18) (N := some 49) (pm 21 19) HT_ ?_
          refine Zsp (i := 19) (N := some 50) (pm 21 20) HT_ ?_
          refine Zsp (i := 20) (N := some 51) (pm 21 21) HT_ ?_
          refine done_ (Qbc HT_.out (by kernel_rfl)) ?_
          try go_wp2
          go_meet
          case rel => exact ⟨_, (((((Qaa l0 x12_1).f1).length : Int) != (((Qaa l0 0).f1).length : Int))), (Zs), H', ⟨by have := HK1.out; have := HJ5.out; first | omega | exact Nat.le_refl _⟩, ⟨Zu BK119.out⟩, ⟨Zc1 GE119.out⟩⟩
         rw [if_neg c25] at H
         exact absurd H (by simp)
        case rest =>
         clear HC20
         try clear c1
         try clear p1
         try clear q1
         try clear hx1
         try clear qi1
         try clear c2
         try clear p2
         try clear c11
         try clear p11
         try clear q11
         try clear hx11
         try clear c12
         try clear p12
         try clear q12
         try clear hx12
         try clear qi12
         try clear c19
         try clear c21
         try clear c21b0
         try clear c21b1
         try clear c23
         try clear c23b0
         try clear c23b1
         try clear c25
         try clear c25b0
         try clear c25b1
         try clear hfz8_4
         try clear hfz8_5
         try clear hx118_0
         try clear hx118_1
         try clear hx118_2
         try clear hx118_3
         try clear hx118_4
         try clear hx118_5
         try clear hx120_0
         try clear hx120_1
         try clear hx120_2
         try clear hx120_3
         try clear hx120_4
         try clear hx120_5
         try clear hx122_0
         try clear hx122_1
         try clear hx122_2
         try clear hx122_3
         try clear hx122_4
         try clear hx122_5
         try clear p118
         try clear p120
         try clear p122
         try clear p2
         try clear q118
         try clear q120
         try clear q122
         obtain ⟨kq, x51_19, rfl, HA, HJ19, BK119, HB⟩ := hcut
         cases kq with
         | zero => exact absurd HA.out (by simp [Qan.j2])
         | succ kj19 =>
          have H := HA.out
          clear HA
          simp only [Qan.j2] at H
          by_cases c27 : x51_19 = J
          ·subst c27
           have H1 : (some 27) = some r := by rw [if_pos rfl] at H; exact H
           clear H
           have H := H1
           clear H1
           obtain rfl := Option.some.inj H
           go_wp2
           go_ret
           exact ⟨Zq, Zc1 GE119.out⟩
          replace c27 := Bool.eq_false_iff.mpr c27
          subst c27
          have H1 : (Qan.l1 kj19 l0 l0 (l0.length : Int) x12_1 ((Qaa l0 x12_1).f1) (((Qaa l0 x12_1).f1).length : Int) 0 ((Qaa l0 x12_1).f0.f0) ((Qaa l0 x12_1).f0.f1) ((Qaa l0 x12_1).f0.f2) ((Qaa l0 x12_1).f0.f3) ((Qaa l0 x12_1).f1) ((Qaa l0 x12_1).f2)) = some r := by rw [if_neg (show ¬ (V = J) by decide)] at H; exact H
          clear H
          have H := H1
          clear H1
          have H' := Aside0.mk H
          clear H
          obtain ⟨hcz28_0, hfz28_0⟩ := Zy (v := (.string ((Qaa l0 x12_1).f0.f0))) BK119.out 0
          obtain ⟨hcz28_1, hfz28_1⟩ := Zy (v := (.int .i64 ((Qaa l0 x12_1).f0.f1))) BK119.out 1
          obtain ⟨hcz28_2, hfz28_2⟩ := Zy (v := (.int .i64 ((Qaa l0 x12_1).f0.f2))) BK119.out 2
          obtain ⟨hcz28_3, hfz28_3⟩ := Zy (v := (.int .i64 ((Qaa l0 x12_1).f0.f3))) BK119.out 3
          obtain ⟨hcz28_4, hfz28_4⟩ := Zy (v := (.slice A118_4 ((Qaa l0 x12_1).f1).length c118_4)) BK119.out 4
          obtain ⟨hcz28_5, hfz28_5⟩ := Zy (v := (.int .i64 ((Qaa l0 x12_1).f2))) BK119.out 5
          go_wp2
          go_loopg [55] kj19 (fun kq v55 w' => ∃ (x55_4 : Int), v55 = .int .i64 x55_4 ∧ Aside0 (Qan.l1 kq l0 l0 (l0.length : Int) x12_1 ((Qaa l0 x12_1).f1) (((Qaa l0 x12_1).f1).length : Int) x55_4 ((Qaa l0 x12_1).f0.f0) ((Qaa l0 x12_1).f0.f1) ((Qaa l0 x12_1).f0.f2) ((Qaa l0 x12_1).f0.f3) ((Qaa l0 x12_1).f1) ((Qaa l0 x12_1).f2) = some r) ∧ Aside0 (kq ≤ kj19) ∧ Aside0 (w'.heap[gb119]? = some (.cells #[.string ((Qaa l0 x12_1).f0.f0), .int .i64 ((Qaa l0 x12_1).f0.f1), .int .i64 ((Qaa l0 x12_1).f0.f2), .int .i64 ((Qaa l0 x12_1).f0.f3), (.slice A118_4 ((Qaa l0 x12_1).f1).length c118_4), .int .i64 ((Qaa l0 x12_1).f2)] 128 (0, 0))) ∧ Aside0 (Below w.heap.size w w'))
          case atStart => exact ⟨(0), (Zs), H', ⟨Nat.le_refl _⟩, ⟨Zu BK119.out⟩, ⟨Zc1 GE119.out⟩⟩
          case round =>
           clear H'
           try clear c1
           try clear p1
           try clear q1
           try clear hx1
           try clear qi1
           try clear c2
           try clear p2
           try clear c11
           try clear p11
           try clear q11
           try clear hx11
           try clear c12
           try clear p12
           try clear q12
           try clear hx12
           try clear qi12
           try clear c19
           try clear c21
           try clear c21b0
           try clear c21b1
           try clear c23
           try clear c23b0
           try clear c23b1
           try clear c25
           try clear c25b0
           try clear c25b1
           try clear c27
           try clear hcz28_0
           try clear hcz28_1
           try clear hcz28_2
           try clear hcz28_3
           try clear hcz28_4
           try clear hcz28_5
           try clear hfz28_0
           try clear hfz28_1
           try clear hfz28_2
           try clear hfz28_3
           try clear hfz28_4
           try clear hfz28_5
           try clear hfz8_4
           try clear hfz8_5
           try clear hx118_0
           try clear hx118_1
           try clear hx118_2
           try clear hx118_3
           try clear hx118_4
           try clear hx118_5
           try clear hx120_0
           try clear hx120_1
           try clear hx120_2
           try clear hx120_3
           try clear hx120_4
           try clear hx120_5
           try clear hx122_0
           try clear hx122_1
           try clear hx122_2
           try clear hx122_3
           try clear hx122_4
           try clear hx122_5
           try clear p1
           try clear p11
           try clear p118
           try clear p12
           try clear p120
           try clear p122
           try clear p2
           try clear q1
           try clear q11
           try clear q118
           try clear q12
           try clear q120
           try clear q122
           obtain ⟨x55_4, rfl, HA, HK4, BK119, HB⟩ := hrel
           cases gk with
           | zero => exact absurd HA.out (by simp [Qan.l1])
           | succ k4 =>
            have H := HA.out
            clear HA
            simp only [Qan.l1] at H
            by_cases c29 : x55_4 < (((Qaa l0 x12_1).f1).length : Int)
            ·rw [if_pos c29] at H
             have c29b0 : decide (x55_4 < (((Qaa l0 x12_1).f1).length : Int)) = J := decide_eq_true c29
             clear c29
             (try simp only [c29b0])
             by_cases c30 : 0 ≤ x55_4
             ·rw [if_pos c30] at H
              have c30b0 : decide (0 ≤ x55_4) = J := decide_eq_true c30
              clear c30
              by_cases c31 : x55_4 < (((Qaa l0 x12_1).f1).length : Int)
              ·rw [if_pos c31] at H
               have c31b0 : decide (x55_4 < (((Qaa l0 x12_1).f1).length : Int)) = J := decide_eq_true c31
               clear c31
               have p123 : 0 ≤ (x55_4 : Int) := Ze
               have q123 : x55_4 < (((Qaa l0 x12_1).f1).length : Int) := Ze
               obtain ⟨ad123, e123, hx123_0⟩ := Kd.at_int HR118_4.out x55_4 p123 q123
               cases e123
               replace hx123_0 := Zx HB.out hx123_0
               replace p123 := eq_true p123
               replace q123 := eq_true q123
               go_upto_region 13 with (fail)
               by_cases c32 : (rd ((Qaa l0 x12_1).f1) x55_4) < (-68719476736)
               ·rw [if_pos c32] at H
                have c32b0 : decide ((rd ((Qaa l0 x12_1).f1) x55_4) < (-68719476736)) = J := decide_eq_true c32
                clear c32
                (try simp only [c32b0])
                obtain rfl := Option.some.inj H
                go_wp2
                go_ret
                exact ⟨Zq, Zc1 GE119.out⟩
               rw [if_neg c32] at H
               have c32b0 : decide ((rd ((Qaa l0 x12_1).f1) x55_4) < (-68719476736)) = V := decide_eq_false c32
               clear c32
               (try simp only [c32b0])
               by_cases c33 : (rd ((Qaa l0 x12_1).f1) x55_4) > 68719476736
               ·rw [if_pos c33] at H
                have c33b0 : decide (68719476736 < (rd ((Qaa l0 x12_1).f1) x55_4)) = J := decide_eq_true c33
                clear c33
                (try simp only [c33b0])
                obtain rfl := Option.some.inj H
                go_wp2
                go_ret
                exact ⟨Zq, Zc1 GE119.out⟩
               rw [if_neg c33] at H
               have c33b0 : decide (68719476736 < (rd ((Qaa l0 x12_1).f1) x55_4)) = V := decide_eq_false c33
               clear c33
               (try simp only [c33b0])
               have H' := Aside0.mk H
               clear H
               go_wp2
               go_roundg k4
               case measure => have := HK1.out; have := HJ5.out; have := HJ19.out; have := HK4.out; omega
               case rel => exact ⟨(wrap64 (x55_4 + 1)), (Zs), H', ⟨by have := HK1.out; have := HJ5.out; have := HJ19.out; have := HK4.out; omega⟩, ⟨Zu BK119.out⟩, ⟨Zc1 GE119.out⟩⟩
              rw [if_neg c31] at H
              exact absurd H (by simp)
             rw [if_neg c30] at H
             exact absurd H (by simp)
            rw [if_neg c29] at H
            have c29b0 : decide (x55_4 < (((Qaa l0 x12_1).f1).length : Int)) = V := decide_eq_false c29
            clear c29
            (try simp only [c29b0])
            by_cases c34 : ((Qaa l0 x12_1).f2) < (-1000)
            ·rw [if_pos c34] at H
             have c34b0 : decide (((Qaa l0 x12_1).f2) < (-1000)) = J := decide_eq_true c34
             clear c34
             obtain rfl := Option.some.inj H
             obtain ⟨hcz35_0, hfz35_0⟩ := Zy (v := (.string ((Qaa l0 x12_1).f0.f0))) BK119.out 0
             obtain ⟨hcz35_1, hfz35_1⟩ := Zy (v := (.int .i64 ((Qaa l0 x12_1).f0.f1))) BK119.out 1
             obtain ⟨hcz35_2, hfz35_2⟩ := Zy (v := (.int .i64 ((Qaa l0 x12_1).f0.f2))) BK119.out 2
             obtain ⟨hcz35_3, hfz35_3⟩ := Zy (v := (.int .i64 ((Qaa l0 x12_1).f0.f3))) BK119.out 3
             obtain ⟨hcz35_4, hfz35_4⟩ := Zy (v := (.slice A118_4 ((Qaa l0 x12_1).f1).length c118_4)) BK119.out 4
             obtain ⟨hcz35_5, hfz35_5⟩ := Zy (v := (.int .i64 ((Qaa l0 x12_1).f2))) BK119.out 5
             go_wp2
             go_ret
             exact ⟨Zq, Zc1 GE119.out⟩
            rw [if_neg c34] at H
            have c34b0 : decide (((Qaa l0 x12_1).f2) < (-1000)) = V := decide_eq_false c34
            clear c34
            obtain ⟨hcz36_0, hfz36_0⟩ := Zy (v := (.string ((Qaa l0 x12_1).f0.f0))) BK119.out 0
            obtain ⟨hcz36_1, hfz36_1⟩ := Zy (v := (.int .i64 ((Qaa l0 x12_1).f0.f1))) BK119.out 1
            obtain ⟨hcz36_2, hfz36_2⟩ := Zy (v := (.int .i64 ((Qaa l0 x12_1).f0.f2))) BK119.out 2
            obtain ⟨hcz36_3, hfz36_3⟩ := Zy (v := (.int .i64 ((Qaa l0 x12_1).f0.f3))) BK119.out 3
            obtain ⟨hcz36_4, hfz36_4⟩ := Zy (v := (.slice A118_4 ((Qaa l0 x12_1).f1).length c118_4)) BK119.out 4
            obtain ⟨hcz36_5, hfz36_5⟩ := Zy (v := (.int .i64 ((Qaa l0 x12_1).f2))) BK119.out 5
            go_upto_if 73 with (fail)
            by_cases c37 : ((Qaa l0 x12_1).f2) > 1000
            ·rw [if_pos c37] at H
             have c37b0 : decide (1000 < ((Qaa l0 x12_1).f2)) = J := decide_eq_true c37
             clear c37
             (try simp only [c37b0])
             obtain rfl := Option.some.inj H
             go_wp2
             go_ret
             exact ⟨Zq, Zc1 GE119.out⟩
            rw [if_neg c37] at H
            have c37b0 : decide (1000 < ((Qaa l0 x12_1).f2)) = V := decide_eq_false c37
            clear c37
            (try simp only [c37b0])
            have H' := Aside0.mk H
            clear H
            go_wp2
            go_roundg k4
            case measure => have := HK1.out; have := HJ5.out; have := HJ19.out; have := HK4.out; omega
            case rel => exact ⟨(wrap64 (x12_1 + 1)), (Zs), H', ⟨by have := HK1.out; have := HJ5.out; have := HJ19.out; have := HK4.out; omega⟩, ⟨Zc1 GE119.out⟩⟩
     rw [if_neg c5] at H
     exact absurd H (by simp)
    rw [if_neg c4] at H
    exact absurd H (by simp)
   rw [if_neg c3] at H
   have c3b0 : decide (x12_1 < (l0.length : Int)) = V := decide_eq_false c3
   clear c3
   (try simp only [c3b0])
   obtain rfl := Option.some.inj H
   go_wp2
   go_ret
   exact ⟨Zq, Zb⟩
def Qa0.f (k : Nat) (l0 : List (S71)) (l1 : List (S128)) : Option (Int) := (Qan.f k l1).bind fun t124 => (if t124 = 0 then ((Qal.f k l0).bind fun t125 => (some t125)) else (some t124))
theorem Qa0.mono : ∀ a0 a1 k, LeO (Qa0.f k a0 a1) (Qa0.f (k + 1) a0 a1) := by
 intro a0 a1 k
 unfold Qa0.f
 exact ZM2 Qal.mono Qan.mono
set_option maxHeartbeats 8000000 in
theorem Qa0.calls (k : Nat) (A0 : Option Addr) (c0 : Nat) (l0 : List (S71)) (A1 : Option Addr) (c1 : Nat) (l1 : List (S128)) (r : Int) (w : World) (hr0 : Kd.C k71 w A0 l0.length l0) (hc0 : l0.length ≤ c0) (hr1 : Kd.C k128 w A1 l1.length l1) (hc1 : l1.length ≤ c1) (h : Qa0.f k l0 l1 = some r) :
  Calls Try.prog 141 #[.slice A0 l0.length c0, .slice A1 l1.length c1] w fun e w' => e = .returned (.int .i64 r) ∧ Below w.heap.size w w' := by
 have HR0 := Aside0.mk hr0
 have HC0 := Aside0.mk hc0
 clear hr0 hc0
 have HR1 := Aside0.mk hr1
 have HC1 := Aside0.mk hc1
 clear hr1 hc1
 have HB := Aside0.mk (Below.refl w.heap.size w)
 have H : ((Qan.f k l1).bind fun t124 => (if t124 = 0 then ((Qal.f k l0).bind fun t125 => (some t125)) else (some t124))) = some r := h
 clear h
 replace H := Option.bind_eq_some_iff.mp H
 obtain ⟨t124, A30, H⟩ := H
 replace H : (if t124 = 0 then ((Qal.f k l0).bind fun t125 => (some t125)) else (some t124)) = some r := H
 have A3 := Aside0.mk A30
 clear A30
 go_enter Try.func141, Try.ntmps141
 go_upto_if 9 with (first | ((with_reducible refine QaF (f := 74) rfl ?_); refine goesL_ (some 7) rfl rfl Try.func74 (by kernel_rfl) rfl #[.slice A1 l1.length c1] rfl (Zl) ?_; (with_reducible refine (Qan.calls k _ _ l1 t124 _ ?side1 ?side2 A3.out).mono ?_); (case side1 => exact Zv HR1.out); (case side2 => exact HC1.out); rintro e w4 ⟨rfl, hb⟩; refine ⟨_, rfl, ?_⟩; replace HB := Aside0.mk (Qav (Zb) hb); (try clear hb); (try clear hb2); (try clear hk); (try clear hi)))
 (try simp only [Act.put, Zj, Zk, Zm])
 by_cases c5 : t124 = 0
 ·rw [if_pos c5] at H
  have c5b0 : (t124 == 0) = J := beq_iff_eq.mpr c5
  have c5b1 : (t124 != 0) = V := bne_eq_false_iff_eq.mpr c5
  clear c5
  (try simp only [c5b0, c5b1])
  replace H := Option.bind_eq_some_iff.mp H
  obtain ⟨t125, A60, H⟩ := H
  replace H : (some t125) = some r := H
  have A6 := Aside0.mk A60
  clear A60
  obtain rfl := Option.some.inj H
  go_wp2_with (first | ((with_reducible refine QaF (f := 9) rfl ?_); refine goesL_ (some 12) rfl rfl Try.func9 (by kernel_rfl) rfl #[.slice A0 l0.length c0] rfl (Zl) ?_; (with_reducible refine (Qal.calls k _ _ l0 t125 _ ?side1 ?side2 A6.out).mono ?_); (case side1 => exact Zv (Kd.C_below HR0.out HB.out)); (case side2 => exact HC0.out); rintro e w7 ⟨rfl, hb⟩; refine ⟨_, rfl, ?_⟩; replace HB := Aside0.mk (Qav (Zb) hb); (try clear hb); (try clear hb2); (try clear hk); (try clear hi)))
  go_ret
  exact ⟨Zq, Zb⟩
 rw [if_neg c5] at H
 have c5b0 : (t124 == 0) = V := beq_eq_false_iff_ne.mpr c5
 have c5b1 : (t124 != 0) = J := bne_iff_ne.mpr c5
 (try simp only [c5b0, c5b1])
 obtain rfl := Option.some.inj H
 go_wp2
 go_ret
 exact ⟨Zq, Zb⟩
def Qax.l0 : Nat → List (S71) → List (S128) → Int → Int → Int → Option (Bool)
 | 0, _, _, _, _, _ => none
 | k + 1, x0, x1, x5, x8, x9 => if x9 < x8 then (if 0 ≤ x9 then (if x9 < (x1.length : Int) then (Qax.l0 k x0 x1 (wrap64 (x5 + (mn (((Qaa x1 x9).f1).length : Int) 1000))) x8 (wrap64 (x9 + 1))) else (none)) else (none)) else (if (x0.length : Int) ≤ 150 then (if (x1.length : Int) ≤ 150 then (some (decide (x5 ≤ 3000))) else (some V)) else (some V))
def Qax.f (k : Nat) (l0 : List (S71)) (l1 : List (S128)) : Option (Bool) := Qax.l0 k l0 l1 0 (l1.length : Int) 0
theorem Qax.mono_l : ∀ k, (∀ y0 y1 y2 y3 y4, LeO (Qax.l0 k y0 y1 y2 y3 y4) (Qax.l0 (k + 1) y0 y1 y2 y3 y4))
 | 0 => fun _ _ _ _ _ r h => by simp [Qax.l0] at h
 | k + 1 => by
  have ih0 := Qax.mono_l k
  intro y0 y1 y2 y3 y4
  unfold Qax.l0
  exact ZM1 ih0
theorem Qax.mono : ∀ a0 a1 k, LeO (Qax.f k a0 a1) (Qax.f (k + 1) a0 a1) := by
 intro a0 a1 k
 have ih0 := Qax.mono_l k
 unfold Qax.f
 exact ZM1 ih0
set_option maxHeartbeats 8000000 in
theorem Qax.calls (k : Nat) (A0 : Option Addr) (c0 : Nat) (l0 : List (S71)) (A1 : Option Addr) (c1 : Nat) (l1 : List (S128)) (r : Bool) (w : World) (hr0 : Kd.C k71 w A0 l0.length l0) (hc0 : l0.length ≤ c0) (hr1 : Kd.C k128 w A1 l1.length l1) (hc1 : l1.length ≤ c1) (h : Qax.f k l0 l1 = some r) :
  Calls Try.prog 21 #[.slice A0 l0.length c0, .slice A1 l1.length c1] w fun e w' => e = .returned (.bool r) ∧ Below w.heap.size w w' := by
 have HR0 := Aside0.mk hr0
 have HC0 := Aside0.mk hc0
 clear hr0 hc0
 have HR1 := Aside0.mk hr1
 have HC1 := Aside0.mk hc1
 clear hr1 hc1
 have HB := Aside0.mk (Below.refl w.heap.size w)
 have H : (Qax.l0 k l0 l1 0 (l1.length : Int) 0) = some r := h
 clear h
 have H' := Aside0.mk H
 clear H
 go_enter Try.func21, Try.ntmps21
 go_wp2
 go_loopg [5, 9] k (fun kq v5 v9 w' => ∃ (x5_1 : Int) (x9_1 : Int), v5 = .int .i64 x5_1 ∧ v9 = .int .i64 x9_1 ∧ Aside0 (Qax.l0 kq l0 l1 x5_1 (l1.length : Int) x9_1 = some r) ∧ Aside0 (kq ≤ k) ∧ Aside0 (Below w.heap.size w w'))
 case atStart => exact ⟨(0), (0), (Zs), (Zs), H', ⟨Nat.le_refl _⟩, ⟨Zb⟩⟩
 case round =>
  clear H'
  try clear c1
  try clear c2
  try clear p2
  obtain ⟨x5_1, x9_1, rfl, rfl, HA, HK1, HB⟩ := hrel
  cases gk with
  | zero => exact absurd HA.out (by simp [Qax.l0])
  | succ k1 =>
   have H := HA.out
   clear HA
   simp only [Qax.l0] at H
   by_cases c3 : x9_1 < (l1.length : Int)
   ·rw [if_pos c3] at H
    have c3b0 : decide (x9_1 < (l1.length : Int)) = J := decide_eq_true c3
    clear c3
    (try simp only [c3b0])
    by_cases c4 : 0 ≤ x9_1
    ·rw [if_pos c4] at H
     have c4b0 : decide (0 ≤ x9_1) = J := decide_eq_true c4
     clear c4
     by_cases c5 : x9_1 < (l1.length : Int)
     ·rw [if_pos c5] at H
      have c5b0 : decide (x9_1 < (l1.length : Int)) = J := decide_eq_true c5
      clear c5
      obtain ⟨ji6, hji6⟩ : ∃ j_ : Int, (mn (((Qaa l1 x9_1).f1).length : Int) 1000) = j_ := ⟨_, rfl⟩
      replace H : (Qax.l0 k1 l0 l1 (wrap64 (x5_1 + (ji6))) (l1.length : Int) (wrap64 (x9_1 + 1))) = some r := by first | (rw [hji6] at H; exact H) | (simp only [hji6] at H ⊢; exact H)
      have hji6_ : (if 1000 < (((Qaa l1 x9_1).f1).length : Int) then 1000 else (((Qaa l1 x9_1).f1).length : Int)) = ji6 := hji6
      have H' := Aside0.mk H
      clear H
      have p615 : 0 ≤ (x9_1 : Int) := Ze
      have q615 : x9_1 < (l1.length : Int) := Ze
      obtain ⟨ad615, A615_4, c615_4, e615, hx615_0, hx615_1, hx615_2, hx615_3, hx615_4, hx615_5, hl615_4, hi615_4⟩ := Qbm HR1.out x9_1 p615 q615
      cases e615
      replace hx615_0 := Zx HB.out hx615_0
      replace hx615_1 := Zx HB.out hx615_1
      replace hx615_2 := Zx HB.out hx615_2
      replace hx615_3 := Zx HB.out hx615_3
      replace hx615_4 := Zx HB.out hx615_4
      replace hx615_5 := Zx HB.out hx615_5
      have HR615_4 := Aside0.mk hi615_4
      have HC615_4 := Aside0.mk hl615_4
      clear hi615_4 hl615_4
      replace p615 := eq_true p615
      replace q615 := eq_true q615
      go_wp2
      go_roundg k1
      case measure => have := HK1.out; omega
      case rel => exact ⟨(wrap64 (x5_1 + (ji6))), (wrap64 (x9_1 + 1)), (by first | rfl | (simp; done) | (simp only [← hji6] <;> (first | rfl | simp)) | (simp [*]; done)), (Zs), H', ⟨by have := HK1.out; omega⟩, ⟨Zb⟩⟩
     rw [if_neg c5] at H
     exact absurd H (by simp)
    rw [if_neg c4] at H
    exact absurd H (by simp)
   rw [if_neg c3] at H
   have c3b0 : decide (x9_1 < (l1.length : Int)) = V := decide_eq_false c3
   clear c3
   (try simp only [c3b0])
   by_cases c7 : (l0.length : Int) ≤ 150
   ·rw [if_pos c7] at H
    have c7b0 : decide ((l0.length : Int) ≤ 150) = J := decide_eq_true c7
    have c7b1 : decide (l0.length ≤ 150) = J := decide_eq_true (by omega)
    clear c7
    by_cases c8 : (l1.length : Int) ≤ 150
    ·rw [if_pos c8] at H
     have c8b0 : decide ((l1.length : Int) ≤ 150) = J := decide_eq_true c8
     have c8b1 : decide (l1.length ≤ 150) = J := decide_eq_true (by omega)
     clear c8
     obtain rfl := Option.some.inj H
     go_wp2
     go_ret
     exact ⟨Zq, Zb⟩
    rw [if_neg c8] at H
    have c8b0 : decide ((l1.length : Int) ≤ 150) = V := decide_eq_false c8
    have c8b1 : decide (l1.length ≤ 150) = V := decide_eq_false (by omega)
    clear c8
    obtain rfl := Option.some.inj H
    go_wp2
    go_ret
    exact ⟨Zq, Zb⟩
   rw [if_neg c7] at H
   have c7b0 : decide ((l0.length : Int) ≤ 150) = V := decide_eq_false c7
   have c7b1 : decide (l0.length ≤ 150) = V := decide_eq_false (by omega)
   clear c7
   obtain rfl := Option.some.inj H
   go_wp2
   go_ret
   exact ⟨Zq, Zb⟩
def Qbe.f (a0 : Int) (a1 : Int) : Option (Bool) := if a0 ≥ (wrap64 (-a1)) then (some (decide (a0 ≤ a1))) else (some V)
set_option maxHeartbeats 8000000 in
theorem Qbe.calls (a0 : Int) (a1 : Int) (r : Bool) (w : World) (h : Qbe.f a0 a1 = some r) :
  Calls Try.prog 148 #[.int .i64 a0, .int .i64 a1] w fun e w' => e = .returned (.bool r) ∧ Drawn0 w w' := by
 have H : (if a0 ≥ (wrap64 (-a1)) then (some (decide (a0 ≤ a1))) else (some V)) = some r := h
 clear h
 by_cases c3 : a0 ≥ (wrap64 (-a1))
 ·rw [if_pos c3] at H
  have c3b0 : decide ((wrap64 (-a1)) ≤ a0) = J := decide_eq_true c3
  clear c3
  obtain rfl := Option.some.inj H
  go_enter Try.func148, Try.ntmps148
  go_wp2
  go_ret
  exact ⟨Zs, Zd⟩
 rw [if_neg c3] at H
 have c3b0 : decide ((wrap64 (-a1)) ≤ a0) = V := decide_eq_false c3
 clear c3
 obtain rfl := Option.some.inj H
 go_enter Try.func148, Try.ntmps148
 go_wp2
 go_ret
 exact ⟨Zs, Zd⟩
def QaJ.j0 : Nat → Int → Bool → Option (Int)
 | 0, _, _ => none
 | k + 1, x1, x5 => if x5 = J then (some 2) else (if x1 < 0 then (some 18) else (if x1 > 1048576 then (some 18) else (some 0)))
def QaJ.f (k : Nat) (a0 : Int) (a1 : Int) : Option (Int) := if a0 = 0 then (QaJ.j0 k a1 J) else ((Qbe.f a0 1000).bind fun t616 => (QaJ.j0 k a1 (!t616)))
theorem QaJ.mono_l : ∀ k, (∀ y0 y1, LeO (QaJ.j0 k y0 y1) (QaJ.j0 (k + 1) y0 y1))
 | 0 => fun _ _ r h => by simp [QaJ.j0] at h
 | k + 1 => by
  have ih0 := QaJ.mono_l k
  intro y0 y1
  unfold QaJ.j0
  exact ZM1 ih0
theorem QaJ.mono : ∀ a0 a1 k, LeO (QaJ.f k a0 a1) (QaJ.f (k + 1) a0 a1) := by
 intro a0 a1 k
 have ih0 := QaJ.mono_l k
 unfold QaJ.f
 exact ZM1 ih0
set_option maxHeartbeats 8000000 in
theorem QaJ.calls (k : Nat) (a0 : Int) (a1 : Int) (r : Int) (w : World) (h : QaJ.f k a0 a1 = some r) :
  Calls Try.prog 149 #[.int .i64 a0, .int .i64 a1] w fun e w' => e = .returned (.int .i64 r) ∧ Drawn0 w w' := by
 have H : (if a0 = 0 then (QaJ.j0 k a1 J) else ((Qbe.f a0 1000).bind fun t616 => (QaJ.j0 k a1 (!t616)))) = some r := h
 clear h
 have HC3 := Aside0.mk H
 clear H
 go_enter Try.func149, Try.ntmps149
 go_upto_region 1 with (fail)
 go_cut [5] (fun v5 wc => ∃ (kq : Nat) (x5_2 : Bool), v5 = .bool x5_2 ∧ Aside0 (QaJ.j0 kq a1 x5_2 = some r) ∧ Aside0 (kq ≤ k) ∧ Drawn0 w wc)
 case first =>
  have H := HC3.out
  clear HC3
  by_cases c4 : a0 = 0
  ·rw [if_pos c4] at H
   have c4b0 : (a0 == 0) = J := beq_iff_eq.mpr c4
   have c4b1 : (a0 != 0) = V := bne_eq_false_iff_eq.mpr c4
   clear c4
   have H' := Aside0.mk H
   clear H
   go_wp2
   go_meet
   case rel => exact ⟨_, (J), (Zs), H', ⟨by first | omega | exact Nat.le_refl _⟩, Zd⟩
  rw [if_neg c4] at H
  have c4b0 : (a0 == 0) = V := beq_eq_false_iff_ne.mpr c4
  have c4b1 : (a0 != 0) = J := bne_iff_ne.mpr c4
  replace H := Option.bind_eq_some_iff.mp H
  obtain ⟨t616, A50, H⟩ := H
  replace H : (QaJ.j0 k a1 (!t616)) = some r := H
  have A5 := Aside0.mk A50
  clear A50
  have H' := Aside0.mk H
  clear H
  go_wp2_with (first | (go_at_call 148; (with_reducible refine (Qbe.calls a0 1000 t616 _ A5.out).mono ?_); rintro e w' ⟨rfl, ⟨nd, rfl⟩⟩))
  go_meet
  case rel => exact ⟨_, (!t616), (Zs), H', ⟨by first | omega | exact Nat.le_refl _⟩, Zd⟩
 case rest =>
  clear HC3
  try clear c1
  try clear p2
  try clear c4
  try clear c4b0
  try clear c4b1
  obtain ⟨kq, x5_2, rfl, HA, HJ2, ⟨mc2, rfl⟩⟩ := hcut
  cases kq with
  | zero => exact absurd HA.out (by simp [QaJ.j0])
  | succ kj2 =>
   have H := HA.out
   clear HA
   simp only [QaJ.j0] at H
   by_cases c6 : x5_2 = J
   ·subst c6
    have H1 : (some 2) = some r := by rw [if_pos rfl] at H; exact H
    clear H
    have H := H1
    clear H1
    obtain rfl := Option.some.inj H
    go_wp2
    go_ret
    exact ⟨Zs, Zd⟩
   replace c6 := Bool.eq_false_iff.mpr c6
   subst c6
   have H1 : (if a1 < 0 then (some 18) else (if a1 > 1048576 then (some 18) else (some 0))) = some r := by rw [if_neg (show ¬ (V = J) by decide)] at H; exact H
   clear H
   have H := H1
   clear H1
   by_cases c7 : a1 < 0
   ·rw [if_pos c7] at H
    have c7b0 : decide (a1 < 0) = J := decide_eq_true c7
    clear c7
    obtain rfl := Option.some.inj H
    go_wp2
    go_ret
    exact ⟨Zs, Zd⟩
   rw [if_neg c7] at H
   have c7b0 : decide (a1 < 0) = V := decide_eq_false c7
   clear c7
   by_cases c8 : a1 > 1048576
   ·rw [if_pos c8] at H
    have c8b0 : decide (1048576 < a1) = J := decide_eq_true c8
    clear c8
    (try simp only [c8b0])
    obtain rfl := Option.some.inj H
    go_wp2
    go_ret
    exact ⟨Zs, Zd⟩
   rw [if_neg c8] at H
   have c8b0 : decide (1048576 < a1) = V := decide_eq_false c8
   clear c8
   (try simp only [c8b0])
   obtain rfl := Option.some.inj H
   go_wp2
   go_ret
   exact ⟨Zs, Zd⟩
def Qa1.f (a0 : Int) : Option (Int) := some (mx a0 (wrap64 (-a0)))
set_option maxHeartbeats 8000000 in
theorem Qa1.calls (a0 : Int) (r : Int) (w : World) (h : Qa1.f a0 = some r) :
  Calls Try.prog 150 #[.int .i64 a0] w fun e w' => e = .returned (.int .i64 r) ∧ Below w.heap.size w w' := by
 have HB := Aside0.mk (Below.refl w.heap.size w)
 have H : (some (mx a0 (wrap64 (-a0)))) = some r := h
 clear h
 obtain ⟨ji2, hji2⟩ : ∃ j_ : Int, (mx a0 (wrap64 (-a0))) = j_ := ⟨_, rfl⟩
 replace H : (some ji2) = some r := by first | (rw [hji2] at H; exact H) | (simp only [hji2] at H ⊢; exact H)
 have hji2_ : (if a0 < (wrap64 (-a0)) then (wrap64 (-a0)) else a0) = ji2 := hji2
 obtain rfl := Option.some.inj H
 go_enter Try.func150, Try.ntmps150
 go_wp2
 go_ret
 exact ⟨by first | rfl | (simp [Qar, Qas] <;> rfl) | (simp only [← hji2]; first | rfl | (simp [Qar, Qas] <;> rfl)) | (simp [*, Qar, Qas] <;> rfl), Zb⟩
def QaE.j0 : Nat → Int → Int → Int → Bool → Option (Int × Int)
 | 0, _, _, _, _ => none
 | k + 1, x0, x1, x6, x44 => if x44 = J then (if ((decide (x0 > 0)) == (decide (x1 > 0))) = J then (some (wrap64 (-(wrap64 (x6 + 1))), 0)) else (some (wrap64 (x6 + 1), 0))) else (if ((decide (x0 > 0)) == (decide (x1 > 0))) = J then (some (wrap64 (-x6), 0)) else (some (x6, 0)))
def QaE.f (k : Nat) (a0 : Int) (a1 : Int) (a2 : Int) : Option (Int × Int) := (Qbe.f a0 1099511627776).bind fun t617 => (if t617 = J then ((QaJ.f k a1 a2).bind fun t618 => (if t618 = 0 then ((Qa1.f a0).bind fun t619 => ((Qa1.f a1).bind fun t620 => (if t620 = 0 then (none) else (if (mn (wrap64 (Int.tdiv t619 t620)) a2) < a2 then (QaE.j0 k a0 a1 (mn (wrap64 (Int.tdiv t619 t620)) a2) (decide ((wrap64 ((wrap64 ((wrap64 ((mn (wrap64 (Int.tdiv t619 t620)) a2) + 1)) * t620)) - t619)) < (wrap64 (t619 - (wrap64 ((mn (wrap64 (Int.tdiv t619 t620)) a2) * t620))))))) else (QaE.j0 k a0 a1 (mn (wrap64 (Int.tdiv t619 t620)) a2) V))))) else (some (0, t618)))) else (some (0, 2)))
theorem QaE.mono_l : ∀ k, (∀ y0 y1 y2 y3, LeO (QaE.j0 k y0 y1 y2 y3) (QaE.j0 (k + 1) y0 y1 y2 y3))
 | 0 => fun _ _ _ _ r h => by simp [QaE.j0] at h
 | k + 1 => by
  have ih0 := QaE.mono_l k
  intro y0 y1 y2 y3
  unfold QaE.j0
  exact ZM2 ih0 QaJ.mono
theorem QaE.mono : ∀ a0 a1 a2 k, LeO (QaE.f k a0 a1 a2) (QaE.f (k + 1) a0 a1 a2) := by
 intro a0 a1 a2 k
 have ih0 := QaE.mono_l k
 unfold QaE.f
 exact ZM2 ih0 QaJ.mono
set_option maxHeartbeats 8000000 in
theorem QaE.calls (k : Nat) (a0 : Int) (a1 : Int) (a2 : Int) (r1 : Int) (r2 : Int) (w : World) (h : QaE.f k a0 a1 a2 = some (r1, r2)) :
  Calls Try.prog 70 #[.int .i64 a0, .int .i64 a1, .int .i64 a2] w fun e w' => e = .returned (.tuple #[.int .i64 r1, .int .i64 r2]) ∧ Below w.heap.size w w' := by
 have HB := Aside0.mk (Below.refl w.heap.size w)
 have H : ((Qbe.f a0 1099511627776).bind fun t617 => (if t617 = J then ((QaJ.f k a1 a2).bind fun t618 => (if t618 = 0 then ((Qa1.f a0).bind fun t619 => ((Qa1.f a1).bind fun t620 => (if t620 = 0 then (none) else (if (mn (wrap64 (Int.tdiv t619 t620)) a2) < a2 then (QaE.j0 k a0 a1 (mn (wrap64 (Int.tdiv t619 t620)) a2) (decide ((wrap64 ((wrap64 ((wrap64 ((mn (wrap64 (Int.tdiv t619 t620)) a2) + 1)) * t620)) - t619)) < (wrap64 (t619 - (wrap64 ((mn (wrap64 (Int.tdiv t619 t620)) a2) * t620))))))) else (QaE.j0 k a0 a1 (mn (wrap64 (Int.tdiv t619 t620)) a2) V))))) else (some (0, t618)))) else (some (0, 2)))) = some (r1, r2) := h
 clear h
 replace H := Option.bind_eq_some_iff.mp H
 obtain ⟨t617, A40, H⟩ := H
 replace H : (if t617 = J then ((QaJ.f k a1 a2).bind fun t618 => (if t618 = 0 then ((Qa1.f a0).bind fun t619 => ((Qa1.f a1).bind fun t620 => (if t620 = 0 then (none) else (if (mn (wrap64 (Int.tdiv t619 t620)) a2) < a2 then (QaE.j0 k a0 a1 (mn (wrap64 (Int.tdiv t619 t620)) a2) (decide ((wrap64 ((wrap64 ((wrap64 ((mn (wrap64 (Int.tdiv t619 t620)) a2) + 1)) * t620)) - t619)) < (wrap64 (t619 - (wrap64 ((mn (wrap64 (Int.tdiv t619 t620)) a2) * t620))))))) else (QaE.j0 k a0 a1 (mn (wrap64 (Int.tdiv t619 t620)) a2) V))))) else (some (0, t618)))) else (some (0, 2))) = some (r1, r2) := H
 have A4 := Aside0.mk A40
 clear A40
 go_enter Try.func70, Try.ntmps70
 go_upto_if 12 with (first | ((with_reducible refine QaF (f := 148) rfl ?_); refine goesL_ (some 11) rfl rfl Try.func148 (by kernel_rfl) rfl #[.int .i64 a0, .int .i64 1099511627776] rfl (Zl) ?_; (with_reducible refine (Qbe.calls a0 1099511627776 t617 _ A4.out).mono ?_); rintro e w' ⟨rfl, ⟨nd, rfl⟩⟩; refine ⟨_, rfl, ?_⟩))
 (try simp only [Act.put, Zj, Zk, Zm])
 by_cases c5 : t617 = J
 ·subst c5
  have H1 : ((QaJ.f k a1 a2).bind fun t618 => (if t618 = 0 then ((Qa1.f a0).bind fun t619 => ((Qa1.f a1).bind fun t620 => (if t620 = 0 then (none) else (if (mn (wrap64 (Int.tdiv t619 t620)) a2) < a2 then (QaE.j0 k a0 a1 (mn (wrap64 (Int.tdiv t619 t620)) a2) (decide ((wrap64 ((wrap64 ((wrap64 ((mn (wrap64 (Int.tdiv t619 t620)) a2) + 1)) * t620)) - t619)) < (wrap64 (t619 - (wrap64 ((mn (wrap64 (Int.tdiv t619 t620)) a2) * t620))))))) else (QaE.j0 k a0 a1 (mn (wrap64 (Int.tdiv t619 t620)) a2) V))))) else (some (0, t618)))) = some (r1, r2) := by rw [if_pos rfl] at H; exact H
  clear H
  have H := H1
  clear H1
  replace H := Option.bind_eq_some_iff.mp H
  obtain ⟨t618, A60, H⟩ := H
  replace H : (if t618 = 0 then ((Qa1.f a0).bind fun t619 => ((Qa1.f a1).bind fun t620 => (if t620 = 0 then (none) else (if (mn (wrap64 (Int.tdiv t619 t620)) a2) < a2 then (QaE.j0 k a0 a1 (mn (wrap64 (Int.tdiv t619 t620)) a2) (decide ((wrap64 ((wrap64 ((wrap64 ((mn (wrap64 (Int.tdiv t619 t620)) a2) + 1)) * t620)) - t619)) < (wrap64 (t619 - (wrap64 ((mn (wrap64 (Int.tdiv t619 t620)) a2) * t620))))))) else (QaE.j0 k a0 a1 (mn (wrap64 (Int.tdiv t619 t620)) a2) V))))) else (some (0, t618))) = some (r1, r2) := H
  have A6 := Aside0.mk A60
  clear A60
  go_upto_if 17 with (first | ((with_reducible refine QaF (f := 149) rfl ?_); refine goesL_ (some 15) rfl rfl Try.func149 (by kernel_rfl) rfl #[.int .i64 a1, .int .i64 a2] rfl (Zl) ?_; (with_reducible refine (QaJ.calls k a1 a2 t618 _ A6.out).mono ?_); rintro e w' ⟨rfl, ⟨nd, rfl⟩⟩; refine ⟨_, rfl, ?_⟩))
  (try simp only [Act.put, Zj, Zk, Zm])
  by_cases c7 : t618 = 0
  ·rw [if_pos c7] at H
   have c7b0 : (t618 == 0) = J := beq_iff_eq.mpr c7
   have c7b1 : (t618 != 0) = V := bne_eq_false_iff_eq.mpr c7
   clear c7
   (try simp only [c7b0, c7b1])
   replace H := Option.bind_eq_some_iff.mp H
   obtain ⟨t619, A80, H⟩ := H
   replace H : ((Qa1.f a1).bind fun t620 => (if t620 = 0 then (none) else (if (mn (wrap64 (Int.tdiv t619 t620)) a2) < a2 then (QaE.j0 k a0 a1 (mn (wrap64 (Int.tdiv t619 t620)) a2) (decide ((wrap64 ((wrap64 ((wrap64 ((mn (wrap64 (Int.tdiv t619 t620)) a2) + 1)) * t620)) - t619)) < (wrap64 (t619 - (wrap64 ((mn (wrap64 (Int.tdiv t619 t620)) a2) * t620))))))) else (QaE.j0 k a0 a1 (mn (wrap64 (Int.tdiv t619 t620)) a2) V)))) = some (r1, r2) := H
   have A8 := Aside0.mk A80
   clear A80
   replace H := Option.bind_eq_some_iff.mp H
   obtain ⟨t620, A90, H⟩ := H
   replace H : (if t620 = 0 then (none) else (if (mn (wrap64 (Int.tdiv t619 t620)) a2) < a2 then (QaE.j0 k a0 a1 (mn (wrap64 (Int.tdiv t619 t620)) a2) (decide ((wrap64 ((wrap64 ((wrap64 ((mn (wrap64 (Int.tdiv t619 t620)) a2) + 1)) * t620)) - t619)) < (wrap64 (t619 - (wrap64 ((mn (wrap64 (Int.tdiv t619 t620)) a2) * t620))))))) else (QaE.j0 k a0 a1 (mn (wrap64 (Int.tdiv t619 t620)) a2) V))) = some (r1, r2) := H
   have A9 := Aside0.mk A90
   clear A90
   by_cases c10 : t620 = 0
   ·rw [if_pos c10] at H
    exact absurd H (by simp)
   rw [if_neg c10] at H
   have c10b0 : (t620 == 0) = V := beq_eq_false_iff_ne.mpr c10
   have c10b1 : (t620 != 0) = J := bne_iff_ne.mpr c10
   obtain ⟨ji11, hji11⟩ : ∃ j_ : Int, (mn (wrap64 (Int.tdiv t619 t620)) a2) = j_ := ⟨_, rfl⟩
   replace H : (if (ji11) < a2 then (QaE.j0 k a0 a1 ji11 (decide ((wrap64 ((wrap64 ((wrap64 ((ji11) + 1)) * t620)) - t619)) < (wrap64 (t619 - (wrap64 ((ji11) * t620))))))) else (QaE.j0 k a0 a1 ji11 V)) = some (r1, r2) := by first | (rw [hji11] at H; exact H) | (simp only [hji11] at H ⊢; exact H)
   (try rw [hji11] at A8)
   (try rw [hji11] at A9)
   have hji11_ : (if a2 < (wrap64 (Int.tdiv t619 t620)) then a2 else (wrap64 (Int.tdiv t619 t620))) = ji11 := hji11
   have HC12 := Aside0.mk H
   clear H
   go_upto_region 8 with (first | ((with_reducible refine QaF (f := 150) rfl ?_); refine goesL_ (some 20) rfl rfl Try.func150 (by kernel_rfl) rfl #[.int .i64 a0] rfl (Zl) ?_; (with_reducible refine (Qa1.calls a0 t619 _ A8.out).mono ?_); rintro e w13 ⟨rfl, hb⟩; refine ⟨_, rfl, ?_⟩; replace HB := Aside0.mk (Qav (Zb) hb); (try clear hb); (try clear hb2); (try clear hk); (try clear hi)) | ((with_reducible refine QaF (f := 150) rfl ?_); refine goesL_ (some 22) rfl rfl Try.func150 (by kernel_rfl) rfl #[.int .i64 a1] rfl (Zl) ?_; (with_reducible refine (Qa1.calls a1 t620 _ A9.out).mono ?_); rintro e w14 ⟨rfl, hb⟩; refine ⟨_, rfl, ?_⟩; replace HB := Aside0.mk (Qav (Zb) hb); (try clear hb); (try clear hb2); (try clear hk); (try clear hi)))
   (try simp only [Act.put, Zj, Zk, Zm])
   go_cut [44] (fun v44 wc => ∃ (kq : Nat) (x44_11 : Bool), v44 = .bool x44_11 ∧ Aside0 (QaE.j0 kq a0 a1 ji11 x44_11 = some (r1, r2)) ∧ Aside0 (kq ≤ k) ∧ Aside0 (Below w.heap.size w wc))
   case first =>
    have H := HC12.out
    clear HC12
    by_cases c15 : (ji11) < a2
    ·rw [if_pos c15] at H
     have c15b0 : decide ((ji11) < a2) = J := decide_eq_true c15
     clear c15
     have H' := Aside0.mk H
     clear H
     go_wp2
     go_meet
     case rel => exact ⟨_, (decide ((wrap64 ((wrap64 ((wrap64 ((ji11) + 1)) * t620)) - t619)) < (wrap64 (t619 - (wrap64 ((ji11) * t620)))))), (by first | rfl | (simp; done) | (simp only [← hji11] <;> (first | rfl | simp)) | (simp [*]; done)), H', ⟨by first | omega | exact Nat.le_refl _⟩, ⟨Zb⟩⟩
    rw [if_neg c15] at H
    have c15b0 : decide ((ji11) < a2) = V := decide_eq_false c15
    clear c15
    have H' := Aside0.mk H
    clear H
    go_wp2
    go_meet
    case rel => exact ⟨_, (V), (Zs), H', ⟨by first | omega | exact Nat.le_refl _⟩, ⟨Zb⟩⟩
   case rest =>
    clear HC12
    try clear c1
    try clear p2
    try clear c5
    try clear p6
    try clear c7
    try clear c7b0
    try clear c7b1
    try clear c10
    try clear c10b0
    try clear c10b1
    try clear c14
    try clear c15
    try clear c15b0
    obtain ⟨kq, x44_11, rfl, HA, HJ11, HB⟩ := hcut
    cases kq with
    | zero => exact absurd HA.out (by simp [QaE.j0])
    | succ kj11 =>
     have H := HA.out
     clear HA
     simp only [QaE.j0] at H
     by_cases c16 : x44_11 = J
     ·subst c16
      have H1 : (if ((decide (a0 > 0)) == (decide (a1 > 0))) = J then (some (wrap64 (-(wrap64 (ji11 + 1))), 0)) else (some (wrap64 (ji11 + 1), 0))) = some (r1, r2) := by rw [if_pos rfl] at H; exact H
      clear H
      have H := H1
      clear H1
      by_cases c17 : ((decide (a0 > 0)) == (decide (a1 > 0))) = J
      ·rw [if_pos c17] at H
       have c17b0 : ((decide (a0 > 0)) == (decide (a1 > 0))) = J := c17
       (try (have c17b1 : decide ((decide (a0 > 0)) = (decide (a1 > 0))) = J := by simpa using c17))
       (try (have c17b2 : ((decide (a0 > 0)) == (decide (a1 > 0))) = J := by simpa using c17))
       clear c17
       (try simp only [c17b0])
       simp only [Option.some.injEq, Prod.mk.injEq] at H
       obtain ⟨rfl, rfl⟩ := H
       go_wp2
       go_ret2
       exact ⟨by first | rfl | (simp [Qar, Qas] <;> rfl) | (simp only [← hji11]; first | rfl | (simp [Qar, Qas] <;> rfl)) | (simp [*, Qar, Qas] <;> rfl), Zb⟩
      rw [if_neg c17] at H
      have c17b0 : ((decide (a0 > 0)) == (decide (a1 > 0))) = V := by simpa using c17
      (try (have c17b1 : decide ((decide (a0 > 0)) = (decide (a1 > 0))) = V := by simpa using c17))
      (try (have c17b2 : ((decide (a0 > 0)) == (decide (a1 > 0))) = V := by simpa using c17))
      (try (have c17b3 : ¬ ((decide (a0 > 0)) = (decide (a1 > 0))) := by simpa using c17))
      clear c17
      (try simp only [c17b0])
      simp only [Option.some.injEq, Prod.mk.injEq] at H
      obtain ⟨rfl, rfl⟩ := H
      go_wp2
      go_ret2
      exact ⟨by first | rfl | (simp [Qar, Qas] <;> rfl) | (simp only [← hji11]; first | rfl | (simp [Qar, Qas] <;> rfl)) | (simp [*, Qar, Qas] <;> rfl), Zb⟩
     replace c16 := Bool.eq_false_iff.mpr c16
     subst c16
     have H1 : (if ((decide (a0 > 0)) == (decide (a1 > 0))) = J then (some (wrap64 (-ji11), 0)) else (some (ji11, 0))) = some (r1, r2) := by rw [if_neg (show ¬ (V = J) by decide)] at H; exact H
     clear H
     have H := H1
     clear H1
     by_cases c18 : ((decide (a0 > 0)) == (decide (a1 > 0))) = J
     ·rw [if_pos c18] at H
      have c18b0 : ((decide (a0 > 0)) == (decide (a1 > 0))) = J := c18
      (try (have c18b1 : decide ((decide (a0 > 0)) = (decide (a1 > 0))) = J := by simpa using c18))
      (try (have c18b2 : ((decide (a0 > 0)) == (decide (a1 > 0))) = J := by simpa using c18))
      clear c18
      (try simp only [c18b0])
      simp only [Option.some.injEq, Prod.mk.injEq] at H
      obtain ⟨rfl, rfl⟩ := H
      go_wp2
      go_ret2
      exact ⟨by first | rfl | (simp [Qar, Qas] <;> rfl) | (simp only [← hji11]; first | rfl | (simp [Qar, Qas] <;> rfl)) | (simp [*, Qar, Qas] <;> rfl), Zb⟩
     rw [if_neg c18] at H
     have c18b0 : ((decide (a0 > 0)) == (decide (a1 > 0))) = V := by simpa using c18
     (try (have c18b1 : decide ((decide (a0 > 0)) = (decide (a1 > 0))) = V := by simpa using c18))
     (try (have c18b2 : ((decide (a0 > 0)) == (decide (a1 > 0))) = V := by simpa using c18))
     (try (have c18b3 : ¬ ((decide (a0 > 0)) = (decide (a1 > 0))) := by simpa using c18))
     clear c18
     (try simp only [c18b0])
     simp only [Option.some.injEq, Prod.mk.injEq] at H
     obtain ⟨rfl, rfl⟩ := H
     go_wp2
     go_ret2
     exact ⟨by first | rfl | (simp [Qar, Qas] <;> rfl) | (simp only [← hji11]; first | rfl | (simp [Qar, Qas] <;> rfl)) | (simp [*, Qar, Qas] <;> rfl), Zb⟩
  rw [if_neg c7] at H
  have c7b0 : (t618 == 0) = V := beq_eq_false_iff_ne.mpr c7
  have c7b1 : (t618 != 0) = J := bne_iff_ne.mpr c7
  (try simp only [c7b0, c7b1])
  simp only [Option.some.injEq, Prod.mk.injEq] at H
  obtain ⟨rfl, rfl⟩ := H
  go_wp2
  go_ret2
  exact ⟨Zq, Zb⟩
 replace c5 := Bool.eq_false_iff.mpr c5
 subst c5
 have H1 : (some (0, 2)) = some (r1, r2) := by rw [if_neg (show ¬ (V = J) by decide)] at H; exact H
 clear H
 have H := H1
 clear H1
 simp only [Option.some.injEq, Prod.mk.injEq] at H
 obtain ⟨rfl, rfl⟩ := H
 go_wp2
 go_ret2
 exact ⟨Zq, Zb⟩
theorem eqA71 (d : Nat) (w : World) (x0 y0 : ByteArray) (x1 y1 : Int) (x2 y2 : Int) (x3 y3 : Int) (x4 y4 : Int) (x5 y5 : Int) :
  (Op.equalIn (d + 3) 71 (.agg #[.string x0, .int .i64 x1, .int .i64 x2, .int .i64 x3, .int .i64 x4, .int .i64 x5]) (.agg #[.string y0, .int .i64 y1, .int .i64 y2, .int .i64 y3, .int .i64 y4, .int .i64 y5])).run Try.prog w = .ok ((x0.toList == y0.toList && (x1 == y1 && (x2 == y2 && (x3 == y3)))) && (x4 == y4 && (x5 == y5))) w := by
 refine eqA_of Try.underlying71 (by kernel_rfl) ?_
 refine QbH (by rfl) (by go_simp) (by go_simp) (eqA69 (d + 0) w _ _ _ _ _ _ _ _) ?_
 refine QbH (by rfl) (by go_simp; rfl) (by go_simp; rfl) (by go_simp) ?_
 exact Qdl (by rfl) (by go_simp; rfl) (by go_simp; rfl) (by go_simp)
def Qay.l0 : Nat → List Int → List Int → Int → Option (Bool)
 | 0, _, _, _ => none
 | k + 1, x0, x1, x5 => if x5 < (x0.length : Int) then (if 0 ≤ x5 then (if x5 < (x1.length : Int) then (if (rd x0 x5) = (rd x1 x5) then (Qay.l0 k x0 x1 (wrap64 (x5 + 1))) else (some V)) else (none)) else (none)) else (some J)
def Qay.f (k : Nat) (l0 : List Int) (l1 : List Int) : Option (Bool) := if (l0.length : Int) = (l1.length : Int) then (Qay.l0 k l0 l1 0) else (some V)
theorem Qay.mono_l : ∀ k, (∀ y0 y1 y2, LeO (Qay.l0 k y0 y1 y2) (Qay.l0 (k + 1) y0 y1 y2))
 | 0 => fun _ _ _ r h => by simp [Qay.l0] at h
 | k + 1 => by
  have ih0 := Qay.mono_l k
  intro y0 y1 y2
  unfold Qay.l0
  exact ZM1 ih0
theorem Qay.mono : ∀ a0 a1 k, LeO (Qay.f k a0 a1) (Qay.f (k + 1) a0 a1) := by
 intro a0 a1 k
 have ih0 := Qay.mono_l k
 unfold Qay.f
 exact ZM1 ih0
set_option maxHeartbeats 8000000 in
theorem Qay.calls (k : Nat) (A0 : Option Addr) (c0 : Nat) (l0 : List Int) (A1 : Option Addr) (c1 : Nat) (l1 : List Int) (r : Bool) (w : World) (hr0 : Kd.C (Kd.int .i64) w A0 l0.length l0) (hc0 : l0.length ≤ c0) (hr1 : Kd.C (Kd.int .i64) w A1 l1.length l1) (hc1 : l1.length ≤ c1) (h : Qay.f k l0 l1 = some r) :
  Calls Try.prog 77 #[.slice A0 l0.length c0, .slice A1 l1.length c1] w fun e w' => e = .returned (.bool r) ∧ Drawn0 w w' := by
 have HR0 := Aside0.mk hr0
 have HC0 := Aside0.mk hc0
 clear hr0 hc0
 have HR1 := Aside0.mk hr1
 have HC1 := Aside0.mk hc1
 clear hr1 hc1
 have H : (if (l0.length : Int) = (l1.length : Int) then (Qay.l0 k l0 l1 0) else (some V)) = some r := h
 clear h
 by_cases c3 : (l0.length : Int) = (l1.length : Int)
 ·rw [if_pos c3] at H
  have c3b0 : ((l0.length : Int) == (l1.length : Int)) = J := beq_iff_eq.mpr c3
  have c3b1 : ((l0.length : Int) != (l1.length : Int)) = V := bne_eq_false_iff_eq.mpr c3
  have c3b2 : (l0.length == l1.length) = J := by first | simpa using c3 | (simp at c3 ⊢; omega)
  clear c3
  have H' := Aside0.mk H
  clear H
  go_enter Try.func77, Try.ntmps77
  go_wp2
  repeat (go_quiet (fail); try go_wp2)
  go_loopg [5] k (fun kq v5 w' => ∃ (x5_1 : Int), v5 = .int .i64 x5_1 ∧ Aside0 (Qay.l0 kq l0 l1 x5_1 = some r) ∧ Aside0 (kq ≤ k) ∧ Drawn0 w w')
  case atStart => exact ⟨(0), (Zs), H', ⟨Nat.le_refl _⟩, Zd⟩
  case round =>
   clear H'
   try clear c1
   try clear p2
   try clear c3
   try clear c3b0
   try clear c3b1
   try clear c3b2
   obtain ⟨x5_1, rfl, HA, HK1, ⟨m1, rfl⟩⟩ := hrel
   cases gk with
   | zero => exact absurd HA.out (by simp [Qay.l0])
   | succ k1 =>
    have H := HA.out
    clear HA
    simp only [Qay.l0] at H
    by_cases c4 : x5_1 < (l0.length : Int)
    ·rw [if_pos c4] at H
     have c4b0 : decide (x5_1 < (l0.length : Int)) = J := decide_eq_true c4
     clear c4
     (try simp only [c4b0])
     by_cases c5 : 0 ≤ x5_1
     ·rw [if_pos c5] at H
      have c5b0 : decide (0 ≤ x5_1) = J := decide_eq_true c5
      clear c5
      by_cases c6 : x5_1 < (l1.length : Int)
      ·rw [if_pos c6] at H
       have c6b0 : decide (x5_1 < (l1.length : Int)) = J := decide_eq_true c6
       clear c6
       have p784 : 0 ≤ (x5_1 : Int) := Ze
       have q784 : x5_1 < (l0.length : Int) := Ze
       obtain ⟨ad784, e784, hx784_0⟩ := Kd.at_int HR0.out x5_1 p784 q784
       cases e784
       replace p784 := eq_true p784
       replace q784 := eq_true q784
       have p785 : 0 ≤ (x5_1 : Int) := Ze
       have q785 : x5_1 < (l1.length : Int) := Ze
       obtain ⟨ad785, e785, hx785_0⟩ := Kd.at_int HR1.out x5_1 p785 q785
       cases e785
       replace p785 := eq_true p785
       replace q785 := eq_true q785
       go_upto_if 25 with (fail)
       repeat (go_quiet (fail); go_upto_if 25 with (fail))
       by_cases c7 : (rd l0 x5_1) = (rd l1 x5_1)
       ·rw [if_pos c7] at H
        have c7b0 : ((rd l0 x5_1) == (rd l1 x5_1)) = J := beq_iff_eq.mpr c7
        have c7b1 : ((rd l0 x5_1) != (rd l1 x5_1)) = V := bne_eq_false_iff_eq.mpr c7
        clear c7
        (try simp only [c7b0, c7b1])
        have H' := Aside0.mk H
        clear H
        go_wp2
        repeat (go_quiet (fail); try go_wp2)
        go_roundg k1
        case measure => have := HK1.out; omega
        case rel => exact ⟨(wrap64 (x5_1 + 1)), (Zs), H', ⟨by have := HK1.out; omega⟩, Zd⟩
       rw [if_neg c7] at H
       have c7b0 : ((rd l0 x5_1) == (rd l1 x5_1)) = V := beq_eq_false_iff_ne.mpr c7
       have c7b1 : ((rd l0 x5_1) != (rd l1 x5_1)) = J := bne_iff_ne.mpr c7
       (try simp only [c7b0, c7b1])
       obtain rfl := Option.some.inj H
       go_wp2
       repeat (go_quiet (fail); try go_wp2)
       go_ret
       exact ⟨Zs, Zd⟩
      rw [if_neg c6] at H
      exact absurd H (by simp)
     rw [if_neg c5] at H
     exact absurd H (by simp)
    rw [if_neg c4] at H
    have c4b0 : decide (x5_1 < (l0.length : Int)) = V := decide_eq_false c4
    clear c4
    (try simp only [c4b0])
    obtain rfl := Option.some.inj H
    go_wp2
    repeat (go_quiet (fail); try go_wp2)
    go_ret
    exact ⟨Zs, Zd⟩
 rw [if_neg c3] at H
 have c3b0 : ((l0.length : Int) == (l1.length : Int)) = V := beq_eq_false_iff_ne.mpr c3
 have c3b1 : ((l0.length : Int) != (l1.length : Int)) = J := bne_iff_ne.mpr c3
 have c3b2 : (l0.length == l1.length) = V := by first | simpa using c3 | (simp at c3 ⊢; omega)
 obtain rfl := Option.some.inj H
 go_enter Try.func77, Try.ntmps77
 go_wp2
 repeat (go_quiet (fail); try go_wp2)
 go_ret
 exact ⟨Zs, Zd⟩
def insOk (l : List Int) (i : Int) : Prop := l.length < 17592186044416 ∧ 0 ≤ i ∧ i ≤ (l.length : Int)
instance (l : List Int) (i : Int) : Decidable (insOk l i) := by unfold insOk; infer_instance
end Go.Proofs.Ytgnmhfjfefgbfaa.Pr
