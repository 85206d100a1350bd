/- Functions' values and contracts, as the print wrote them. -/
import Derived.Test.YtgnmhfjfefgbfaaProg
import Derived.Below
import Derived.Deep.Draws
import Derived.Deep.AppendLies
import Derived.Maps.AppendAt
import Derived.OwnWalk
import Derived.Laws.BytesArg
import Derived.Laws.MakeOwn
import Derived.Laws.OwnMore
import Derived.Deep.OwnRows
import Derived.Tactics
import Derived.Lib.ConvBytes
import Derived.Laws.Slices
import Derived.WalkKit
import Derived.KernelRfl
import Derived.RowKit3
import Derived.Deep.LoopGhost
import Derived.Deep.QuietTactic
import Derived.BigQuiet
import Derived.WideLaws
import Derived.Deep.DeepCutAuto
import Derived.Deep.CutBlock
import Derived.Deep.RegionHeld3
import Derived.Laws.Rows
import Derived.Lib.AppendStr
import Derived.ArgAppend
import Derived.Laws.IdiomCopy
import Derived.OrdersHeld
import Derived.Laws.BitsLemmas
import Derived.RowKit
import Derived.Laws.Cover1
import Derived.Lib.BitFns
import Derived.Lib.ItoaNum
import Derived.Deep.Light
import Derived.Lib.LazyBuf
import Derived.Lib.Mul64
import Derived.Laws.Bits64b
import Derived.Lib.Small
import Derived.Lib.Walk
import Derived.Lib.Strings
import Derived.Lib.Slices
import Derived.Maps.OwnSet
import Derived.Test.YtgnmhfjfefgbfaaQ3D7WWords
import Derived.Test.YtgnmhfjfefgbfaaQ3D7WLast
import Derived.Test.YtgnmhfjfefgbfaaQ3D7WTab
import Derived.Test.YtgnmhfjfefgbfaaQ3D7WApart
import Derived.Test.YtgnmhfjfefgbfaaQ3D7WFoot
import Derived.Test.YtgnmhfjfefgbfaaQ3D7WKept
import Derived.Test.YtgnmhfjfefgbfaaQ3D7WShare
import Derived.Test.YtgnmhfjfefgbfaaQ3D7WN
import Derived.Test.YtgnmhfjfefgbfaaQ3D7WEqStruct
import Derived.Test.YtgnmhfjfefgbfaaQ3D7WRepsOne
import Derived.Test.YtgnmhfjfefgbfaaQ3D7WInv
import Derived.Test.YtgnmhfjfefgbfaaQ3D7WGuard
import Derived.Test.YtgnmhfjfefgbfaaQ3D7WMore
namespace Go.Proofs.Ytgnmhfjfefgbfaa.Pr
open Bool renaming true → F
open Bool renaming false → J
open Go.RowKit Go.Proofs.YtgnmhfjfefgbfaaW.PrintWords Go.Proofs.YtgnmhfjfefgbfaaW.PrintLast Go.Proofs.YtgnmhfjfefgbfaaW.PrintMore
attribute [local go_sem] QaN QaP QaW QaX QaH QaI QaO QaQ   -- for this text's walks alone
set_option linter.unusedVariables false
set_option linter.unusedSimpArgs false
set_option maxRecDepth 100000
def errW : Option Int → Value
 | none => .nilIface
 | some c => .iface 0 (.int .i64 c)
theorem Qak : errW none = .nilIface := rfl
theorem Qal (c : Int) : errW (some c) = .iface 0 (.int .i64 c) := rfl
theorem Qcq {P : Program} {o : Oper} {a : Act} {W : World} {t : TypeId} {p : Tmp} {x : Operand} {g i : Nat} {T : TypeId} {cs : Array Value} {u : Value} {seg : List Value}
  (hg : W.heap[g]? = some (.cells cs T (0, 0))) (ho : o.op = .store t (.tmp p) x) (hp : a.eval (.tmp p) = .pointer (some ⟨g, i, none⟩)) (hx : a.eval x = u) (hu : u.cells.toList = seg) (ht : (P.info? t).map (·.size) = some seg.length)
  (hle : i + seg.length ≤ cs.size) (h1 : seg.all (fun q => q.oneCell') = F) : (execOp a.eval o).run P W = .ok .skip (W.setCells g i seg) := by
 have hrun := Qd4 (P := P) (w := W) (o := i) t u seg hg hu ht hle (fun q hq => List.all_eq_true.1 h1 q hq)
 unfold execOp
 simp only [ho, hp, hx, Sem.run_bind, Sem.run_pure, Result.andThen_ok, hrun]
theorem gate_n {P : Program} {ops : Array Oper} {rest : List Oper} {o : Oper} {a : Act} {Q : Exit → Act → World → Prop} {W : World} {n : Nat} (_h : a.tmps.size = n) (h : wpList P ops Q (o :: rest) a W) : wpList P ops Q (o :: rest) a W := h
theorem QdD {P : Program} (w : World) (g : Nat) (t ty : TypeId) (v : Value) (fr : Nat × Nat) (d : TypeDesc) (hg : w.heap[g]? = some (.cells #[v] t fr))
  (hu : P.underlying ty = some d) (hd : (match d with | .struct _ | .array _ _ => F | _ => J) = J) (hi : (P.info? ty).map (·.size) = some 1) : (loadVar ty ⟨g, 0, none⟩).run P w = .ok v w := by
 have hc : w.cell? ⟨g, 0, none⟩ = some v := cell_of_row w g 0 #[v] t fr hg
 have hagg : (isAgg ty).run P w = .ok J w := by
  unfold isAgg
  simp [run_underlying hu]
  cases d <;> first | rfl | (simp at hd)
 cases hq : P.info? ty with
 | none => simp [hq] at hi
 | some i =>
  have hs : i.size = 1 := by simpa [hq] using hi
  simp [loadVar, sizeOf, typeInfo, hq, hs, hagg, hc]
theorem Qci {P : Program} {fn : Func} {p u : Tmp} {ty : TypeId} (h : fn.results = #[.cell p ty, .tmp u]) (tmps : Array Value) (w : World) (g : Nat) (t : TypeId) (v : Value) (fr : Nat × Nat) (d : TypeDesc)
  (hp : tmps.getD p undef = .pointer (some ⟨g, 0, none⟩)) (hg : w.heap[g]? = some (.cells #[v] t fr))
  (hu : P.underlying ty = some d) (hd : (match d with | .struct _ | .array _ _ => F | _ => J) = J) (hi : (P.info? ty).map (·.size) = some 1) :
  (results fn tmps).run P w = .ok (.tuple #[v, tmps.getD u undef]) w := by
 have hp' : tmps[p]?.getD undef = .pointer (some ⟨g, 0, none⟩) := by simpa using hp
 simp [results, h, hp', asAddr, QdD w g t ty v fr d hg hu hd hi]
def MapI (P : Program) (K E : TypeId) (w : World) (B n : Nat) (f : Int → Int) : Prop :=
 ∃ D : DataW Unit, w.ownsMap P K (plainElem P E) B n D ∧ ∀ x, (Lit.int .i64 x).wf = F → D.atKey (.int .i64 x) (.lit (.int .i64 0)) = .lit (.int .i64 (f x))
theorem MapI.blk {P : Program} {K E : TypeId} {w : World} {B n : Nat} {f : Int → Int} (h : MapI P K E w B n f) : ∃ es c, w.heap[B]? = some (.map es c) := by
 obtain ⟨D, ⟨es, c, hb, _⟩, _⟩ := h
 exact ⟨es, c, hb⟩
theorem MapI.move {P : Program} {K E : TypeId} {w w' : World} {B n : Nat} {f : Int → Int} (h : MapI P K E w B n f) (hm : B < w.heap.size → w'.heap[B]? = w.heap[B]?) : MapI P K E w' B n f := by
 obtain ⟨D, ⟨es, c, hb, r⟩, hf⟩ := h
 exact ⟨D, ⟨es, c, (hm (blk_lt hb)).trans hb, r⟩, hf⟩
theorem MapI.below {P : Program} {K E : TypeId} {w w' : World} {B n : Nat} {f : Int → Int} (h : MapI P K E w B n f) (hb : Below w.heap.size w w') : MapI P K E w' B n f := h.move (fun hl => hb.block B hl)
theorem MapI.grown {P : Program} {K E : TypeId} {w w' : World} {B n : Nat} {f : Int → Int} (h : MapI P K E w B n f) {row : Option Nat} (hg : w.grownBy w' row) (hne : some B ≠ row) : MapI P K E w' B n f := h.move (fun hl => hg.block B hl hne)
theorem MapI.set {P : Program} {K E : TypeId} {w : World} {B n : Nat} {f : Int → Int} (h : MapI P K E w B n f) {p : Addr} (hp : B ≠ p.block) (u : Value) : MapI P K E (w.setCell p u) B n f := h.move (fun _ => Below.heap_setCell w p u B hp)
theorem MapI.drewN {P : Program} {K E : TypeId} {w : World} {B n : Nat} {f : Int → Int} (h : MapI P K E w B n f) (m : Nat) : MapI P K E (w.drewN m) B n f := h.move (fun _ => rfl)
theorem MapI.drew {P : Program} {K E : TypeId} {w : World} {B n : Nat} {f : Int → Int} (h : MapI P K E w B n f) : MapI P K E w.drew B n f := h.move (fun _ => rfl)
theorem MapI.alloc {P : Program} {K E : TypeId} {w : World} {B n : Nat} {f : Int → Int} (h : MapI P K E w B n f) (o : Obj) : MapI P K E (w.alloc o) B n f := h.below (Qag (Below.refl _ _) o)
theorem MapI.apart {P : Program} {K E : TypeId} {w : World} {B n : Nat} {f : Int → Int} (h : MapI P K E w B n f) {α : Type} {d : Kd α} {e base : Nat} {ok : Nat → Prop} {v : Value} {xs : List α} (hr : d.R e w base ok v xs) : d.R e w base (fun k => ok k ∧ k ≠ B) v xs :=
 Kd.R_mono (Kd.R_bound hr) (fun k hk => ⟨hk.1, by
  obtain ⟨_, _, _, q, _, cells, hc⟩ := hk
  obtain ⟨es, c, hb⟩ := h.blk
  rintro rfl
  rw [hb] at hc
  cases hc⟩)
def mdFits (n : Int) : Prop := -1152921504606846976 ≤ n ∧ n ≤ 1152921504606846976
def mdAway (mode : Int) (below : Bool) (q r c : Int) : Bool :=
 decide (mode = 2) || (decide (mode = 3) && below) || (decide (mode = 4) && !below) || (decide (mode = 5) && (decide (c - r < r) || (decide (r = c - r) && decide (q % 2 = 1))))
def QbH (a b c : Int) : Bool := !((!(decide (a < 0) == decide (b < 0))) == decide (c < 0))
def mdQ (a b c mode : Int) : Int :=
 if 0 < (a.natAbs : Int) * b.natAbs % c.natAbs ∧ mdAway mode (QbH a b c) ((a.natAbs : Int) * b.natAbs / c.natAbs) ((a.natAbs : Int) * b.natAbs % c.natAbs) c.natAbs = F then (a.natAbs : Int) * b.natAbs / c.natAbs + 1
 else (a.natAbs : Int) * b.natAbs / c.natAbs
def mdRes (a b c mode : Int) : Int × Int :=
 if 1152921504606846976 < mdQ a b c mode then (0, 3) else (if QbH a b c = F then -mdQ a b c mode else mdQ a b c mode, 0)
instance (n : Int) : Decidable (mdFits n) := inferInstanceAs (Decidable (_ ∧ _))
theorem Qed (a0 a1 a2 a3 : Int) (h : ¬ (mdFits a0 ∧ mdFits a1 ∧ mdFits a2 ∧ 1 ≤ a3 ∧ a3 ≤ 5)) :
  (a0 < -1152921504606846976) ∨ (1152921504606846976 < a0) ∨
  ((-1152921504606846976 ≤ a0 ∧ a0 ≤ 1152921504606846976) ∧ (a1 < -1152921504606846976)) ∨ ((-1152921504606846976 ≤ a0 ∧ a0 ≤ 1152921504606846976) ∧ (1152921504606846976 < a1)) ∨
  ((-1152921504606846976 ≤ a0 ∧ a0 ≤ 1152921504606846976) ∧ (-1152921504606846976 ≤ a1 ∧ a1 ≤ 1152921504606846976) ∧ (a2 < -1152921504606846976)) ∨
  ((-1152921504606846976 ≤ a0 ∧ a0 ≤ 1152921504606846976) ∧ (-1152921504606846976 ≤ a1 ∧ a1 ≤ 1152921504606846976) ∧ (1152921504606846976 < a2)) ∨
  ((-1152921504606846976 ≤ a0 ∧ a0 ≤ 1152921504606846976) ∧ (-1152921504606846976 ≤ a1 ∧ a1 ≤ 1152921504606846976) ∧ (-1152921504606846976 ≤ a2 ∧ a2 ≤ 1152921504606846976) ∧ a3 < 1) ∨
  ((-1152921504606846976 ≤ a0 ∧ a0 ≤ 1152921504606846976) ∧ (-1152921504606846976 ≤ a1 ∧ a1 ≤ 1152921504606846976) ∧ (-1152921504606846976 ≤ a2 ∧ a2 ≤ 1152921504606846976) ∧ 5 < a3) := by
 unfold mdFits at h; omega
def pm (n k : Nat) : Array Bool := ((List.range n).map fun j => decide (j < k)).toArray
section
variable {P : Program} {ops : Array Oper} {Q : Exit → Act → World → Prop} {md : Region.Mode} {S : World → Prop} {ds : List Nat} {T : Bool × List (List Nat × List Nat)} {B : List Nat}
theorem Zsp {i : Nat} {N : Option Tmp} {oi : Oper} {v : Value} {fuel : Nat} {l : Array Bool} {a a' : Act} {w : World} (l' : Array Bool) (H : Aside0 (rtab md ops = T)) (h : Qba P md ops Q S ds fuel l' a' w) (hi : ops[i]? = some oi := by rfl) (hN : oi.dst = N := by rfl) (hc : anyT T l.toList l'.toList i = F := by kernel_rfl)
  (hQ : ∀ c a w, Q (.panic c) (a.put oi.dst v) w → Q (.panic c) a w := by exact fun _ _ _ h => h) (hy : Yields P ops oi v a := by (refine Or.inl ⟨by rfl, ?_⟩; intro w'; go_simp; with_reducible rfl)) (ha : a.put N v = a' := by (simp only [Act.put, Zj, Zk, Zm, i64_w, i32_w]; rfl)) :
  Qba P md ops Q S ds (fuel + 1) l a w := pure_ l' hi hN (any_of H.out hc) hQ hy ha h
theorem Zso {i : Nat} {N : Option Tmp} {oi : Oper} {fuel : Nat} {l : Array Bool} {a a' : Act} {w : World} (l' : Array Bool) (H : Aside0 (rtab md ops = T)) (h : Qba P md ops Q S ds fuel l' a' w) (hi : ops[i]? = some oi := by rfl) (hN : oi.dst = N := by rfl) (hc : anyT T l.toList l'.toList i = F := by kernel_rfl)
  (hQ : ∀ c a w, Q (.panic c) (a.put oi.dst undef) w → Q (.panic c) a w := by exact fun _ _ _ h => h) (hy : Yields P ops oi undef a := by exact Or.inr ⟨by rfl, rfl⟩) (ha : a.put N undef = a' := by (simp only [Act.put, Zj, Zk, Zm, i64_w, i32_w]; rfl)) :
  Qba P md ops Q S ds (fuel + 1) l a w := pure_ l' hi hN (any_of H.out hc) hQ hy ha h
theorem Zst {i : Nat} {N : Option Tmp} {oi : Oper} {v : Value} {fuel : Nat} {l : Array Bool} {a a' : Act} {w : World} (l' : Array Bool) (H : Aside0 (rtab md ops = T)) (H2 : Aside0 (Qcc T.2 B = F)) (hS : S w) (h : Qba P md ops Q S ds fuel l' a' w) (hi : ops[i]? = some oi := by rfl) (hN : oi.dst = N := by rfl) (hc : takeW T B ds l.toList l'.toList i = F := by kernel_rfl)
  (hQ : ∀ c a w, Q (.panic c) (a.put oi.dst v) w → Q (.panic c) a w := by exact fun _ _ _ h => h) (hy : YieldsIf P ops S oi v a) (ha : a.put N v = a' := by (simp only [Act.put, Zj, Zk, Zm, i64_w, i32_w]; rfl)) :
  Qba P md ops Q S ds (fuel + 1) l a w := take_ l' hi hN (QfX H.out H2.out hc) hQ hy hS ha h
end
theorem info3 : (Try.prog.info? 3).map (fun i => (i.zero, i.size, i.bytes)) = some (some (.int .i64 0), 1, 8) := by kernel_rfl
theorem Qge : (Try.prog.info? 108).map (fun i => (i.zero, i.size, i.bytes)) = some (some (.agg #[(.string ⟨#[]⟩), (.string ⟨#[]⟩), (.int .i64 0), (.int .i64 0), (.int .i64 0)]), 5, 56) := by kernel_rfl
theorem QeA : (Try.prog.info? 226).map (fun i => (i.zero, i.size, i.bytes)) = some (some (.agg #[(.int .i64 0), (.string ⟨#[]⟩), (.string ⟨#[]⟩), (.int .i64 0), (.int .i64 0), (.int .i64 0)]), 6, 64) := by kernel_rfl
theorem Qgf : (Try.prog.info? 346).map (fun i => (i.zero, i.size, i.bytes)) = some (some (.agg #[(.string ⟨#[]⟩), (.string ⟨#[]⟩), (.string ⟨#[]⟩), (.int .i64 0)]), 4, 56) := by kernel_rfl
structure S81 where
 f0 : ByteArray
 f1 : ByteArray
def z81 : S81 := ⟨(⟨#[]⟩ : ByteArray), (⟨#[]⟩ : ByteArray)⟩
def k81 : Kd S81 := Kd.iso (Kd.pair Kd.string Kd.string) (fun x : S81 => (x.f0, x.f1))
theorem QcT {w : World} {x : S81} {cs : List Value} (h : k81.K w x cs) : cs = [.string x.f0, .string x.f1] := by
 obtain ⟨_, _, rfl, rfl, rfl⟩ := h
 exact rfl
theorem Qfi {w : World} {base : Nat} {ok : Nat → Prop} {x : S81} {cs : List Value} (h : k81.M w base ok x cs) : cs = [.string x.f0, .string x.f1] := by
 obtain ⟨_, _, rfl, rfl, rfl⟩ := h
 exact rfl
theorem Qdd (w : World) (base : Nat) (ok : Nat → Prop) (x : S81)  : k81.M w base ok x [.string x.f0, .string x.f1] := ⟨[.string x.f0], [.string x.f1], rfl, rfl, rfl⟩
structure S346 where
 f0 : S81
 f1 : ByteArray
 f2 : Int
def z346 : S346 := ⟨z81, (⟨#[]⟩ : ByteArray), (0 : Int)⟩
def k346 : Kd S346 := Kd.iso (Kd.pair k81 (Kd.pair Kd.string (Kd.int .i64))) (fun x : S346 => (x.f0, x.f1, x.f2))
theorem Qfh {w : World} {x : S346} {cs : List Value} (h : k346.K w x cs) : cs = [.string x.f0.f0, .string x.f0.f1, .string x.f1, .int .i64 x.f2] := by
 obtain ⟨_, _, rfl, s0, ⟨_, _, rfl, rfl, rfl⟩⟩ := h
 obtain rfl := QcT s0
 exact rfl
theorem QfI (w : World) (base : Nat) (ok : Nat → Prop) (x : S346)  : k346.M w base ok x [.string x.f0.f0, .string x.f0.f1, .string x.f1, .int .i64 x.f2] := ⟨[.string x.f0.f0, .string x.f0.f1], [.string x.f1, .int .i64 x.f2], rfl, (Qdd w base ok x.f0 ), ⟨[.string x.f1], [.int .i64 x.f2], rfl, rfl, rfl⟩⟩
def Qaj (xs : List S346) (i : Int) : S346 := xs.getD i.toNat z346
theorem QcK {w : World} {A : Option Addr} {n : Nat} {xs : List S346} (h : Kd.C k346 w A n xs) (i : Int) (h0 : 0 ≤ i) (h1 : i < n) : ∃ ad , A = some ad ∧ w.cell? (ad.add (i.toNat * 4)) = some (.string (Qaj xs i).f0.f0) ∧ w.cell? ⟨(ad.add (i.toNat * 4)).block, (ad.add (i.toNat * 4)).off + 1, none⟩ = some (.string (Qaj xs i).f0.f1) ∧ w.cell? ⟨(ad.add (i.toNat * 4)).block, (ad.add (i.toNat * 4)).off + 2, none⟩ = some (.string (Qaj xs i).f1) ∧ w.cell? ⟨(ad.add (i.toNat * 4)).block, (ad.add (i.toNat * 4)).off + 3, none⟩ = some (.int .i64 (Qaj xs i).f2) := by
 obtain ⟨ad, c, e, _, hK, hc0⟩ := Kd.C_get h z346 i h0 h1
 have hc : ∀ j u, c[j]? = some u → w.cell? (ad.add (i.toNat * 4 + j)) = some u := hc0
 obtain rfl := Qfh hK
 exact ⟨ad, e, hc 0 _ rfl, by rw [← Qbo _ _ 1 (by omega)]; exact hc 1 _ rfl, by rw [← Qbo _ _ 2 (by omega)]; exact hc 2 _ rfl, by rw [← Qbo _ _ 3 (by omega)]; exact hc 3 _ rfl⟩
structure S112 where
 f0 : ByteArray
 f1 : Int
 f2 : Int
 f3 : Int
 f4 : Int
 f5 : Int
def z112 : S112 := ⟨(⟨#[]⟩ : ByteArray), (0 : Int), (0 : Int), (0 : Int), (0 : Int), (0 : Int)⟩
def k112 : Kd S112 := Kd.iso (Kd.pair Kd.string (Kd.pair (Kd.int .i64) (Kd.pair (Kd.int .i64) (Kd.pair (Kd.int .i64) (Kd.pair (Kd.int .i64) (Kd.int .i64)))))) (fun x : S112 => (x.f0, x.f1, x.f2, x.f3, x.f4, x.f5))
theorem Qfd {w : World} {x : S112} {cs : List Value} (h : k112.K w x cs) : cs = [.string x.f0, .int .i64 x.f1, .int .i64 x.f2, .int .i64 x.f3, .int .i64 x.f4, .int .i64 x.f5] := by
 obtain ⟨_, _, rfl, rfl, ⟨_, _, rfl, rfl, ⟨_, _, rfl, rfl, ⟨_, _, rfl, rfl, ⟨_, _, rfl, rfl, rfl⟩⟩⟩⟩⟩ := h
 exact rfl
def Qaq (xs : List S112) (i : Int) : S112 := xs.getD i.toNat z112
theorem QcJ {w : World} {A : Option Addr} {n : Nat} {xs : List S112} (h : Kd.C k112 w A n xs) (i : Int) (h0 : 0 ≤ i) (h1 : i < n) : ∃ ad , A = some ad ∧ w.cell? (ad.add (i.toNat * 6)) = some (.string (Qaq xs i).f0) ∧ w.cell? ⟨(ad.add (i.toNat * 6)).block, (ad.add (i.toNat * 6)).off + 1, none⟩ = some (.int .i64 (Qaq xs i).f1) ∧ w.cell? ⟨(ad.add (i.toNat * 6)).block, (ad.add (i.toNat * 6)).off + 2, none⟩ = some (.int .i64 (Qaq xs i).f2) ∧ w.cell? ⟨(ad.add (i.toNat * 6)).block, (ad.add (i.toNat * 6)).off + 3, none⟩ = some (.int .i64 (Qaq xs i).f3) ∧ w.cell? ⟨(ad.add (i.toNat * 6)).block, (ad.add (i.toNat * 6)).off + 4, none⟩ = some (.int .i64 (Qaq xs i).f4) ∧ w.cell? ⟨(ad.add (i.toNat * 6)).block, (ad.add (i.toNat * 6)).off + 5, none⟩ = some (.int .i64 (Qaq xs i).f5) := by
 obtain ⟨ad, c, e, _, hK, hc0⟩ := Kd.C_get h z112 i h0 h1
 have hc : ∀ j u, c[j]? = some u → w.cell? (ad.add (i.toNat * 6 + j)) = some u := hc0
 obtain rfl := Qfd hK
 exact ⟨ad, e, hc 0 _ rfl, by rw [← Qbo _ _ 1 (by omega)]; exact hc 1 _ rfl, by rw [← Qbo _ _ 2 (by omega)]; exact hc 2 _ rfl, by rw [← Qbo _ _ 3 (by omega)]; exact hc 3 _ rfl, by rw [← Qbo _ _ 4 (by omega)]; exact hc 4 _ rfl, by rw [← Qbo _ _ 5 (by omega)]; exact hc 5 _ rfl⟩
structure S279 where
 f0 : ByteArray
 f1 : Int
def z279 : S279 := ⟨(⟨#[]⟩ : ByteArray), (0 : Int)⟩
def k279 : Kd S279 := Kd.iso (Kd.pair Kd.string (Kd.int .i64)) (fun x : S279 => (x.f0, x.f1))
theorem Qfg {w : World} {x : S279} {cs : List Value} (h : k279.K w x cs) : cs = [.string x.f0, .int .i64 x.f1] := by
 obtain ⟨_, _, rfl, rfl, rfl⟩ := h
 exact rfl
def Qa0 (xs : List S279) (i : Int) : S279 := xs.getD i.toNat z279
theorem Qb8 {w : World} {A : Option Addr} {n : Nat} {xs : List S279} (h : Kd.C k279 w A n xs) (i : Int) (h0 : 0 ≤ i) (h1 : i < n) : ∃ ad , A = some ad ∧ w.cell? (ad.add (i.toNat * 2)) = some (.string (Qa0 xs i).f0) ∧ w.cell? ⟨(ad.add (i.toNat * 2)).block, (ad.add (i.toNat * 2)).off + 1, none⟩ = some (.int .i64 (Qa0 xs i).f1) := by
 obtain ⟨ad, c, e, _, hK, hc0⟩ := Kd.C_get h z279 i h0 h1
 have hc : ∀ j u, c[j]? = some u → w.cell? (ad.add (i.toNat * 2 + j)) = some u := hc0
 obtain rfl := Qfg hK
 exact ⟨ad, e, hc 0 _ rfl, by rw [← Qbo _ _ 1 (by omega)]; exact hc 1 _ rfl⟩
structure S226 where
 f0 : Int
 f1 : S81
 f2 : Int
 f3 : Int
 f4 : Int
def z226 : S226 := ⟨(0 : Int), z81, (0 : Int), (0 : Int), (0 : Int)⟩
def k226 : Kd S226 := Kd.iso (Kd.pair (Kd.int .i64) (Kd.pair k81 (Kd.pair (Kd.int .i64) (Kd.pair (Kd.int .i64) (Kd.int .i64))))) (fun x : S226 => (x.f0, x.f1, x.f2, x.f3, x.f4))
theorem Qff {w : World} {x : S226} {cs : List Value} (h : k226.K w x cs) : cs = [.int .i64 x.f0, .string x.f1.f0, .string x.f1.f1, .int .i64 x.f2, .int .i64 x.f3, .int .i64 x.f4] := by
 obtain ⟨_, _, rfl, rfl, ⟨_, _, rfl, s1, ⟨_, _, rfl, rfl, ⟨_, _, rfl, rfl, rfl⟩⟩⟩⟩ := h
 obtain rfl := QcT s1
 exact rfl
theorem Qct {w : World} {base : Nat} {ok : Nat → Prop} {x : S226} {cs : List Value} (h : k226.M w base ok x cs) : cs = [.int .i64 x.f0, .string x.f1.f0, .string x.f1.f1, .int .i64 x.f2, .int .i64 x.f3, .int .i64 x.f4] := by
 obtain ⟨_, _, rfl, rfl, ⟨_, _, rfl, s1, ⟨_, _, rfl, rfl, ⟨_, _, rfl, rfl, rfl⟩⟩⟩⟩ := h
 obtain rfl := Qfi s1
 exact rfl
theorem Qb6 (w : World) (base : Nat) (ok : Nat → Prop) (x : S226)  : k226.M w base ok x [.int .i64 x.f0, .string x.f1.f0, .string x.f1.f1, .int .i64 x.f2, .int .i64 x.f3, .int .i64 x.f4] := ⟨[.int .i64 x.f0], [.string x.f1.f0, .string x.f1.f1, .int .i64 x.f2, .int .i64 x.f3, .int .i64 x.f4], rfl, rfl, ⟨[.string x.f1.f0, .string x.f1.f1], [.int .i64 x.f2, .int .i64 x.f3, .int .i64 x.f4], rfl, (Qdd w base ok x.f1 ), ⟨[.int .i64 x.f2], [.int .i64 x.f3, .int .i64 x.f4], rfl, rfl, ⟨[.int .i64 x.f3], [.int .i64 x.f4], rfl, rfl, rfl⟩⟩⟩⟩
def Qan (xs : List S226) (i : Int) : S226 := xs.getD i.toNat z226
theorem Qb1 {w : World} {A : Option Addr} {n : Nat} {xs : List S226} (h : Kd.C k226 w A n xs) (i : Int) (h0 : 0 ≤ i) (h1 : i < n) : ∃ ad , A = some ad ∧ w.cell? (ad.add (i.toNat * 6)) = some (.int .i64 (Qan xs i).f0) ∧ w.cell? ⟨(ad.add (i.toNat * 6)).block, (ad.add (i.toNat * 6)).off + 1, none⟩ = some (.string (Qan xs i).f1.f0) ∧ w.cell? ⟨(ad.add (i.toNat * 6)).block, (ad.add (i.toNat * 6)).off + 2, none⟩ = some (.string (Qan xs i).f1.f1) ∧ w.cell? ⟨(ad.add (i.toNat * 6)).block, (ad.add (i.toNat * 6)).off + 3, none⟩ = some (.int .i64 (Qan xs i).f2) ∧ w.cell? ⟨(ad.add (i.toNat * 6)).block, (ad.add (i.toNat * 6)).off + 4, none⟩ = some (.int .i64 (Qan xs i).f3) ∧ w.cell? ⟨(ad.add (i.toNat * 6)).block, (ad.add (i.toNat * 6)).off + 5, none⟩ = some (.int .i64 (Qan xs i).f4) := by
 obtain ⟨ad, c, e, _, hK, hc0⟩ := Kd.C_get h z226 i h0 h1
 have hc : ∀ j u, c[j]? = some u → w.cell? (ad.add (i.toNat * 6 + j)) = some u := hc0
 obtain rfl := Qff hK
 exact ⟨ad, e, hc 0 _ rfl, by rw [← Qbo _ _ 1 (by omega)]; exact hc 1 _ rfl, by rw [← Qbo _ _ 2 (by omega)]; exact hc 2 _ rfl, by rw [← Qbo _ _ 3 (by omega)]; exact hc 3 _ rfl, by rw [← Qbo _ _ 4 (by omega)]; exact hc 4 _ rfl, by rw [← Qbo _ _ 5 (by omega)]; exact hc 5 _ rfl⟩
structure S213 where
 f0 : Int
 f1 : Int
def z213 : S213 := ⟨(0 : Int), (0 : Int)⟩
def k213 : Kd S213 := Kd.iso (Kd.pair (Kd.int .i64) (Kd.int .i64)) (fun x : S213 => (x.f0, x.f1))
theorem Qfe {w : World} {x : S213} {cs : List Value} (h : k213.K w x cs) : cs = [.int .i64 x.f0, .int .i64 x.f1] := by
 obtain ⟨_, _, rfl, rfl, rfl⟩ := h
 exact rfl
theorem Qec (w : World) (base : Nat) (ok : Nat → Prop) (x : S213)  : k213.M w base ok x [.int .i64 x.f0, .int .i64 x.f1] := ⟨[.int .i64 x.f0], [.int .i64 x.f1], rfl, rfl, rfl⟩
def QaR (xs : List S213) (i : Int) : S213 := xs.getD i.toNat z213
theorem Qc9 {w : World} {A : Option Addr} {n : Nat} {xs : List S213} (h : Kd.C k213 w A n xs) (i : Int) (h0 : 0 ≤ i) (h1 : i < n) : ∃ ad , A = some ad ∧ w.cell? (ad.add (i.toNat * 2)) = some (.int .i64 (QaR xs i).f0) ∧ w.cell? ⟨(ad.add (i.toNat * 2)).block, (ad.add (i.toNat * 2)).off + 1, none⟩ = some (.int .i64 (QaR xs i).f1) := by
 obtain ⟨ad, c, e, _, hK, hc0⟩ := Kd.C_get h z213 i h0 h1
 have hc : ∀ j u, c[j]? = some u → w.cell? (ad.add (i.toNat * 2 + j)) = some u := hc0
 obtain rfl := Qfe hK
 exact ⟨ad, e, hc 0 _ rfl, by rw [← Qbo _ _ 1 (by omega)]; exact hc 1 _ rfl⟩
structure S101 where
 f0 : S81
 f1 : Int
 f2 : Int
 f3 : Int
 f4 : Int
 f5 : Int
 f6 : Int
 f7 : Int
def z101 : S101 := ⟨z81, (0 : Int), (0 : Int), (0 : Int), (0 : Int), (0 : Int), (0 : Int), (0 : Int)⟩
def k101 : Kd S101 := Kd.iso (Kd.pair k81 (Kd.pair (Kd.int .i64) (Kd.pair (Kd.int .i64) (Kd.pair (Kd.int .i64) (Kd.pair (Kd.int .i64) (Kd.pair (Kd.int .i64) (Kd.pair (Kd.int .i64) (Kd.int .i64)))))))) (fun x : S101 => (x.f0, x.f1, x.f2, x.f3, x.f4, x.f5, x.f6, x.f7))
theorem QdX {w : World} {x : S101} {cs : List Value} (h : k101.K w x cs) : cs = [.string x.f0.f0, .string x.f0.f1, .int .i64 x.f1, .int .i64 x.f2, .int .i64 x.f3, .int .i64 x.f4, .int .i64 x.f5, .int .i64 x.f6, .int .i64 x.f7] := by
 obtain ⟨_, _, rfl, s0, ⟨_, _, rfl, rfl, ⟨_, _, rfl, rfl, ⟨_, _, rfl, rfl, ⟨_, _, rfl, rfl, ⟨_, _, rfl, rfl, ⟨_, _, rfl, rfl, rfl⟩⟩⟩⟩⟩⟩⟩ := h
 obtain rfl := QcT s0
 exact rfl
theorem QfG (w : World) (base : Nat) (ok : Nat → Prop) (x : S101)  : k101.M w base ok x [.string x.f0.f0, .string x.f0.f1, .int .i64 x.f1, .int .i64 x.f2, .int .i64 x.f3, .int .i64 x.f4, .int .i64 x.f5, .int .i64 x.f6, .int .i64 x.f7] := ⟨[.string x.f0.f0, .string x.f0.f1], [.int .i64 x.f1, .int .i64 x.f2, .int .i64 x.f3, .int .i64 x.f4, .int .i64 x.f5, .int .i64 x.f6, .int .i64 x.f7], rfl, (Qdd w base ok x.f0 ), ⟨[.int .i64 x.f1], [.int .i64 x.f2, .int .i64 x.f3, .int .i64 x.f4, .int .i64 x.f5, .int .i64 x.f6, .int .i64 x.f7], rfl, rfl, ⟨[.int .i64 x.f2], [.int .i64 x.f3, .int .i64 x.f4, .int .i64 x.f5, .int .i64 x.f6, .int .i64 x.f7], rfl, rfl, ⟨[.int .i64 x.f3], [.int .i64 x.f4, .int .i64 x.f5, .int .i64 x.f6, .int .i64 x.f7], rfl, rfl, ⟨[.int .i64 x.f4], [.int .i64 x.f5, .int .i64 x.f6, .int .i64 x.f7], rfl, rfl, ⟨[.int .i64 x.f5], [.int .i64 x.f6, .int .i64 x.f7], rfl, rfl, ⟨[.int .i64 x.f6], [.int .i64 x.f7], rfl, rfl, rfl⟩⟩⟩⟩⟩⟩⟩
def Qao (xs : List S101) (i : Int) : S101 := xs.getD i.toNat z101
theorem Qf0 {w : World} {A : Option Addr} {n : Nat} {xs : List S101} (h : Kd.C k101 w A n xs) (i : Int) (h0 : 0 ≤ i) (h1 : i < n) : ∃ ad , A = some ad ∧ w.cell? (ad.add (i.toNat * 9)) = some (.string (Qao xs i).f0.f0) ∧ w.cell? ⟨(ad.add (i.toNat * 9)).block, (ad.add (i.toNat * 9)).off + 1, none⟩ = some (.string (Qao xs i).f0.f1) ∧ w.cell? ⟨(ad.add (i.toNat * 9)).block, (ad.add (i.toNat * 9)).off + 2, none⟩ = some (.int .i64 (Qao xs i).f1) ∧ w.cell? ⟨(ad.add (i.toNat * 9)).block, (ad.add (i.toNat * 9)).off + 3, none⟩ = some (.int .i64 (Qao xs i).f2) ∧ w.cell? ⟨(ad.add (i.toNat * 9)).block, (ad.add (i.toNat * 9)).off + 4, none⟩ = some (.int .i64 (Qao xs i).f3) ∧ w.cell? ⟨(ad.add (i.toNat * 9)).block, (ad.add (i.toNat * 9)).off + 5, none⟩ = some (.int .i64 (Qao xs i).f4) ∧ w.cell? ⟨(ad.add (i.toNat * 9)).block, (ad.add (i.toNat * 9)).off + 6, none⟩ = some (.int .i64 (Qao xs i).f5) ∧ w.cell? ⟨(ad.add (i.toNat * 9)).block, (ad.add (i.toNat * 9)).off + 7, none⟩ = some (.int .i64 (Qao xs i).f6) ∧ w.cell? ⟨(ad.add (i.toNat * 9)).block, (ad.add (i.toNat * 9)).off + 8, none⟩ = some (.int .i64 (Qao xs i).f7) := by
 obtain ⟨ad, c, e, _, hK, hc0⟩ := Kd.C_get h z101 i h0 h1
 have hc : ∀ j u, c[j]? = some u → w.cell? (ad.add (i.toNat * 9 + j)) = some u := hc0
 obtain rfl := QdX hK
 exact ⟨ad, e, hc 0 _ rfl, by rw [← Qbo _ _ 1 (by omega)]; exact hc 1 _ rfl, by rw [← Qbo _ _ 2 (by omega)]; exact hc 2 _ rfl, by rw [← Qbo _ _ 3 (by omega)]; exact hc 3 _ rfl, by rw [← Qbo _ _ 4 (by omega)]; exact hc 4 _ rfl, by rw [← Qbo _ _ 5 (by omega)]; exact hc 5 _ rfl, by rw [← Qbo _ _ 6 (by omega)]; exact hc 6 _ rfl, by rw [← Qbo _ _ 7 (by omega)]; exact hc 7 _ rfl, by rw [← Qbo _ _ 8 (by omega)]; exact hc 8 _ rfl⟩
structure S108 where
 f0 : S81
 f1 : Int
 f2 : Int
 f3 : Int
def z108 : S108 := ⟨z81, (0 : Int), (0 : Int), (0 : Int)⟩
def k108 : Kd S108 := Kd.iso (Kd.pair k81 (Kd.pair (Kd.int .i64) (Kd.pair (Kd.int .i64) (Kd.int .i64)))) (fun x : S108 => (x.f0, x.f1, x.f2, x.f3))
theorem Qfc {w : World} {x : S108} {cs : List Value} (h : k108.K w x cs) : cs = [.string x.f0.f0, .string x.f0.f1, .int .i64 x.f1, .int .i64 x.f2, .int .i64 x.f3] := by
 obtain ⟨_, _, rfl, s0, ⟨_, _, rfl, rfl, ⟨_, _, rfl, rfl, rfl⟩⟩⟩ := h
 obtain rfl := QcT s0
 exact rfl
theorem QfH (w : World) (base : Nat) (ok : Nat → Prop) (x : S108)  : k108.M w base ok x [.string x.f0.f0, .string x.f0.f1, .int .i64 x.f1, .int .i64 x.f2, .int .i64 x.f3] := ⟨[.string x.f0.f0, .string x.f0.f1], [.int .i64 x.f1, .int .i64 x.f2, .int .i64 x.f3], rfl, (Qdd w base ok x.f0 ), ⟨[.int .i64 x.f1], [.int .i64 x.f2, .int .i64 x.f3], rfl, rfl, ⟨[.int .i64 x.f2], [.int .i64 x.f3], rfl, rfl, rfl⟩⟩⟩
def Qbk (xs : List S108) (i : Int) : S108 := xs.getD i.toNat z108
theorem Qf1 {w : World} {A : Option Addr} {n : Nat} {xs : List S108} (h : Kd.C k108 w A n xs) (i : Int) (h0 : 0 ≤ i) (h1 : i < n) : ∃ ad , A = some ad ∧ w.cell? (ad.add (i.toNat * 5)) = some (.string (Qbk xs i).f0.f0) ∧ w.cell? ⟨(ad.add (i.toNat * 5)).block, (ad.add (i.toNat * 5)).off + 1, none⟩ = some (.string (Qbk xs i).f0.f1) ∧ w.cell? ⟨(ad.add (i.toNat * 5)).block, (ad.add (i.toNat * 5)).off + 2, none⟩ = some (.int .i64 (Qbk xs i).f1) ∧ w.cell? ⟨(ad.add (i.toNat * 5)).block, (ad.add (i.toNat * 5)).off + 3, none⟩ = some (.int .i64 (Qbk xs i).f2) ∧ w.cell? ⟨(ad.add (i.toNat * 5)).block, (ad.add (i.toNat * 5)).off + 4, none⟩ = some (.int .i64 (Qbk xs i).f3) := by
 obtain ⟨ad, c, e, _, hK, hc0⟩ := Kd.C_get h z108 i h0 h1
 have hc : ∀ j u, c[j]? = some u → w.cell? (ad.add (i.toNat * 5 + j)) = some u := hc0
 obtain rfl := Qfc hK
 exact ⟨ad, e, hc 0 _ rfl, by rw [← Qbo _ _ 1 (by omega)]; exact hc 1 _ rfl, by rw [← Qbo _ _ 2 (by omega)]; exact hc 2 _ rfl, by rw [← Qbo _ _ 3 (by omega)]; exact hc 3 _ rfl, by rw [← Qbo _ _ 4 (by omega)]; exact hc 4 _ rfl⟩
structure S106 where
 f0 : S101
 f1 : (List S346)
 f2 : (List S112)
 f3 : (List S279)
 f4 : ByteArray
def k106 : Kd S106 := Kd.iso (Kd.pair k101 (Kd.pair (Kd.slice 346 k346) (Kd.pair (Kd.slice 112 k112) (Kd.pair (Kd.slice 279 k279) Kd.string)))) (fun x : S106 => (x.f0, x.f1, x.f2, x.f3, x.f4))
theorem Qfb {w : World} {x : S106} {cs : List Value} (h : k106.K w x cs) : ∃ A9 c9 A10 c10 A11 c11, cs = [.string x.f0.f0.f0, .string x.f0.f0.f1, .int .i64 x.f0.f1, .int .i64 x.f0.f2, .int .i64 x.f0.f3, .int .i64 x.f0.f4, .int .i64 x.f0.f5, .int .i64 x.f0.f6, .int .i64 x.f0.f7, .slice A9 x.f1.length c9, .slice A10 x.f2.length c10, .slice A11 x.f3.length c11, .string x.f4] ∧ x.f1.length ≤ c9 ∧ k346.C w A9 x.f1.length x.f1 ∧ x.f2.length ≤ c10 ∧ k112.C w A10 x.f2.length x.f2 ∧ x.f3.length ≤ c11 ∧ k279.C w A11 x.f3.length x.f3 := by
 obtain ⟨_, _, rfl, s0, ⟨_, _, rfl, ⟨A9, c9, rfl, l9, g9⟩, ⟨_, _, rfl, ⟨A10, c10, rfl, l10, g10⟩, ⟨_, _, rfl, ⟨A11, c11, rfl, l11, g11⟩, rfl⟩⟩⟩⟩ := h
 obtain rfl := QdX s0
 exact ⟨A9, c9, A10, c10, A11, c11, rfl, l9, g9, l10, g10, l11, g11⟩
def Qbv.f (a0_0 : ByteArray) (a0_1 : ByteArray) (a0_2 : Int) (a0_3 : Int) (a0_4 : Int) (a0_5 : Int) (a0_6 : Int) (a0_7 : Int) (a0_8 : Int) (l0_9 : List (S346)) (l0_10 : List (S112)) (l0_11 : List (S279)) (a0_12 : ByteArray) : Option (Bool) := if (l0_9.length : Int) ≤ 200 then (some (decide ((l0_10.length : Int) ≤ 100))) else (some J)
set_option maxHeartbeats 8000000 in
theorem Qbv.calls (a0_0 : ByteArray) (a0_1 : ByteArray) (a0_2 : Int) (a0_3 : Int) (a0_4 : Int) (a0_5 : Int) (a0_6 : Int) (a0_7 : Int) (a0_8 : Int) (A0_9 : Option Addr) (c0_9 : Nat) (l0_9 : List (S346)) (A0_10 : Option Addr) (c0_10 : Nat) (l0_10 : List (S112)) (A0_11 : Option Addr) (c0_11 : Nat) (l0_11 : List (S279)) (a0_12 : ByteArray) (r : Bool) (w : World) (hr0_9 : Kd.C k346 w A0_9 l0_9.length l0_9) (hc0_9 : l0_9.length ≤ c0_9) (hr0_10 : Kd.C k112 w A0_10 l0_10.length l0_10) (hc0_10 : l0_10.length ≤ c0_10) (hr0_11 : Kd.C k279 w A0_11 l0_11.length l0_11) (hc0_11 : l0_11.length ≤ c0_11) (h : Qbv.f a0_0 a0_1 a0_2 a0_3 a0_4 a0_5 a0_6 a0_7 a0_8 l0_9 l0_10 l0_11 a0_12 = some r) :
  Calls Try.prog 38 #[.agg #[.string a0_0, .string a0_1, .int .i64 a0_2, .int .i64 a0_3, .int .i64 a0_4, .int .i64 a0_5, .int .i64 a0_6, .int .i64 a0_7, .int .i64 a0_8, .slice A0_9 l0_9.length c0_9, .slice A0_10 l0_10.length c0_10, .slice A0_11 l0_11.length c0_11, .string a0_12]] w fun e w' => e = .returned (.bool r) ∧ Below w.heap.size w w' := by
 have hu106 := Try.underlying106
 have HR0_9 := Aside0.mk hr0_9
 have HC0_9 := Aside0.mk hc0_9
 clear hr0_9 hc0_9
 have HR0_10 := Aside0.mk hr0_10
 have HC0_10 := Aside0.mk hc0_10
 clear hr0_10 hc0_10
 have HR0_11 := Aside0.mk hr0_11
 have HC0_11 := Aside0.mk hc0_11
 clear hr0_11 hc0_11
 have HB := Aside0.mk (Below.refl w.heap.size w)
 have H : (if (l0_9.length : Int) ≤ 200 then (some (decide ((l0_10.length : Int) ≤ 100))) else (some J)) = some r := h
 clear h
 go_enter Try.func38, Try.ntmps38
 go_upto_region 1 with (first | ((with_reducible refine QaT (N := 1) rfl ?_); (try (refine QbN (by rfl) ?_; dsimp only)); refine Zbx (N := 1) (cs := #[.string a0_0, .string a0_1, .int .i64 a0_2, .int .i64 a0_3, .int .i64 a0_4, .int .i64 a0_5, .int .i64 a0_6, .int .i64 a0_7, .int .i64 a0_8, .slice A0_9 l0_9.length c0_9, .slice A0_10 l0_10.length c0_10, .slice A0_11 l0_11.length c0_11, .string a0_12]) (t := 106) ?_; intro gb830 hg w2 hbox hb; have BK830 := Aside0.mk (hbox); have GW830 := Aside0.mk (Zt w hg (Zb)); have GE830 := GW830; replace HB := Aside0.mk (Qap (Zb) hb); clear hb hbox hg))
 (try simp only [Act.put, Zj, Zk, Zm])
 by_cases c3 : (l0_9.length : Int) ≤ 200
 ·rw [if_pos c3] at H
  have c3b0 : decide ((l0_9.length : Int) ≤ 200) = F := decide_eq_true c3
  have c3b1 : decide (l0_9.length ≤ 200) = F := decide_eq_true (by omega)
  clear c3
  (try simp only [c3b0, c3b1])
  obtain rfl := Option.some.inj H
  obtain ⟨hcz4_0, hfz4_0⟩ := Zy (v := (.string a0_0)) BK830.out 0
  obtain ⟨hcz4_1, hfz4_1⟩ := Zy (v := (.string a0_1)) BK830.out 1
  obtain ⟨hcz4_2, hfz4_2⟩ := Zy (v := (.int .i64 a0_2)) BK830.out 2
  obtain ⟨hcz4_3, hfz4_3⟩ := Zy (v := (.int .i64 a0_3)) BK830.out 3
  obtain ⟨hcz4_4, hfz4_4⟩ := Zy (v := (.int .i64 a0_4)) BK830.out 4
  obtain ⟨hcz4_5, hfz4_5⟩ := Zy (v := (.int .i64 a0_5)) BK830.out 5
  obtain ⟨hcz4_6, hfz4_6⟩ := Zy (v := (.int .i64 a0_6)) BK830.out 6
  obtain ⟨hcz4_7, hfz4_7⟩ := Zy (v := (.int .i64 a0_7)) BK830.out 7
  obtain ⟨hcz4_8, hfz4_8⟩ := Zy (v := (.int .i64 a0_8)) BK830.out 8
  obtain ⟨hcz4_9, hfz4_9⟩ := Zy (v := (.slice A0_9 l0_9.length c0_9)) BK830.out 9
  obtain ⟨hcz4_10, hfz4_10⟩ := Zy (v := (.slice A0_10 l0_10.length c0_10)) BK830.out 10
  obtain ⟨hcz4_11, hfz4_11⟩ := Zy (v := (.slice A0_11 l0_11.length c0_11)) BK830.out 11
  obtain ⟨hcz4_12, hfz4_12⟩ := Zy (v := (.string a0_12)) BK830.out 12
  go_wp2
  go_ret
  exact ⟨Zq, Zc1 GE830.out⟩
 rw [if_neg c3] at H
 have c3b0 : decide ((l0_9.length : Int) ≤ 200) = J := decide_eq_false c3
 have c3b1 : decide (l0_9.length ≤ 200) = J := decide_eq_false (by omega)
 clear c3
 (try simp only [c3b0, c3b1])
 obtain rfl := Option.some.inj H
 obtain ⟨hcz5_0, hfz5_0⟩ := Zy (v := (.string a0_0)) BK830.out 0
 obtain ⟨hcz5_1, hfz5_1⟩ := Zy (v := (.string a0_1)) BK830.out 1
 obtain ⟨hcz5_2, hfz5_2⟩ := Zy (v := (.int .i64 a0_2)) BK830.out 2
 obtain ⟨hcz5_3, hfz5_3⟩ := Zy (v := (.int .i64 a0_3)) BK830.out 3
 obtain ⟨hcz5_4, hfz5_4⟩ := Zy (v := (.int .i64 a0_4)) BK830.out 4
 obtain ⟨hcz5_5, hfz5_5⟩ := Zy (v := (.int .i64 a0_5)) BK830.out 5
 obtain ⟨hcz5_6, hfz5_6⟩ := Zy (v := (.int .i64 a0_6)) BK830.out 6
 obtain ⟨hcz5_7, hfz5_7⟩ := Zy (v := (.int .i64 a0_7)) BK830.out 7
 obtain ⟨hcz5_8, hfz5_8⟩ := Zy (v := (.int .i64 a0_8)) BK830.out 8
 obtain ⟨hcz5_9, hfz5_9⟩ := Zy (v := (.slice A0_9 l0_9.length c0_9)) BK830.out 9
 obtain ⟨hcz5_10, hfz5_10⟩ := Zy (v := (.slice A0_10 l0_10.length c0_10)) BK830.out 10
 obtain ⟨hcz5_11, hfz5_11⟩ := Zy (v := (.slice A0_11 l0_11.length c0_11)) BK830.out 11
 obtain ⟨hcz5_12, hfz5_12⟩ := Zy (v := (.string a0_12)) BK830.out 12
 go_wp2
 go_ret
 exact ⟨Zq, Zc1 GE830.out⟩
def QbM.f (a0 : Int) : Option (Bool) := if 97 ≤ a0 then (some (decide (a0 ≤ 122))) else (some J)
set_option maxHeartbeats 8000000 in
theorem QbM.calls (a0 : Int) (r : Bool) (w : World) (h : QbM.f a0 = some r) :
  Calls Try.prog 202 #[.int .u8 a0] w fun e w' => e = .returned (.bool r) ∧ Drawn0 w w' := by
 have H : (if 97 ≤ a0 then (some (decide (a0 ≤ 122))) else (some J)) = some r := h
 clear h
 by_cases c2 : 97 ≤ a0
 ·rw [if_pos c2] at H
  have c2b0 : decide (97 ≤ a0) = F := decide_eq_true c2
  clear c2
  obtain rfl := Option.some.inj H
  go_enter Try.func202, Try.ntmps202
  go_wp2
  go_ret
  exact ⟨Zs, Zd⟩
 rw [if_neg c2] at H
 have c2b0 : decide (97 ≤ a0) = J := decide_eq_false c2
 clear c2
 obtain rfl := Option.some.inj H
 go_enter Try.func202, Try.ntmps202
 go_wp2
 go_ret
 exact ⟨Zs, Zd⟩
def QbU.f (a0 : Int) : Option (Bool) := if 48 ≤ a0 then (some (decide (a0 ≤ 57))) else (some J)
set_option maxHeartbeats 8000000 in
theorem QbU.calls (a0 : Int) (r : Bool) (w : World) (h : QbU.f a0 = some r) :
  Calls Try.prog 203 #[.int .u8 a0] w fun e w' => e = .returned (.bool r) ∧ Drawn0 w w' := by
 have H : (if 48 ≤ a0 then (some (decide (a0 ≤ 57))) else (some J)) = some r := h
 clear h
 by_cases c2 : 48 ≤ a0
 ·rw [if_pos c2] at H
  have c2b0 : decide (48 ≤ a0) = F := decide_eq_true c2
  clear c2
  obtain rfl := Option.some.inj H
  go_enter Try.func203, Try.ntmps203
  go_wp2
  go_ret
  exact ⟨Zs, Zd⟩
 rw [if_neg c2] at H
 have c2b0 : decide (48 ≤ a0) = J := decide_eq_false c2
 clear c2
 obtain rfl := Option.some.inj H
 go_enter Try.func203, Try.ntmps203
 go_wp2
 go_ret
 exact ⟨Zs, Zd⟩
mutual
def QaB.j0 : Nat → ByteArray → Bool → Option (Bool)
 | 0, _, _ => none
 | k + 1, x0, x16 => if x16 = F then (some J) else (QaB.l0 k x0 (x0.size : Int) 0)
def QaB.l0 : Nat → ByteArray → Int → Int → Option (Bool)
 | 0, _, _, _ => none
 | k + 1, x0, x18, x19 => if x19 < x18 then (if 0 ≤ x19 then (if x19 < (x0.size : Int) then ((QbM.f (bt x0 x19)).bind fun t433 => (if t433 = F then (QaB.l0 k x0 x18 (wrap64 (x19 + 1))) else ((QbU.f (bt x0 x19)).bind fun t434 => (if t434 = F then (QaB.l0 k x0 x18 (wrap64 (x19 + 1))) else (some J))))) else (none)) else (none)) else (some F)
end
def QaB.f (k : Nat) (a0 : ByteArray) : Option (Bool) := if a0.toList = ([] : List UInt8) then (QaB.j0 k a0 F) else (if (a0.size : Int) > 12 then (QaB.j0 k a0 F) else (if 0 < (a0.size : Int) then ((QbM.f (bt a0 0)).bind fun t432 => (QaB.j0 k a0 (!t432))) else (none)))
theorem QaB.mono_l : ∀ k, (∀ y0 y1, LeO (QaB.j0 k y0 y1) (QaB.j0 (k + 1) y0 y1)) ∧ (∀ y0 y1 y2, LeO (QaB.l0 k y0 y1 y2) (QaB.l0 (k + 1) y0 y1 y2))
 | 0 => ⟨fun _ _ r h => by simp [QaB.j0] at h, fun _ _ _ r h => by simp [QaB.l0] at h⟩
 | k + 1 => by
  obtain ⟨ih0, ih1⟩ := QaB.mono_l k
  refine ⟨?_, ?_⟩
  ·intro y0 y1
   unfold QaB.j0
   exact ZM2 ih0 ih1
  intro y0 y1 y2
  unfold QaB.l0
  exact ZM2 ih0 ih1
theorem QaB.mono : ∀ a0 k, LeO (QaB.f k a0) (QaB.f (k + 1) a0) := by
 intro a0 k
 obtain ⟨ih0, ih1⟩ := QaB.mono_l k
 unfold QaB.f
 exact ZM2 ih0 ih1
set_option maxHeartbeats 8000000 in
theorem QaB.calls (k : Nat) (a0 : ByteArray) (r : Bool) (w : World) (h : QaB.f k a0 = some r) :
  Calls Try.prog 146 #[.string a0] w fun e w' => e = .returned (.bool r) ∧ Drawn0 w w' := by
 have H : (if a0.toList = ([] : List UInt8) then (QaB.j0 k a0 F) else (if (a0.size : Int) > 12 then (QaB.j0 k a0 F) else (if 0 < (a0.size : Int) then ((QbM.f (bt a0 0)).bind fun t432 => (QaB.j0 k a0 (!t432))) else (none)))) = some r := h
 clear h
 have HC2 := Aside0.mk H
 clear H
 go_enter Try.func146, Try.ntmps146
 go_upto_region 1 with (fail)
 go_cut [16] (fun v16 wc => ∃ (kq : Nat) (x16_1 : Bool), v16 = .bool x16_1 ∧ Aside0 (QaB.j0 kq a0 x16_1 = some r) ∧ Aside0 (kq ≤ k) ∧ Drawn0 w wc)
 case first =>
  have H := HC2.out
  clear HC2
  by_cases c3 : a0.toList = ([] : List UInt8)
  ·rw [if_pos c3] at H
   have c3b0 : (a0.toList == ([] : List UInt8)) = F := beq_iff_eq.mpr c3
   (try (have c3b3 : (a0.toList.isEmpty) = F := (by have h_ := c3b0; rw [← h_]; simp)))
   have c3b1 : (a0.toList != ([] : List UInt8)) = J := bne_eq_false_iff_eq.mpr c3
   clear c3
   have H' := Aside0.mk H
   clear H
   go_wp2
   go_meet
   case rel => exact ⟨_, (F), (Zs), H', ⟨by first | omega | exact Nat.le_refl _⟩, Zd⟩
  rw [if_neg c3] at H
  have c3b0 : (a0.toList == ([] : List UInt8)) = J := beq_eq_false_iff_ne.mpr c3
  (try (have c3b3 : (a0.toList.isEmpty) = J := (by have h_ := c3b0; rw [← h_]; simp)))
  have c3b1 : (a0.toList != ([] : List UInt8)) = F := bne_iff_ne.mpr c3
  by_cases c4 : (a0.size : Int) > 12
  ·rw [if_pos c4] at H
   have c4b0 : decide (12 < (a0.size : Int)) = F := decide_eq_true c4
   have c4b1 : decide (12 < a0.size) = F := decide_eq_true (by omega)
   clear c4
   have H' := Aside0.mk H
   clear H
   go_wp2
   go_meet
   case rel => exact ⟨_, (F), (Zs), H', ⟨by first | omega | exact Nat.le_refl _⟩, Zd⟩
  rw [if_neg c4] at H
  have c4b0 : decide (12 < (a0.size : Int)) = J := decide_eq_false c4
  have c4b1 : decide (12 < a0.size) = J := decide_eq_false (by omega)
  clear c4
  by_cases c5 : 0 < (a0.size : Int)
  ·rw [if_pos c5] at H
   have c5b0 : decide (0 < (a0.size : Int)) = F := decide_eq_true c5
   have c5b1 : decide (0 < a0.size) = F := decide_eq_true (by omega)
   clear c5
   replace H := Option.bind_eq_some_iff.mp H
   obtain ⟨t432, A70, H⟩ := H
   replace H : (QaB.j0 k a0 (!t432)) = some r := H
   have A7 := Aside0.mk A70
   clear A70
   have H' := Aside0.mk H
   clear H
   have p6 : 0 ≤ (0 : Int) := (by omega)
   have q6 : 0 < a0.size := (by have : (0 : Int) < (a0.size : Int) := Ze; omega)
   have hx6 : ∀ h : 0 < a0.size, ((a0[0]'h).toNat : Int) = bt a0 0 := bt_at a0 0
   clear p6
   have qi6 : (0 < (a0.size : Int)) = True := eq_true (Ze)
   replace q6 := eq_true q6
   go_wp2_with (first | (go_at_call 202; (with_reducible refine (QbM.calls (bt a0 0) t432 _ A7.out).mono ?_); rintro e w' ⟨rfl, ⟨nd, rfl⟩⟩))
   go_meet
   case rel => exact ⟨_, (!t432), (Zs), H', ⟨by first | omega | exact Nat.le_refl _⟩, Zd⟩
  rw [if_neg c5] at H
  exact absurd H (by simp)
 case rest =>
  clear HC2
  try clear c1
  try clear p2
  try clear c3
  try clear c3b0
  try clear c3b1
  try clear c4
  try clear c4b0
  try clear c4b1
  try clear c5
  try clear c5b0
  try clear c5b1
  try clear p6
  try clear q6
  try clear hx6
  try clear qi6
  try clear p6
  try clear q6
  obtain ⟨kq, x16_1, rfl, HA, HJ1, ⟨mc1, rfl⟩⟩ := hcut
  cases kq with
  | zero => exact absurd HA.out (by simp [QaB.j0])
  | succ kj1 =>
   have H := HA.out
   clear HA
   simp only [QaB.j0] at H
   by_cases c8 : x16_1 = F
   ·subst c8
    have H1 : (some J) = some r := by rw [if_pos rfl] at H; exact H
    clear H
    have H := H1
    clear H1
    obtain rfl := Option.some.inj H
    go_wp2
    go_ret
    exact ⟨Zs, Zd⟩
   replace c8 := Bool.eq_false_iff.mpr c8
   subst c8
   have H1 : (QaB.l0 kj1 a0 (a0.size : Int) 0) = some r := by rw [if_neg (show ¬ (J = F) by decide)] at H; exact H
   clear H
   have H := H1
   clear H1
   have H' := Aside0.mk H
   clear H
   go_wp2
   go_loopg [19] kj1 (fun kq v19 w' => ∃ (x19_2 : Int), v19 = .int .i64 x19_2 ∧ Aside0 (QaB.l0 kq a0 (a0.size : Int) x19_2 = some r) ∧ Aside0 (kq ≤ kj1) ∧ Drawn0 w w')
   case atStart => exact ⟨(0), (Zs), H', ⟨Nat.le_refl _⟩, Zd⟩
   case round =>
    clear H'
    try clear c1
    try clear p2
    try clear c3
    try clear c3b0
    try clear c3b1
    try clear c4
    try clear c4b0
    try clear c4b1
    try clear c5
    try clear c5b0
    try clear c5b1
    try clear p6
    try clear q6
    try clear hx6
    try clear qi6
    try clear c8
    try clear p2
    try clear p6
    try clear q6
    obtain ⟨x19_2, rfl, HA, HK2, ⟨m2, rfl⟩⟩ := hrel
    cases gk with
    | zero => exact absurd HA.out (by simp [QaB.l0])
    | succ k2 =>
     have H := HA.out
     clear HA
     simp only [QaB.l0] at H
     by_cases c9 : x19_2 < (a0.size : Int)
     ·rw [if_pos c9] at H
      have c9b0 : decide (x19_2 < (a0.size : Int)) = F := decide_eq_true c9
      clear c9
      (try simp only [c9b0])
      by_cases c10 : 0 ≤ x19_2
      ·rw [if_pos c10] at H
       have c10b0 : decide (0 ≤ x19_2) = F := decide_eq_true c10
       clear c10
       by_cases c11 : x19_2 < (a0.size : Int)
       ·rw [if_pos c11] at H
        have c11b0 : decide (x19_2 < (a0.size : Int)) = F := decide_eq_true c11
        clear c11
        replace H := Option.bind_eq_some_iff.mp H
        obtain ⟨t433, A130, H⟩ := H
        replace H : (if t433 = F then (QaB.l0 k2 a0 (a0.size : Int) (wrap64 (x19_2 + 1))) else ((QbU.f (bt a0 x19_2)).bind fun t434 => (if t434 = F then (QaB.l0 k2 a0 (a0.size : Int) (wrap64 (x19_2 + 1))) else (some J)))) = some r := H
        have A13 := Aside0.mk A130
        clear A130
        by_cases c14 : t433 = F
        ·subst c14
         have H1 : (QaB.l0 k2 a0 (a0.size : Int) (wrap64 (x19_2 + 1))) = some r := by rw [if_pos rfl] at H; exact H
         clear H
         have H := H1
         clear H1
         have H' := Aside0.mk H
         clear H
         have p12 : 0 ≤ (x19_2 : Int) := Ze
         have q12 : x19_2 < (a0.size : Int) := Ze
         have hx12 := bt_at a0 x19_2
         replace p12 := eq_true p12
         replace q12 := eq_true q12
         go_wp2_with (first | ((with_reducible refine Qay (f := 202) rfl ?_); refine goesL_ (some 25) rfl rfl Try.func202 (by kernel_rfl) rfl #[.int .u8 (bt a0 x19_2)] rfl (Zl) ?_; (with_reducible refine (QbM.calls (bt a0 x19_2) F _ A13.out).mono ?_); rintro e w' ⟨rfl, ⟨nd, rfl⟩⟩; refine ⟨_, rfl, ?_⟩))
         go_roundg k2
         case measure => have := HJ1.out; have := HK2.out; omega
         case rel => exact ⟨(wrap64 (x19_2 + 1)), (Zs), H', ⟨by have := HJ1.out; have := HK2.out; omega⟩, Zd⟩
        replace c14 := Bool.eq_false_iff.mpr c14
        subst c14
        have H1 : ((QbU.f (bt a0 x19_2)).bind fun t434 => (if t434 = F then (QaB.l0 k2 a0 (a0.size : Int) (wrap64 (x19_2 + 1))) else (some J))) = some r := by rw [if_neg (show ¬ (J = F) by decide)] at H; exact H
        clear H
        have H := H1
        clear H1
        replace H := Option.bind_eq_some_iff.mp H
        obtain ⟨t434, A160, H⟩ := H
        replace H : (if t434 = F then (QaB.l0 k2 a0 (a0.size : Int) (wrap64 (x19_2 + 1))) else (some J)) = some r := H
        have A16 := Aside0.mk A160
        clear A160
        have p12 : 0 ≤ (x19_2 : Int) := Ze
        have q12 : x19_2 < (a0.size : Int) := Ze
        have hx12 := bt_at a0 x19_2
        replace p12 := eq_true p12
        replace q12 := eq_true q12
        go_upto_if 33 with (first | ((with_reducible refine Qay (f := 202) rfl ?_); refine goesL_ (some 25) rfl rfl Try.func202 (by kernel_rfl) rfl #[.int .u8 (bt a0 x19_2)] rfl (Zl) ?_; (with_reducible refine (QbM.calls (bt a0 x19_2) J _ A13.out).mono ?_); rintro e w' ⟨rfl, ⟨nd, rfl⟩⟩; refine ⟨_, rfl, ?_⟩; have p15 : 0 ≤ (x19_2 : Int) := Ze; have q15 : x19_2 < (a0.size : Int) := Ze; have hx15 := bt_at a0 x19_2; replace p15 := eq_true p15; replace q15 := eq_true q15) | (go_at_call 203; (with_reducible refine (QbU.calls (bt a0 x19_2) t434 _ A16.out).mono ?_); rintro e w' ⟨rfl, ⟨nd, rfl⟩⟩))
        (try simp only [Act.put, Zj, Zk, Zm])
        by_cases c17 : t434 = F
        ·subst c17
         have H1 : (QaB.l0 k2 a0 (a0.size : Int) (wrap64 (x19_2 + 1))) = some r := by rw [if_pos rfl] at H; exact H
         clear H
         have H := H1
         clear H1
         have H' := Aside0.mk H
         clear H
         go_wp2
         go_roundg k2
         case measure => have := HJ1.out; have := HK2.out; omega
         case rel => exact ⟨(wrap64 (x19_2 + 1)), (Zs), H', ⟨by have := HJ1.out; have := HK2.out; omega⟩, Zd⟩
        replace c17 := Bool.eq_false_iff.mpr c17
        subst c17
        have H1 : (some J) = some r := by rw [if_neg (show ¬ (J = F) by decide)] at H; exact H
        clear H
        have H := H1
        clear H1
        obtain rfl := Option.some.inj H
        go_wp2
        go_ret
        exact ⟨Zs, Zd⟩
       rw [if_neg c11] at H
       exact absurd H (by simp)
      rw [if_neg c10] at H
      exact absurd H (by simp)
     rw [if_neg c9] at H
     have c9b0 : decide (x19_2 < (a0.size : Int)) = J := decide_eq_false c9
     clear c9
     (try simp only [c9b0])
     obtain rfl := Option.some.inj H
     go_wp2
     go_ret
     exact ⟨Zs, Zd⟩
def QbY.f (a0 : Int) : Option (Bool) := if a0 ≥ 0 then (some (decide (a0 ≤ 73048))) else (some J)
set_option maxHeartbeats 8000000 in
theorem QbY.calls (a0 : Int) (r : Bool) (w : World) (h : QbY.f a0 = some r) :
  Calls Try.prog 126 #[.int .i64 a0] w fun e w' => e = .returned (.bool r) ∧ Drawn0 w w' := by
 have H : (if a0 ≥ 0 then (some (decide (a0 ≤ 73048))) else (some J)) = some r := h
 clear h
 by_cases c2 : a0 ≥ 0
 ·rw [if_pos c2] at H
  have c2b0 : decide (0 ≤ a0) = F := decide_eq_true c2
  clear c2
  obtain rfl := Option.some.inj H
  go_enter Try.func126, Try.ntmps126
  go_wp2
  go_ret
  exact ⟨Zs, Zd⟩
 rw [if_neg c2] at H
 have c2b0 : decide (0 ≤ a0) = J := decide_eq_false c2
 clear c2
 obtain rfl := Option.some.inj H
 go_enter Try.func126, Try.ntmps126
 go_wp2
 go_ret
 exact ⟨Zs, Zd⟩
mutual
def QaK.j0 : Nat → Int → Int → Int → Bool → Option (Int)
 | 0, _, _, _, _ => none
 | k + 1, x1, x2, x3, x9 => if x9 = F then (some 10) else (if x1 < 1 then (QaK.j1 k x3 F) else (if x1 > 1152921504606846976 then (QaK.j1 k x3 F) else (if x2 < 0 then (QaK.j1 k x3 F) else (QaK.j1 k x3 (decide (x2 > x1))))))
def QaK.j1 : Nat → Int → Bool → Option (Int)
 | 0, _, _ => none
 | k + 1, x3, x20 => if x20 = F then (some 2) else ((QbY.f x3).bind fun t834 => (if t834 = F then (some 0) else (some 15)))
end
def QaK.f (k : Nat) (a0_0 : ByteArray) (a0_1 : ByteArray) (a1 : Int) (a2 : Int) (a3 : Int) : Option (Int) := (QaB.f k a0_0).bind fun t832 => (if t832 = F then ((QaB.f k a0_1).bind fun t833 => (QaK.j0 k a1 a2 a3 (!t833))) else (QaK.j0 k a1 a2 a3 F))
theorem QaK.mono_l : ∀ k, (∀ y0 y1 y2 y3, LeO (QaK.j0 k y0 y1 y2 y3) (QaK.j0 (k + 1) y0 y1 y2 y3)) ∧ (∀ y0 y1, LeO (QaK.j1 k y0 y1) (QaK.j1 (k + 1) y0 y1))
 | 0 => ⟨fun _ _ _ _ r h => by simp [QaK.j0] at h, fun _ _ r h => by simp [QaK.j1] at h⟩
 | k + 1 => by
  obtain ⟨ih0, ih1⟩ := QaK.mono_l k
  refine ⟨?_, ?_⟩
  ·intro y0 y1 y2 y3
   unfold QaK.j0
   exact ZM3 ih0 ih1 QaB.mono
  intro y0 y1
  unfold QaK.j1
  exact ZM3 ih0 ih1 QaB.mono
theorem QaK.mono : ∀ a0 a1 a2 a3 a4 k, LeO (QaK.f k a0 a1 a2 a3 a4) (QaK.f (k + 1) a0 a1 a2 a3 a4) := by
 intro a0 a1 a2 a3 a4 k
 obtain ⟨ih0, ih1⟩ := QaK.mono_l k
 unfold QaK.f
 exact ZM3 ih0 ih1 QaB.mono
set_option maxHeartbeats 8000000 in
theorem QaK.calls (k : Nat) (a0_0 : ByteArray) (a0_1 : ByteArray) (a1 : Int) (a2 : Int) (a3 : Int) (r : Int) (w : World) (h : QaK.f k a0_0 a0_1 a1 a2 a3 = some r) :
  Calls Try.prog 116 #[.agg #[.string a0_0, .string a0_1], .int .i64 a1, .int .i64 a2, .int .i64 a3] w fun e w' => e = .returned (.int .i64 r) ∧ Below w.heap.size w w' := by
 have hu81 := Try.underlying81
 have HB := Aside0.mk (Below.refl w.heap.size w)
 have H : ((QaB.f k a0_0).bind fun t832 => (if t832 = F then ((QaB.f k a0_1).bind fun t833 => (QaK.j0 k a1 a2 a3 (!t833))) else (QaK.j0 k a1 a2 a3 F))) = some r := h
 clear h
 have HC5 := Aside0.mk H
 clear H
 go_enter Try.func116, Try.ntmps116
 go_upto_region 1 with (first | ((with_reducible refine QaT (N := 4) rfl ?_); refine Zbx (N := 4) (cs := #[.string a0_0, .string a0_1]) (t := 81) ?_; intro gb831 hg w6 hbox hb; have BK831 := Aside0.mk (hbox); have GW831 := Aside0.mk (Zt w hg (Zb)); have GE831 := GW831; replace HB := Aside0.mk (Qap (Zb) hb); clear hb hbox hg))
 (try simp only [Act.put, Zj, Zk, Zm])
 go_cut [9] (fun v9 wc => ∃ (kq : Nat) (x9_4 : Bool), v9 = .bool x9_4 ∧ Aside0 (QaK.j0 kq a1 a2 a3 x9_4 = some r) ∧ Aside0 (kq ≤ k) ∧ Aside0 (wc.heap[gb831]? = some (.cells #[.string a0_0, .string a0_1] 81 (0, 0))) ∧ Aside0 (Below w.heap.size w wc))
 case first =>
  have H := HC5.out
  clear HC5
  replace H := Option.bind_eq_some_iff.mp H
  obtain ⟨t832, A70, H⟩ := H
  replace H : (if t832 = F then ((QaB.f k a0_1).bind fun t833 => (QaK.j0 k a1 a2 a3 (!t833))) else (QaK.j0 k a1 a2 a3 F)) = some r := H
  have A7 := Aside0.mk A70
  clear A70
  by_cases c8 : t832 = F
  ·subst c8
   have H1 : ((QaB.f k a0_1).bind fun t833 => (QaK.j0 k a1 a2 a3 (!t833))) = some r := by rw [if_pos rfl] at H; exact H
   clear H
   have H := H1
   clear H1
   replace H := Option.bind_eq_some_iff.mp H
   obtain ⟨t833, A90, H⟩ := H
   replace H : (QaK.j0 k a1 a2 a3 (!t833)) = some r := H
   have A9 := Aside0.mk A90
   clear A90
   have H' := Aside0.mk H
   clear H
   obtain ⟨hcz10_0, hfz10_0⟩ := Zy (v := (.string a0_0)) BK831.out 0
   obtain ⟨hcz10_1, hfz10_1⟩ := Zy (v := (.string a0_1)) BK831.out 1
   go_wp2_with (first | ((with_reducible refine Qay (f := 146) rfl ?_); refine goesL_ (some 12) rfl rfl Try.func146 (by kernel_rfl) rfl #[.string a0_0] rfl (Zl) ?_; (with_reducible refine (QaB.calls k a0_0 F _ A7.out).mono ?_); rintro e w' ⟨rfl, ⟨nd, rfl⟩⟩; refine ⟨_, rfl, ?_⟩) | (go_at_call 146; (with_reducible refine (QaB.calls k a0_1 t833 _ A9.out).mono ?_); rintro e w' ⟨rfl, ⟨nd, rfl⟩⟩))
   go_meet
   case rel => exact ⟨_, (!t833), (Zs), H', ⟨by first | omega | exact Nat.le_refl _⟩, ⟨Zu BK831.out⟩, ⟨Zc1 GE831.out⟩⟩
  replace c8 := Bool.eq_false_iff.mpr c8
  subst c8
  have H1 : (QaK.j0 k a1 a2 a3 F) = some r := by rw [if_neg (show ¬ (J = F) by decide)] at H; exact H
  clear H
  have H := H1
  clear H1
  have H' := Aside0.mk H
  clear H
  obtain ⟨hcz11_0, hfz11_0⟩ := Zy (v := (.string a0_0)) BK831.out 0
  obtain ⟨hcz11_1, hfz11_1⟩ := Zy (v := (.string a0_1)) BK831.out 1
  go_wp2_with (first | ((with_reducible refine Qay (f := 146) rfl ?_); refine goesL_ (some 12) rfl rfl Try.func146 (by kernel_rfl) rfl #[.string a0_0] rfl (Zl) ?_; (with_reducible refine (QaB.calls k a0_0 J _ A7.out).mono ?_); rintro e w' ⟨rfl, ⟨nd, rfl⟩⟩; refine ⟨_, rfl, ?_⟩))
  go_meet
  case rel => exact ⟨_, (F), (Zs), H', ⟨by first | omega | exact Nat.le_refl _⟩, ⟨Zu BK831.out⟩, ⟨Zc1 GE831.out⟩⟩
 case rest =>
  clear HC5
  try clear c1
  try clear p2
  try clear c8
  try clear c11
  try clear hcz10_0
  try clear hcz10_1
  try clear hcz11_0
  try clear hcz11_1
  try clear hfz10_0
  try clear hfz10_1
  try clear hfz11_0
  try clear hfz11_1
  obtain ⟨kq, x9_4, rfl, HA, HJ4, BK831, HB⟩ := hcut
  cases kq with
  | zero => exact absurd HA.out (by simp [QaK.j0])
  | succ kj4 =>
   have H := HA.out
   clear HA
   simp only [QaK.j0] at H
   by_cases c12 : x9_4 = F
   ·subst c12
    have H1 : (some 10) = some r := by rw [if_pos rfl] at H; exact H
    clear H
    have H := H1
    clear H1
    obtain rfl := Option.some.inj H
    go_wp2
    go_ret
    exact ⟨Zq, Zc1 GE831.out⟩
   replace c12 := Bool.eq_false_iff.mpr c12
   subst c12
   have H1 : (if a1 < 1 then (QaK.j1 kj4 a3 F) else (if a1 > 1152921504606846976 then (QaK.j1 kj4 a3 F) else (if a2 < 0 then (QaK.j1 kj4 a3 F) else (QaK.j1 kj4 a3 (decide (a2 > a1)))))) = some r := by rw [if_neg (show ¬ (J = F) by decide)] at H; exact H
   clear H
   have H := H1
   clear H1
   have HC13 := Aside0.mk H
   clear H
   go_upto_region 3 with (fail)
   go_cut [20] (fun v20 wc => ∃ (kq : Nat) (x20_12 : Bool), v20 = .bool x20_12 ∧ Aside0 (QaK.j1 kq a3 x20_12 = some r) ∧ Aside0 (kq ≤ kj4) ∧ Aside0 (wc.heap[gb831]? = some (.cells #[.string a0_0, .string a0_1] 81 (0, 0))) ∧ Aside0 (Below w.heap.size w wc))
   case first =>
    have H := HC13.out
    clear HC13
    by_cases c14 : a1 < 1
    ·rw [if_pos c14] at H
     have c14b0 : decide (a1 < 1) = F := decide_eq_true c14
     clear c14
     have H' := Aside0.mk H
     clear H
     go_wp2
     go_meet
     case rel => exact ⟨_, (F), (Zs), H', ⟨by have := HJ4.out; first | omega | exact Nat.le_refl _⟩, ⟨Zu BK831.out⟩, ⟨Zc1 GE831.out⟩⟩
    rw [if_neg c14] at H
    have c14b0 : decide (a1 < 1) = J := decide_eq_false c14
    clear c14
    by_cases c15 : a1 > 1152921504606846976
    ·rw [if_pos c15] at H
     have c15b0 : decide (1152921504606846976 < a1) = F := decide_eq_true c15
     clear c15
     have H' := Aside0.mk H
     clear H
     go_wp2
     go_meet
     case rel => exact ⟨_, (F), (Zs), H', ⟨by have := HJ4.out; first | omega | exact Nat.le_refl _⟩, ⟨Zu BK831.out⟩, ⟨Zc1 GE831.out⟩⟩
    rw [if_neg c15] at H
    have c15b0 : decide (1152921504606846976 < a1) = J := decide_eq_false c15
    clear c15
    by_cases c16 : a2 < 0
    ·rw [if_pos c16] at H
     have c16b0 : decide (a2 < 0) = F := decide_eq_true c16
     clear c16
     have H' := Aside0.mk H
     clear H
     go_wp2
     go_meet
     case rel => exact ⟨_, (F), (Zs), H', ⟨by have := HJ4.out; first | omega | exact Nat.le_refl _⟩, ⟨Zu BK831.out⟩, ⟨Zc1 GE831.out⟩⟩
    rw [if_neg c16] at H
    have c16b0 : decide (a2 < 0) = J := decide_eq_false c16
    clear c16
    have H' := Aside0.mk H
    clear H
    go_wp2
    go_meet
    case rel => exact ⟨_, (decide (a2 > a1)), (Zs), H', ⟨by have := HJ4.out; first | omega | exact Nat.le_refl _⟩, ⟨Zu BK831.out⟩, ⟨Zc1 GE831.out⟩⟩
   case rest =>
    clear HC13
    try clear c1
    try clear p2
    try clear c8
    try clear c11
    try clear c12
    try clear c14
    try clear c14b0
    try clear c15
    try clear c15b0
    try clear c16
    try clear c16b0
    try clear hcz10_0
    try clear hcz10_1
    try clear hcz11_0
    try clear hcz11_1
    try clear hfz10_0
    try clear hfz10_1
    try clear hfz11_0
    try clear hfz11_1
    try clear p2
    obtain ⟨kq, x20_12, rfl, HA, HJ12, BK831, HB⟩ := hcut
    cases kq with
    | zero => exact absurd HA.out (by simp [QaK.j1])
    | succ kj12 =>
     have H := HA.out
     clear HA
     simp only [QaK.j1] at H
     by_cases c17 : x20_12 = F
     ·subst c17
      have H1 : (some 2) = some r := by rw [if_pos rfl] at H; exact H
      clear H
      have H := H1
      clear H1
      obtain rfl := Option.some.inj H
      go_wp2
      go_ret
      exact ⟨Zq, Zc1 GE831.out⟩
     replace c17 := Bool.eq_false_iff.mpr c17
     subst c17
     have H1 : ((QbY.f a3).bind fun t834 => (if t834 = F then (some 0) else (some 15))) = some r := by rw [if_neg (show ¬ (J = F) by decide)] at H; exact H
     clear H
     have H := H1
     clear H1
     replace H := Option.bind_eq_some_iff.mp H
     obtain ⟨t834, A180, H⟩ := H
     replace H : (if t834 = F then (some 0) else (some 15)) = some r := H
     have A18 := Aside0.mk A180
     clear A180
     go_upto_if 36 with (first | ((with_reducible refine Qay (f := 126) rfl ?_); refine goesL_ (some 38) rfl rfl Try.func126 (by kernel_rfl) rfl #[.int .i64 a3] rfl (Zl) ?_; (with_reducible refine (QbY.calls a3 t834 _ A18.out).mono ?_); rintro e w' ⟨rfl, ⟨nd, rfl⟩⟩; refine ⟨_, rfl, ?_⟩))
     (try simp only [Act.put, Zj, Zk, Zm])
     by_cases c19 : t834 = F
     ·subst c19
      have H1 : (some 0) = some r := by rw [if_pos rfl] at H; exact H
      clear H
      have H := H1
      clear H1
      obtain rfl := Option.some.inj H
      go_wp2
      go_ret
      exact ⟨Zq, Zc1 GE831.out⟩
     replace c19 := Bool.eq_false_iff.mpr c19
     subst c19
     have H1 : (some 15) = some r := by rw [if_neg (show ¬ (J = F) by decide)] at H; exact H
     clear H
     have H := H1
     clear H1
     obtain rfl := Option.some.inj H
     go_wp2
     go_ret
     exact ⟨Zq, Zc1 GE831.out⟩
mutual
def QaL.l0 : Nat → Int → List (S226) → Int → Int → Option (Int)
 | 0, _, _, _, _ => none
 | k + 1, x3, x9, x10, x11 => if x11 < x10 then (if 0 ≤ x11 then (if x11 < (x9.length : Int) then (if ((Qan x9 x11).f0) ≤ x3 then (QaL.j1 k x9 x10 x11 F ((Qan x9 x11).f0) ((Qan x9 x11).f1.f0) ((Qan x9 x11).f1.f1) ((Qan x9 x11).f2) ((Qan x9 x11).f3) ((Qan x9 x11).f4)) else (QaL.j1 k x9 x10 x11 (decide (((Qan x9 x11).f0) > 1152921504606846976)) ((Qan x9 x11).f0) ((Qan x9 x11).f1.f0) ((Qan x9 x11).f1.f1) ((Qan x9 x11).f2) ((Qan x9 x11).f3) ((Qan x9 x11).f4))) else (none)) else (none)) else (some 0)
def QaL.j1 : Nat → List (S226) → Int → Int → Bool → Int → ByteArray → ByteArray → Int → Int → Int → Option (Int)
 | 0, _, _, _, _, _, _, _, _, _, _ => none
 | k + 1, x9, x10, x11, x23, x837000, x837001, x837002, x837003, x837004, x837005 => if x23 = F then (some 2) else ((QaK.f k x837001 x837002 x837003 x837005 x837004).bind fun t837 => (if t837 = 0 then (QaL.l0 k x837000 x9 x10 (wrap64 (x11 + 1))) else (some t837)))
end
def QaL.f (k : Nat) (l0 : List (S226)) : Option (Int) := if (l0.length : Int) > 1024 then (some 8) else (QaL.l0 k 0 l0 (l0.length : Int) 0)
theorem QaL.mono_l : ∀ k, (∀ y0 y1 y2 y3, LeO (QaL.l0 k y0 y1 y2 y3) (QaL.l0 (k + 1) y0 y1 y2 y3)) ∧ (∀ y0 y1 y2 y3 y4 y5 y6 y7 y8 y9, LeO (QaL.j1 k y0 y1 y2 y3 y4 y5 y6 y7 y8 y9) (QaL.j1 (k + 1) y0 y1 y2 y3 y4 y5 y6 y7 y8 y9))
 | 0 => ⟨fun _ _ _ _ r h => by simp [QaL.l0] at h, fun _ _ _ _ _ _ _ _ _ _ r h => by simp [QaL.j1] at h⟩
 | k + 1 => by
  obtain ⟨ih0, ih1⟩ := QaL.mono_l k
  refine ⟨?_, ?_⟩
  ·intro y0 y1 y2 y3
   unfold QaL.l0
   exact ZM3 ih0 ih1 QaK.mono
  intro y0 y1 y2 y3 y4 y5 y6 y7 y8 y9
  unfold QaL.j1
  exact ZM3 ih0 ih1 QaK.mono
theorem QaL.mono : ∀ a0 k, LeO (QaL.f k a0) (QaL.f (k + 1) a0) := by
 intro a0 k
 obtain ⟨ih0, ih1⟩ := QaL.mono_l k
 unfold QaL.f
 exact ZM3 ih0 ih1 QaK.mono
set_option maxHeartbeats 8000000 in
theorem QaL.calls (k : Nat) (A0 : Option Addr) (c0 : Nat) (l0 : List (S226)) (r : Int) (w : World) (hr0 : Kd.C k226 w A0 l0.length l0) (hc0 : l0.length ≤ c0) (h : QaL.f k l0 = some r) :
  Calls Try.prog 115 #[.slice A0 l0.length c0] w fun e w' => e = .returned (.int .i64 r) ∧ Below w.heap.size w w' := by
 have hu226 := Try.underlying226
 have hu81 := Try.underlying81
 have HR0 := Aside0.mk hr0
 have HC0 := Aside0.mk hc0
 clear hr0 hc0
 have HB := Aside0.mk (Below.refl w.heap.size w)
 have H : (if (l0.length : Int) > 1024 then (some 8) else (QaL.l0 k 0 l0 (l0.length : Int) 0)) = some r := h
 clear h
 by_cases c2 : (l0.length : Int) > 1024
 ·rw [if_pos c2] at H
  have c2b0 : decide (1024 < (l0.length : Int)) = F := decide_eq_true c2
  have c2b1 : decide (1024 < l0.length) = F := decide_eq_true (by omega)
  clear c2
  obtain rfl := Option.some.inj H
  go_enter Try.func115, Try.ntmps115
  go_wp2
  go_ret
  exact ⟨Zq, Zb⟩
 rw [if_neg c2] at H
 have c2b0 : decide (1024 < (l0.length : Int)) = J := decide_eq_false c2
 have c2b1 : decide (1024 < l0.length) = J := decide_eq_false (by omega)
 clear c2
 have H' := Aside0.mk H
 clear H
 go_enter Try.func115, Try.ntmps115
 go_wp2
 go_loopg [3, 11] k (fun kq v3 v11 w' => ∃ (x3_1 : Int) (x11_1 : Int), v3 = .int .i64 x3_1 ∧ v11 = .int .i64 x11_1 ∧ Aside0 (QaL.l0 kq x3_1 l0 (l0.length : Int) x11_1 = some r) ∧ Aside0 (kq ≤ k) ∧ Aside0 (Below w.heap.size w w'))
 case atStart => exact ⟨(0), (0), (Zs), (Zs), H', ⟨Nat.le_refl _⟩, ⟨Zb⟩⟩
 case round =>
  clear H'
  try clear c1
  try clear c2
  try clear c2b0
  try clear c2b1
  try clear p2
  obtain ⟨x3_1, x11_1, rfl, rfl, HA, HK1, HB⟩ := hrel
  cases gk with
  | zero => exact absurd HA.out (by simp [QaL.l0])
  | succ k1 =>
   have H := HA.out
   clear HA
   simp only [QaL.l0] at H
   by_cases c3 : x11_1 < (l0.length : Int)
   ·rw [if_pos c3] at H
    have c3b0 : decide (x11_1 < (l0.length : Int)) = F := decide_eq_true c3
    clear c3
    (try simp only [c3b0])
    by_cases c4 : 0 ≤ x11_1
    ·rw [if_pos c4] at H
     have c4b0 : decide (0 ≤ x11_1) = F := decide_eq_true c4
     clear c4
     by_cases c5 : x11_1 < (l0.length : Int)
     ·rw [if_pos c5] at H
      have c5b0 : decide (x11_1 < (l0.length : Int)) = F := decide_eq_true c5
      clear c5
      have HC6 := Aside0.mk H
      clear H
      have p835 : 0 ≤ (x11_1 : Int) := Ze
      have q835 : x11_1 < (l0.length : Int) := Ze
      obtain ⟨ad835, e835, hx835_0, hx835_1, hx835_2, hx835_3, hx835_4, hx835_5⟩ := Qb1 HR0.out x11_1 p835 q835
      cases e835
      replace hx835_0 := Zx HB.out hx835_0
      replace hx835_1 := Zx HB.out hx835_1
      replace hx835_2 := Zx HB.out hx835_2
      replace hx835_3 := Zx HB.out hx835_3
      replace hx835_4 := Zx HB.out hx835_4
      replace hx835_5 := Zx HB.out hx835_5
      replace p835 := eq_true p835
      replace q835 := eq_true q835
      go_upto_region 7 with (first | ((with_reducible refine QaT (N := 5) rfl ?_); refine Zbx (N := 5) (cs := #[.int .i64 0, .string (⟨#[]⟩ : ByteArray), .string (⟨#[]⟩ : ByteArray), .int .i64 0, .int .i64 0, .int .i64 0]) (t := 226) ?_; intro gb836 hg w7 hbox hb; have BK836 := Aside0.mk (hbox); have GW836 := Aside0.mk (Zt w hg (Zb)); have GE836 := GW836; replace HB := Aside0.mk (Qap (Zb) hb); clear hb hbox hg; obtain ⟨hcz8_0, hfz8_0⟩ := Zy (v := (.int .i64 0)) BK836.out 0; obtain ⟨hcz8_1, hfz8_1⟩ := Zy (v := (.string (⟨#[]⟩ : ByteArray))) BK836.out 1; obtain ⟨hcz8_2, hfz8_2⟩ := Zy (v := (.string (⟨#[]⟩ : ByteArray))) BK836.out 2; obtain ⟨hcz8_3, hfz8_3⟩ := Zy (v := (.int .i64 0)) BK836.out 3; obtain ⟨hcz8_4, hfz8_4⟩ := Zy (v := (.int .i64 0)) BK836.out 4; obtain ⟨hcz8_5, hfz8_5⟩ := Zy (v := (.int .i64 0)) BK836.out 5))
      (try simp only [Act.put, Zj, Zk, Zm])
      go_cut [23] (fun v23 wc => ∃ (kq : Nat) (x23_5 : Bool), v23 = .bool x23_5 ∧ Aside0 (QaL.j1 kq l0 (l0.length : Int) x11_1 x23_5 ((Qan l0 x11_1).f0) ((Qan l0 x11_1).f1.f0) ((Qan l0 x11_1).f1.f1) ((Qan l0 x11_1).f2) ((Qan l0 x11_1).f3) ((Qan l0 x11_1).f4) = some r) ∧ Aside0 (kq ≤ k1) ∧ Aside0 (wc.heap[gb836]? = some (.cells #[.int .i64 ((Qan l0 x11_1).f0), .string ((Qan l0 x11_1).f1.f0), .string ((Qan l0 x11_1).f1.f1), .int .i64 ((Qan l0 x11_1).f2), .int .i64 ((Qan l0 x11_1).f3), .int .i64 ((Qan l0 x11_1).f4)] 226 (0, 0))) ∧ Aside0 (Below w.heap.size w wc))
      case first =>
       have H := HC6.out
       clear HC6
       by_cases c9 : ((Qan l0 x11_1).f0) ≤ x3_1
       ·rw [if_pos c9] at H
        have c9b0 : decide (((Qan l0 x11_1).f0) ≤ x3_1) = F := decide_eq_true c9
        clear c9
        have H' := Aside0.mk H
        clear H
        obtain ⟨hcz10_0, hfz10_0⟩ := Zy (v := (.int .i64 0)) BK836.out 0
        obtain ⟨hcz10_1, hfz10_1⟩ := Zy (v := (.string (⟨#[]⟩ : ByteArray))) BK836.out 1
        obtain ⟨hcz10_2, hfz10_2⟩ := Zy (v := (.string (⟨#[]⟩ : ByteArray))) BK836.out 2
        obtain ⟨hcz10_3, hfz10_3⟩ := Zy (v := (.int .i64 0)) BK836.out 3
        obtain ⟨hcz10_4, hfz10_4⟩ := Zy (v := (.int .i64 0)) BK836.out 4
        obtain ⟨hcz10_5, hfz10_5⟩ := Zy (v := (.int .i64 0)) BK836.out 5
        go_wp2
        go_meet
        case rel => exact ⟨_, (F), (Zs), H', ⟨by have := HK1.out; first | omega | exact Nat.le_refl _⟩, ⟨Zp2 BK836.out⟩, ⟨Zc1 GE836.out⟩⟩
       rw [if_neg c9] at H
       have c9b0 : decide (((Qan l0 x11_1).f0) ≤ x3_1) = J := decide_eq_false c9
       clear c9
       have H' := Aside0.mk H
       clear H
       obtain ⟨hcz11_0, hfz11_0⟩ := Zy (v := (.int .i64 0)) BK836.out 0
       obtain ⟨hcz11_1, hfz11_1⟩ := Zy (v := (.string (⟨#[]⟩ : ByteArray))) BK836.out 1
       obtain ⟨hcz11_2, hfz11_2⟩ := Zy (v := (.string (⟨#[]⟩ : ByteArray))) BK836.out 2
       obtain ⟨hcz11_3, hfz11_3⟩ := Zy (v := (.int .i64 0)) BK836.out 3
       obtain ⟨hcz11_4, hfz11_4⟩ := Zy (v := (.int .i64 0)) BK836.out 4
       obtain ⟨hcz11_5, hfz11_5⟩ := Zy (v := (.int .i64 0)) BK836.out 5
       go_wp2
       go_meet
       case rel => exact ⟨_, (decide (((Qan l0 x11_1).f0) > 1152921504606846976)), (Zs), H', ⟨by have := HK1.out; first | omega | exact Nat.le_refl _⟩, ⟨Zp2 BK836.out⟩, ⟨Zc1 GE836.out⟩⟩
      case rest =>
       clear HC6
       try clear c1
       try clear c2
       try clear c2b0
       try clear c2b1
       try clear p2
       try clear c3
       try clear c3b0
       try clear c4
       try clear c4b0
       try clear c5
       try clear c5b0
       try clear p8
       try clear q8
       try clear hx8
       try clear c9
       try clear c9b0
       try clear c11
       try clear hcz10_0
       try clear hcz10_1
       try clear hcz10_2
       try clear hcz10_3
       try clear hcz10_4
       try clear hcz10_5
       try clear hcz11_0
       try clear hcz11_1
       try clear hcz11_2
       try clear hcz11_3
       try clear hcz11_4
       try clear hcz11_5
       try clear hcz8_0
       try clear hcz8_1
       try clear hcz8_2
       try clear hcz8_3
       try clear hcz8_4
       try clear hcz8_5
       try clear hfz10_0
       try clear hfz10_1
       try clear hfz10_2
       try clear hfz10_3
       try clear hfz10_4
       try clear hfz10_5
       try clear hfz11_0
       try clear hfz11_1
       try clear hfz11_2
       try clear hfz11_3
       try clear hfz11_4
       try clear hfz11_5
       try clear hfz8_0
       try clear hfz8_1
       try clear hfz8_2
       try clear hfz8_3
       try clear hfz8_4
       try clear hfz8_5
       try clear hx835_0
       try clear hx835_1
       try clear hx835_2
       try clear hx835_3
       try clear hx835_4
       try clear hx835_5
       try clear p2
       try clear p835
       try clear q835
       obtain ⟨kq, x23_5, rfl, HA, HJ5, BK836, HB⟩ := hcut
       cases kq with
       | zero => exact absurd HA.out (by simp [QaL.j1])
       | succ kj5 =>
        have H := HA.out
        clear HA
        simp only [QaL.j1] at H
        by_cases c12 : x23_5 = F
        ·subst c12
         have H1 : (some 2) = some r := by rw [if_pos rfl] at H; exact H
         clear H
         have H := H1
         clear H1
         obtain rfl := Option.some.inj H
         go_wp2
         go_ret
         exact ⟨Zq, Zc1 GE836.out⟩
        replace c12 := Bool.eq_false_iff.mpr c12
        subst c12
        have H1 : ((QaK.f kj5 ((Qan l0 x11_1).f1.f0) ((Qan l0 x11_1).f1.f1) ((Qan l0 x11_1).f2) ((Qan l0 x11_1).f4) ((Qan l0 x11_1).f3)).bind fun t837 => (if t837 = 0 then (QaL.l0 kj5 ((Qan l0 x11_1).f0) l0 (l0.length : Int) (wrap64 (x11_1 + 1))) else (some t837))) = some r := by rw [if_neg (show ¬ (J = F) by decide)] at H; exact H
        clear H
        have H := H1
        clear H1
        replace H := Option.bind_eq_some_iff.mp H
        obtain ⟨t837, A130, H⟩ := H
        replace H : (if t837 = 0 then (QaL.l0 kj5 ((Qan l0 x11_1).f0) l0 (l0.length : Int) (wrap64 (x11_1 + 1))) else (some t837)) = some r := H
        have A13 := Aside0.mk A130
        clear A130
        obtain ⟨hcz14_0, hfz14_0⟩ := Zy (v := (.int .i64 ((Qan l0 x11_1).f0))) BK836.out 0
        obtain ⟨hcz14_1, hfz14_1⟩ := Zy (v := (.string ((Qan l0 x11_1).f1.f0))) BK836.out 1
        obtain ⟨hcz14_2, hfz14_2⟩ := Zy (v := (.string ((Qan l0 x11_1).f1.f1))) BK836.out 2
        obtain ⟨hcz14_3, hfz14_3⟩ := Zy (v := (.int .i64 ((Qan l0 x11_1).f2))) BK836.out 3
        obtain ⟨hcz14_4, hfz14_4⟩ := Zy (v := (.int .i64 ((Qan l0 x11_1).f3))) BK836.out 4
        obtain ⟨hcz14_5, hfz14_5⟩ := Zy (v := (.int .i64 ((Qan l0 x11_1).f4))) BK836.out 5
        go_upto_if 36 with (first | ((with_reducible refine Qay (f := 116) rfl ?_); refine goesL_ (some 34) rfl rfl Try.func116 (by kernel_rfl) rfl #[.agg #[.string ((Qan l0 x11_1).f1.f0), .string ((Qan l0 x11_1).f1.f1)], .int .i64 ((Qan l0 x11_1).f2), .int .i64 ((Qan l0 x11_1).f4), .int .i64 ((Qan l0 x11_1).f3)] rfl (Zl) ?_; (with_reducible refine (QaK.calls kj5 ((Qan l0 x11_1).f1.f0) ((Qan l0 x11_1).f1.f1) ((Qan l0 x11_1).f2) ((Qan l0 x11_1).f4) ((Qan l0 x11_1).f3) t837 _ A13.out).mono ?_); rintro e w15 ⟨rfl, hb⟩; refine ⟨_, rfl, ?_⟩; replace BK836 := Aside0.mk (Zi BK836.out hb); replace HB := Aside0.mk (Qap (Zc1 GE836.out) hb); (try clear hb); (try clear hb2); (try clear hk); (try clear hi)))
        (try simp only [Act.put, Zj, Zk, Zm])
        by_cases c16 : t837 = 0
        ·rw [if_pos c16] at H
         have c16b0 : (t837 == 0) = F := beq_iff_eq.mpr c16
         have c16b1 : (t837 != 0) = J := bne_eq_false_iff_eq.mpr c16
         clear c16
         (try simp only [c16b0, c16b1])
         have H' := Aside0.mk H
         clear H
         go_wp2
         go_roundg kj5
         case measure => have := HK1.out; have := HJ5.out; omega
         case rel => exact ⟨(((Qan l0 x11_1).f0)), (wrap64 (x11_1 + 1)), (Zs), (Zs), H', ⟨by have := HK1.out; have := HJ5.out; omega⟩, ⟨Zc1 GE836.out⟩⟩
        rw [if_neg c16] at H
        have c16b0 : (t837 == 0) = J := beq_eq_false_iff_ne.mpr c16
        have c16b1 : (t837 != 0) = F := bne_iff_ne.mpr c16
        (try simp only [c16b0, c16b1])
        obtain rfl := Option.some.inj H
        go_wp2
        go_ret
        exact ⟨Zq, Zc1 GE836.out⟩
     rw [if_neg c5] at H
     exact absurd H (by simp)
    rw [if_neg c4] at H
    exact absurd H (by simp)
   rw [if_neg c3] at H
   have c3b0 : decide (x11_1 < (l0.length : Int)) = J := decide_eq_false c3
   clear c3
   (try simp only [c3b0])
   obtain rfl := Option.some.inj H
   go_wp2
   go_ret
   exact ⟨Zq, Zb⟩
def QaA.f (l0 : List (S226)) : Option (List (S226)) := (some (([] : List (S226)) : List (S226))).bind fun y491 => (if y491.length + l0.length < 2199023255552 then (some (y491 ++ l0)) else (none))
theorem QbL.clear_one {P : Program} (w : World) (t e ty : TypeId) (z : Value) (zs : List Value) (ht : P.underlying t = some (.slice e)) (hv : ∀ w, (zeroValue e).run P w = .ok z w) (hzc : (Builtin.zeroCells z.cells 1).toList = zs) (g c : Nat) (hc : ∀ j, j < zs.length → (w.cell? ⟨g, j, none⟩).isSome = F) (hf : ∀ j, j < zs.length → w.frozen? ⟨g, j, none⟩ = J) (h1 : ∀ v ∈ zs, v.oneCell' = F) :
  (Builtin.clear_ #[t] ty #[.slice (some ⟨g, 0, none⟩) 1 c]).run P w = .ok (.tuple #[]) (w.setCells g 0 zs) := by
 have hst := run_storeCells_cells (P := P) g 0 zs 0 w (by simpa using hc) (by simpa using hf) h1
 simp only [Nat.add_zero] at hst
 simp [Builtin.clear_, run_underlying ht, hv, hzc, hst]
theorem QbL.info : (Try.prog.info? 226).map (fun i => (i.zero, i.size, i.bytes)) = some (some (.agg #[.int .i64 0, .string ⟨#[]⟩, .string ⟨#[]⟩, .int .i64 0, .int .i64 0, .int .i64 0]), 6, 64) := by kernel_rfl
set_option maxHeartbeats 8000000 in
theorem QaA.calls_some (A00 : Addr) (c0 : Nat) (l0 : List (S226)) (r : List (S226)) (w : World) (hr0 : Kd.C k226 w (some A00) l0.length l0) (hc0 : l0.length ≤ c0) (h : QaA.f l0 = some r) :
  Calls Try.prog 117 #[.slice (some A00) l0.length c0] w fun e w' => ∃ v0_ : Value, e = .returned (v0_) ∧ Kd.R k226 226 w' w.heap.size (fun _ => True) v0_ r ∧ Below w.heap.size w w' := by
 have hsn : ∀ (W : World) (n c : Nat), (binOp .eql 116 (.slice (some A00) n c) (.slice none 0 0)).run Try.prog W = .ok (.bool J) W := fun W n c => Go.run_eql_slice_nil W _ _ (some A00) n c Try.underlying116
 have HR0 := Aside0.mk hr0
 have HC0 := Aside0.mk hc0
 clear hr0 hc0
 have HB := Aside0.mk (Below.refl w.heap.size w)
 have H : ((some (([] : List (S226)) : List (S226))).bind fun y491 => (if y491.length + l0.length < 2199023255552 then (some (y491 ++ l0)) else (none))) = some r := h
 clear h
 obtain ⟨y491, hy491⟩ : ∃ y_ : List (S226), y_ = (([] : List (S226))) := ⟨_, rfl⟩
 replace H : (if y491.length + l0.length < 2199023255552 then (some (y491 ++ l0)) else (none)) = some r := by first | (rw [hy491]; with_reducible exact H) | (have H2_ := (Option.bind_some _ _).symm.trans H; rw [hy491]; with_reducible exact H2_) | (have H2_ := (Option.bind_some _ _).symm.trans H; with_reducible exact H2_) | with_reducible exact H | (rw [hy491]; exact H) | exact H
 have Ny491 := Aside0.mk hy491
 clear hy491
 by_cases c2 : y491.length + l0.length < 2199023255552
 ·rw [if_pos c2] at H
  have LMc2 := Aside0.mk c2
  clear c2
  obtain ⟨y494, hy494⟩ : ∃ y_ : List (S226), y_ = (y491 ++ l0) := ⟨_, rfl⟩
  replace H : (some y494) = some r := by first | (rw [hy494]; with_reducible exact H) | (have H2_ := (Option.bind_some _ _).symm.trans H; rw [hy494]; with_reducible exact H2_) | (have H2_ := (Option.bind_some _ _).symm.trans H; with_reducible exact H2_) | with_reducible exact H | (rw [hy494]; exact H) | exact H
  have Ny494 := Aside0.mk hy494
  clear hy494
  obtain rfl := Option.some.inj H
  go_enter Try.func117, Try.ntmps117
  go_wp2_with (first | ((with_reducible refine QaT (N := 5) rfl ?_); refine Kd.R_lit k226 _ 226 ?hg (N := 5) ?hd (xs := ([] : List (S226))) (inner := []) (ok := fun _ => True) (okp := fun _ => True) ?hr ?hp (fun _ hk => hk) trivial (Below.refl _ _) (Nat.le_refl _) (by simp) ?_; (case hd => rfl); (case hg => rfl); (case hr => first | (go_simp; done) | (go_simp; rfl)); (case hp => exact (Reps.none _ _)); intro v492 w3 ho4 hb hg_ hnew_; clear hg_ hnew_; (first | rw [← Ny491.out] at ho4 | (simp only [Int.reduceToNat] at ho4; rw [← Ny491.out] at ho4)); have HO493 := Aside0.mk (Kd.R_lower ho4 (Qar (Zb))); replace HB := Aside0.mk (Qap (Zb) hb); clear hb ho4) | ((with_reducible refine QbK (b := .append) (xs := #[.tmp 5, .tmp 6]) rfl ?_); at_builtin; refine Kd.R_append_rows k226 (w0 := w) w.heap.size rfl (.tmp 5) (.tmp 6) 116 226 (.agg #[.int .i64 0, .string ⟨#[]⟩, .string ⟨#[]⟩, .int .i64 0, .int .i64 0, .int .i64 0]) 64 rfl Try.underlying116 QbL.info rfl (by decide) (by omega) v492 y491 l0 _ _ _ (fun _ => True) (fun _ => False) rfl rfl ?aO ?aR (fun _ _ h => h) (fun _ h => h.elim) ?aF ?aB ?aS ?aL ?_; (case aR => exact Zv (Kd.C_below HR0.out HB.out)); (case aB => exact (Zb)); (case aF => exact (fun _ _ => trivial)); (case aO => exact (Zr HO493.out)); (case aS => exact (Qar (Zb))); (case aL => have := LMc2.out; omega); intro v495 w5 ho hb hg hat; rw [← Ny494.out] at ho; have HO496 := Aside0.mk (ho); replace HB := Aside0.mk (hb); clear HO493; clear ho hb hg hat))
  go_ret
  exact ⟨_, Zq, Zr HO496.out, Zb⟩
 rw [if_neg c2] at H
 exact absurd H (by simp)
set_option maxHeartbeats 8000000 in
theorem QaA.calls (A0 : Option Addr) (c0 : Nat) (l0 : List (S226)) (r : List (S226)) (w : World) (hr0 : Kd.C k226 w A0 l0.length l0) (hc0 : l0.length ≤ c0) (h : QaA.f l0 = some r) :
  Calls Try.prog 117 #[.slice A0 l0.length c0] w fun e w' => ∃ v0_ : Value, e = .returned (v0_) ∧ Kd.R k226 226 w' w.heap.size (fun _ => True) v0_ r ∧ Below w.heap.size w w' := by
 cases A0 with
 | some a => exact QaA.calls_some a c0 l0 r w hr0 hc0 h
 | none =>
  have e : l0 = [] := by
   cases l0 with
   | nil => rfl
   | cons x t =>
    obtain ⟨ad, e0, _⟩ := Qb1 hr0 0 (by omega) (by simp)
    cases e0
  subst e
  have hr : r = [] := by
   simp [QaA.f] at h
   exact h
  subst hr
  have hsn : ∀ (W : World) (n c : Nat), (binOp .eql 116 (.slice none n c) (.slice none 0 0)).run Try.prog W = .ok (.bool F) W := fun W n c => Go.run_eql_slice_nil W _ _ none n c Try.underlying116
  clear hr0 hc0 h
  go_enter Try.func117, Try.ntmps117
  go_wp2
  go_ret
  exact ⟨_, rfl, Kd.R_nil _ _ _ _ _, by repeat (first | exact Below.refl _ _ | apply Qag)⟩
def Qbh.f (k : Nat) (l0 : List (S226)) (a1_0 : ByteArray) (a1_1 : ByteArray) (a2 : Int) (a3 : Int) : Option ((List (S226)) × Int × Int) := (QaL.f k l0).bind fun t839 => (if t839 = 0 then ((QaK.f k a1_0 a1_1 a2 0 a3).bind fun t840 => (if t840 = 0 then (if (l0.length : Int) > 0 then (if 0 ≤ (wrap64 ((l0.length : Int) - 1)) then (if (wrap64 ((l0.length : Int) - 1)) < (l0.length : Int) then (if (l0.length : Int) = 1024 then (some (([] : List (S226)), 0, 8)) else (if ((Qan l0 (wrap64 ((l0.length : Int) - 1))).f0) = 1152921504606846976 then (some (([] : List (S226)), 0, 8)) else ((QaA.f l0).bind fun t842 => ((some (([(⟨wrap64 (((Qan l0 (wrap64 ((l0.length : Int) - 1))).f0) + 1), (⟨a1_0, a1_1⟩ : S81), a2, a3, 0⟩ : S226)] : List (S226)) : List (S226))).bind fun y845 => (if t842.length + y845.length < 2199023255552 then (some ((t842 ++ y845), wrap64 (((Qan l0 (wrap64 ((l0.length : Int) - 1))).f0) + 1), 0)) else (none)))))) else (none)) else (none)) else (if (l0.length : Int) = 1024 then (some (([] : List (S226)), 0, 8)) else ((QaA.f l0).bind fun t851 => ((some (([(⟨0 + 1, (⟨a1_0, a1_1⟩ : S81), a2, a3, 0⟩ : S226)] : List (S226)) : List (S226))).bind fun y854 => (if t851.length + y854.length < 2199023255552 then (some ((t851 ++ y854), 0 + 1, 0)) else (none)))))) else (some (([] : List (S226)), 0, t840)))) else (some (([] : List (S226)), 0, t839)))
theorem Qbh.mono : ∀ a0 a1 a2 a3 a4 k, LeO (Qbh.f k a0 a1 a2 a3 a4) (Qbh.f (k + 1) a0 a1 a2 a3 a4) := by
 intro a0 a1 a2 a3 a4 k
 unfold Qbh.f
 exact ZM2 QaL.mono QaK.mono
def Qbh.T12 : Bool × List (List Nat × List Nat) := (F, [([], []), ([0], [0]), ([], []), ([], []), ([], []), ([], []), ([2, 3, 4, 5], [2, 3, 4, 5]), ([6], [6]), ([1, 7, 1], [1, 7]), ([], []), ([8, 8, 0, 1, 2, 3, 4, 5, 6, 7, 8], [8]), ([9, 10, 0, 1, 2, 3, 4, 5, 6, 7, 8, 9, 10], [2, 9]), ([11, 0, 1, 2, 3, 4, 5, 6, 7, 8, 9, 10, 11], [])])
def Qbh.B12 : List Nat := [0, 1, 0, 0, 0, 0, 60, 124, 255, 0, 511, 2047, 4095]
theorem Qbh.tab12 : rtab .any (opsOf Try.f43 12) = Qbh.T12 := by kernel_rfl
theorem Qbh.bits12 : Qcc Qbh.T12.2 Qbh.B12 = F := by kernel_rfl
set_option maxHeartbeats 8000000 in
theorem Qbh.calls (k : Nat) (A0 : Option Addr) (c0 : Nat) (l0 : List (S226)) (a1_0 : ByteArray) (a1_1 : ByteArray) (a2 : Int) (a3 : Int) (r1 : List (S226)) (r2 : Int) (r3 : Int) (w : World) (hr0 : Kd.C k226 w A0 l0.length l0) (hc0 : l0.length ≤ c0) (h : Qbh.f k l0 a1_0 a1_1 a2 a3 = some (r1, r2, r3)) :
  Calls Try.prog 43 #[.slice A0 l0.length c0, .agg #[.string a1_0, .string a1_1], .int .i64 a2, .int .i64 a3] w fun e w' => ∃ v0_ : Value, e = .returned (.tuple #[v0_, .int .i64 r2, .int .i64 r3]) ∧ Kd.R k226 226 w' w.heap.size (fun _ => True) v0_ r1 ∧ Below w.heap.size w w' := by
 have hu81 := Try.underlying81
 have hu226 := Try.underlying226
 have HR0 := Aside0.mk hr0
 have HC0 := Aside0.mk hc0
 clear hr0 hc0
 have HB := Aside0.mk (Below.refl w.heap.size w)
 have H : ((QaL.f k l0).bind fun t839 => (if t839 = 0 then ((QaK.f k a1_0 a1_1 a2 0 a3).bind fun t840 => (if t840 = 0 then (if (l0.length : Int) > 0 then (if 0 ≤ (wrap64 ((l0.length : Int) - 1)) then (if (wrap64 ((l0.length : Int) - 1)) < (l0.length : Int) then (if (l0.length : Int) = 1024 then (some (([] : List (S226)), 0, 8)) else (if ((Qan l0 (wrap64 ((l0.length : Int) - 1))).f0) = 1152921504606846976 then (some (([] : List (S226)), 0, 8)) else ((QaA.f l0).bind fun t842 => ((some (([(⟨wrap64 (((Qan l0 (wrap64 ((l0.length : Int) - 1))).f0) + 1), (⟨a1_0, a1_1⟩ : S81), a2, a3, 0⟩ : S226)] : List (S226)) : List (S226))).bind fun y845 => (if t842.length + y845.length < 2199023255552 then (some ((t842 ++ y845), wrap64 (((Qan l0 (wrap64 ((l0.length : Int) - 1))).f0) + 1), 0)) else (none)))))) else (none)) else (none)) else (if (l0.length : Int) = 1024 then (some (([] : List (S226)), 0, 8)) else ((QaA.f l0).bind fun t851 => ((some (([(⟨0 + 1, (⟨a1_0, a1_1⟩ : S81), a2, a3, 0⟩ : S226)] : List (S226)) : List (S226))).bind fun y854 => (if t851.length + y854.length < 2199023255552 then (some ((t851 ++ y854), 0 + 1, 0)) else (none)))))) else (some (([] : List (S226)), 0, t840)))) else (some (([] : List (S226)), 0, t839)))) = some (r1, r2, r3) := h
 clear h
 replace H := Option.bind_eq_some_iff.mp H
 obtain ⟨t839, A50, H⟩ := H
 replace H : (if t839 = 0 then ((QaK.f k a1_0 a1_1 a2 0 a3).bind fun t840 => (if t840 = 0 then (if (l0.length : Int) > 0 then (if 0 ≤ (wrap64 ((l0.length : Int) - 1)) then (if (wrap64 ((l0.length : Int) - 1)) < (l0.length : Int) then (if (l0.length : Int) = 1024 then (some (([] : List (S226)), 0, 8)) else (if ((Qan l0 (wrap64 ((l0.length : Int) - 1))).f0) = 1152921504606846976 then (some (([] : List (S226)), 0, 8)) else ((QaA.f l0).bind fun t842 => ((some (([(⟨wrap64 (((Qan l0 (wrap64 ((l0.length : Int) - 1))).f0) + 1), (⟨a1_0, a1_1⟩ : S81), a2, a3, 0⟩ : S226)] : List (S226)) : List (S226))).bind fun y845 => (if t842.length + y845.length < 2199023255552 then (some ((t842 ++ y845), wrap64 (((Qan l0 (wrap64 ((l0.length : Int) - 1))).f0) + 1), 0)) else (none)))))) else (none)) else (none)) else (if (l0.length : Int) = 1024 then (some (([] : List (S226)), 0, 8)) else ((QaA.f l0).bind fun t851 => ((some (([(⟨0 + 1, (⟨a1_0, a1_1⟩ : S81), a2, a3, 0⟩ : S226)] : List (S226)) : List (S226))).bind fun y854 => (if t851.length + y854.length < 2199023255552 then (some ((t851 ++ y854), 0 + 1, 0)) else (none)))))) else (some (([] : List (S226)), 0, t840)))) else (some (([] : List (S226)), 0, t839))) = some (r1, r2, r3) := H
 have A5 := Aside0.mk A50
 clear A50
 go_enter Try.func43, Try.ntmps43
 go_upto_if 14 with (first | ((with_reducible refine QaT (N := 5) rfl ?_); refine Zbx (N := 5) (cs := #[.string a1_0, .string a1_1]) (t := 81) ?_; intro gb838 hg w6 hbox hb; have BK838 := Aside0.mk (hbox); have GW838 := Aside0.mk (Zt w hg (Zb)); have GE838 := GW838; replace HB := Aside0.mk (Qap (Zb) hb); clear hb hbox hg) | ((with_reducible refine Qay (f := 115) rfl ?_); refine goesL_ (some 12) rfl rfl Try.func115 (by kernel_rfl) rfl #[.slice A0 l0.length c0] rfl (Zl) ?_; (with_reducible refine (QaL.calls k _ _ l0 t839 _ ?side1 ?side2 A5.out).mono ?_); (case side1 => exact Zv (Kd.C_below HR0.out HB.out)); (case side2 => exact HC0.out); rintro e w7 ⟨rfl, hb⟩; refine ⟨_, rfl, ?_⟩; replace BK838 := Aside0.mk (Zi BK838.out hb); replace HB := Aside0.mk (Qap (Zc1 GE838.out) hb); (try clear hb); (try clear hb2); (try clear hk); (try clear hi)))
 (try simp only [Act.put, Zj, Zk, Zm])
 by_cases c8 : t839 = 0
 ·rw [if_pos c8] at H
  have c8b0 : (t839 == 0) = F := beq_iff_eq.mpr c8
  have c8b1 : (t839 != 0) = J := bne_eq_false_iff_eq.mpr c8
  clear c8
  (try simp only [c8b0, c8b1])
  replace H := Option.bind_eq_some_iff.mp H
  obtain ⟨t840, A90, H⟩ := H
  replace H : (if t840 = 0 then (if (l0.length : Int) > 0 then (if 0 ≤ (wrap64 ((l0.length : Int) - 1)) then (if (wrap64 ((l0.length : Int) - 1)) < (l0.length : Int) then (if (l0.length : Int) = 1024 then (some (([] : List (S226)), 0, 8)) else (if ((Qan l0 (wrap64 ((l0.length : Int) - 1))).f0) = 1152921504606846976 then (some (([] : List (S226)), 0, 8)) else ((QaA.f l0).bind fun t842 => ((some (([(⟨wrap64 (((Qan l0 (wrap64 ((l0.length : Int) - 1))).f0) + 1), (⟨a1_0, a1_1⟩ : S81), a2, a3, 0⟩ : S226)] : List (S226)) : List (S226))).bind fun y845 => (if t842.length + y845.length < 2199023255552 then (some ((t842 ++ y845), wrap64 (((Qan l0 (wrap64 ((l0.length : Int) - 1))).f0) + 1), 0)) else (none)))))) else (none)) else (none)) else (if (l0.length : Int) = 1024 then (some (([] : List (S226)), 0, 8)) else ((QaA.f l0).bind fun t851 => ((some (([(⟨0 + 1, (⟨a1_0, a1_1⟩ : S81), a2, a3, 0⟩ : S226)] : List (S226)) : List (S226))).bind fun y854 => (if t851.length + y854.length < 2199023255552 then (some ((t851 ++ y854), 0 + 1, 0)) else (none)))))) else (some (([] : List (S226)), 0, t840))) = some (r1, r2, r3) := H
  have A9 := Aside0.mk A90
  clear A90
  obtain ⟨hcz10_0, hfz10_0⟩ := Zy (v := (.string a1_0)) BK838.out 0
  obtain ⟨hcz10_1, hfz10_1⟩ := Zy (v := (.string a1_1)) BK838.out 1
  go_upto_if 21 with (first | ((with_reducible refine Qay (f := 116) rfl ?_); refine goesL_ (some 19) rfl rfl Try.func116 (by kernel_rfl) rfl #[.agg #[.string a1_0, .string a1_1], .int .i64 a2, .int .i64 0, .int .i64 a3] rfl (Zl) ?_; (with_reducible refine (QaK.calls k a1_0 a1_1 a2 0 a3 t840 _ A9.out).mono ?_); rintro e w11 ⟨rfl, hb⟩; refine ⟨_, rfl, ?_⟩; replace BK838 := Aside0.mk (Zi BK838.out hb); replace HB := Aside0.mk (Qap (Zc1 GE838.out) hb); (try clear hb); (try clear hb2); (try clear hk); (try clear hi)))
  (try simp only [Act.put, Zj, Zk, Zm])
  by_cases c12 : t840 = 0
  ·rw [if_pos c12] at H
   have c12b0 : (t840 == 0) = F := beq_iff_eq.mpr c12
   have c12b1 : (t840 != 0) = J := bne_eq_false_iff_eq.mpr c12
   clear c12
   (try simp only [c12b0, c12b1])
   by_cases c13 : (l0.length : Int) > 0
   ·rw [if_pos c13] at H
    have c13b0 : decide (0 < (l0.length : Int)) = F := decide_eq_true c13
    have c13b1 : decide (0 < l0.length) = F := decide_eq_true (by omega)
    clear c13
    (try simp only [c13b0, c13b1])
    obtain ⟨ji14, hji14⟩ : ∃ j_ : Int, (wrap64 ((l0.length : Int) - 1)) = j_ := ⟨_, rfl⟩
    replace H : (if 0 ≤ (ji14) then (if (ji14) < (l0.length : Int) then (if (l0.length : Int) = 1024 then (some (([] : List (S226)), 0, 8)) else (if ((Qan l0 (ji14)).f0) = 1152921504606846976 then (some (([] : List (S226)), 0, 8)) else ((QaA.f l0).bind fun t842 => ((some (([(⟨wrap64 (((Qan l0 (ji14)).f0) + 1), (⟨a1_0, a1_1⟩ : S81), a2, a3, 0⟩ : S226)] : List (S226)) : List (S226))).bind fun y845 => (if t842.length + y845.length < 2199023255552 then (some ((t842 ++ y845), wrap64 (((Qan l0 (ji14)).f0) + 1), 0)) else (none)))))) else (none)) else (none)) = some (r1, r2, r3) := by first | (rw [hji14] at H; exact H) | (simp only [hji14] at H ⊢; exact H)
    have hji14w : (IntKind.i64.wrap ((l0.length : Int) - 1)) = ji14 := (i64_w _).trans hji14
    by_cases c15 : 0 ≤ (ji14)
    ·rw [if_pos c15] at H
     have c15b0 : decide (0 ≤ (ji14)) = F := decide_eq_true c15
     clear c15
     by_cases c16 : (ji14) < (l0.length : Int)
     ·rw [if_pos c16] at H
      have c16b0 : decide ((ji14) < (l0.length : Int)) = F := decide_eq_true c16
      clear c16
      have p841 : 0 ≤ ((ji14) : Int) := Ze
      have q841 : (ji14) < (l0.length : Int) := Ze
      obtain ⟨ad841, e841, hx841_0, hx841_1, hx841_2, hx841_3, hx841_4, hx841_5⟩ := Qb1 HR0.out (ji14) p841 q841
      cases e841
      replace hx841_0 := Zx HB.out hx841_0
      replace hx841_1 := Zx HB.out hx841_1
      replace hx841_2 := Zx HB.out hx841_2
      replace hx841_3 := Zx HB.out hx841_3
      replace hx841_4 := Zx HB.out hx841_4
      replace hx841_5 := Zx HB.out hx841_5
      replace p841 := eq_true p841
      replace q841 := eq_true q841
      go_upto_region 9 with (fail)
      by_cases c17 : (l0.length : Int) = 1024
      ·rw [if_pos c17] at H
       have c17b0 : ((l0.length : Int) == 1024) = F := beq_iff_eq.mpr c17
       have c17b1 : ((l0.length : Int) != 1024) = J := bne_eq_false_iff_eq.mpr c17
       clear c17
       (try simp only [c17b0, c17b1])
       simp only [Option.some.injEq, Prod.mk.injEq] at H
       obtain ⟨rfl, rfl, rfl⟩ := H
       go_wp2
       go_ret3
       exact ⟨_, by first | rfl | (simp [Qak, Qal] <;> rfl) | (simp only [← hji14]; first | rfl | (simp [Qak, Qal] <;> rfl)) | (simp [*, Qak, Qal] <;> rfl), by first | exact Kd.R_nil _ _ _ _ _ | exact Kd.N_nil _ _ _ _ _ | exact Kd.V_nil _ _ _ _ _ | exact Kd.Q_nil _ _ _ _ _ | exact Kd.S_nil _ _ _ _ _, Zc1 GE838.out⟩
      rw [if_neg c17] at H
      have c17b0 : ((l0.length : Int) == 1024) = J := beq_eq_false_iff_ne.mpr c17
      have c17b1 : ((l0.length : Int) != 1024) = F := bne_iff_ne.mpr c17
      (try simp only [c17b0, c17b1])
      by_cases c18 : ((Qan l0 (ji14)).f0) = 1152921504606846976
      ·rw [if_pos c18] at H
       have c18b0 : (((Qan l0 (ji14)).f0) == 1152921504606846976) = F := beq_iff_eq.mpr c18
       have c18b1 : (((Qan l0 (ji14)).f0) != 1152921504606846976) = J := bne_eq_false_iff_eq.mpr c18
       clear c18
       (try simp only [c18b0, c18b1])
       simp only [Option.some.injEq, Prod.mk.injEq] at H
       obtain ⟨rfl, rfl, rfl⟩ := H
       go_wp2
       go_ret3
       exact ⟨_, by first | rfl | (simp [Qak, Qal] <;> rfl) | (simp only [← hji14]; first | rfl | (simp [Qak, Qal] <;> rfl)) | (simp [*, Qak, Qal] <;> rfl), by first | exact Kd.R_nil _ _ _ _ _ | exact Kd.N_nil _ _ _ _ _ | exact Kd.V_nil _ _ _ _ _ | exact Kd.Q_nil _ _ _ _ _ | exact Kd.S_nil _ _ _ _ _, Zc1 GE838.out⟩
      rw [if_neg c18] at H
      have c18b0 : (((Qan l0 (ji14)).f0) == 1152921504606846976) = J := beq_eq_false_iff_ne.mpr c18
      have c18b1 : (((Qan l0 (ji14)).f0) != 1152921504606846976) = F := bne_iff_ne.mpr c18
      (try simp only [c18b0, c18b1])
      replace H := Option.bind_eq_some_iff.mp H
      obtain ⟨t842, A190, H⟩ := H
      replace H : ((some (([(⟨wrap64 (((Qan l0 (ji14)).f0) + 1), (⟨a1_0, a1_1⟩ : S81), a2, a3, 0⟩ : S226)] : List (S226)) : List (S226))).bind fun y845 => (if t842.length + y845.length < 2199023255552 then (some ((t842 ++ y845), wrap64 (((Qan l0 (ji14)).f0) + 1), 0)) else (none))) = some (r1, r2, r3) := H
      have A19 := Aside0.mk A190
      clear A190
      obtain ⟨y845, hy845⟩ : ∃ y_ : List (S226), y_ = (([(⟨wrap64 (((Qan l0 (ji14)).f0) + 1), (⟨a1_0, a1_1⟩ : S81), a2, a3, 0⟩ : S226)] : List (S226))) := ⟨_, rfl⟩
      replace H : (if t842.length + y845.length < 2199023255552 then (some ((t842 ++ y845), wrap64 (((Qan l0 (ji14)).f0) + 1), 0)) else (none)) = some (r1, r2, r3) := by first | (rw [hy845]; with_reducible exact H) | (have H2_ := (Option.bind_some _ _).symm.trans H; rw [hy845]; with_reducible exact H2_) | (have H2_ := (Option.bind_some _ _).symm.trans H; with_reducible exact H2_) | with_reducible exact H | (rw [hy845]; exact H) | exact H
      have Ny845 := Aside0.mk hy845
      clear hy845
      by_cases c20 : t842.length + y845.length < 2199023255552
      ·rw [if_pos c20] at H
       have LMc20 := Aside0.mk c20
       clear c20
       obtain ⟨y848, hy848⟩ : ∃ y_ : List (S226), y_ = (t842 ++ y845) := ⟨_, rfl⟩
       replace H : (some (y848, wrap64 (((Qan l0 (ji14)).f0) + 1), 0)) = some (r1, r2, r3) := by first | (rw [hy848]; with_reducible exact H) | (have H2_ := (Option.bind_some _ _).symm.trans H; rw [hy848]; with_reducible exact H2_) | (have H2_ := (Option.bind_some _ _).symm.trans H; with_reducible exact H2_) | with_reducible exact H | (rw [hy848]; exact H) | exact H
       have Ny848 := Aside0.mk hy848
       clear hy848
       simp only [Option.some.injEq, Prod.mk.injEq] at H
       obtain ⟨rfl, rfl, rfl⟩ := H
       try go_wp2
       replace BK838 := Aside0.mk (Qad BK838.out)
       replace HB := Aside0.mk (Qai HB.out)
       refine start_ (n := 13) (S := fun w' => w'.cell? ⟨gb838, 0, none⟩ = some (.string a1_0) ∧ w'.cell? ⟨gb838, 1, none⟩ = some (.string a1_1)) (ds := []) #[J, J, J, J, J, J, J, J, J, J, J, J, J] (by kernel_rfl) rfl rfl ⟨(Qaf BK838.out 0).trans rfl, (Qaf BK838.out 1).trans rfl⟩ (fun hHeld => ?_); refine Qcf Qbh.tab12 Qbh.bits12 (fun HT_ HW_ => ?_)
       generalize w11.drew = w21 at BK838 HB hHeld ⊢
       refine Zsp (i := 0) (N := some 42) (pm 13 1) HT_ ?_
       refine Zsp (i := 2) (N := some 44) #[F, J, F, J, J, J, J, J, J, J, J, J, J] HT_ ?_
       refine Zsp (i := 4) (N := some 46) #[F, J, F, J, F, J, J, J, J, J, J, J, J] HT_ ?_
       refine Zsp (i := 5) (N := some 47) #[F, J, F, J, F, F, J, J, J, J, J, J, J] HT_ ?_
       refine Zsp (i := 9) (N := some 51) #[F, J, F, J, F, F, J, J, J, F, J, J, J] HT_ ?_
       refine Zst (i := 3) (N := some 45) #[F, J, F, F, F, F, J, J, J, F, J, J, J] HT_ HW_ hHeld ?_ (hy := by (refine Or.inl ⟨by rfl, ?_⟩; rintro w' ⟨s0, s1⟩; go_simp; with_reducible rfl))
       refine Zsp (i := 6) (N := some 48) #[F, J, F, F, F, F, F, J, J, F, J, J, J] HT_ ?_
       refine join_ (σ := Value × Value) 4 #[F, F, F, F, F, F, F, F, J, F, J, J, J] (fun s_ => [(43, s_.1), (49, s_.2)]) (fun s_ w' => (w'.cell? ⟨gb838, 0, none⟩ = some (.string a1_0) ∧ w'.cell? ⟨gb838, 1, none⟩ = some (.string a1_1)) ∧ (Kd.R k226 226 w' w.heap.size (fun k_ => some k_ ≠ (s_.2 : Value).ownBlock) s_.1 t842) ∧ (Kd.R k226 226 w' w.heap.size (fun k_ => some k_ ≠ (s_.1 : Value).ownBlock) s_.2 y845) ∧ (w'.heap[gb838]? = some (.cells #[.string a1_0, .string a1_1] 81 (0, 0))) ∧ (Below w.heap.size w w')) ?_ ?_
       rotate_left
       ·intro hCont
        refine two_ (i := 1) (j := 7) (Ni := some 43) (Nj := some 49) #[F, F, F, F, F, F, F, J, J, F, J, J, J] #[F, J, F, F, F, F, F, F, J, F, J, J, J] rfl rfl rfl rfl (two_of HT_.out (by kernel_rfl)) (by decide) (by decide) (fun K hK => ?_) (fun K hK => ?_)
        ·skip
         refine goes_ Try.func117 (by kernel_rfl) rfl #[.slice (some ad841) l0.length c0] (by rfl) rfl rfl (Zl) ?_
         with_reducible refine (QaA.calls _ _ l0 t842 _ ?side1 ?side2 A19.out).mono ?_
         (case side1 => exact Zv (Kd.C_below HR0.out HB.out))
         (case side2 => exact HC0.out)
         rintro e w22 ⟨v843, rfl, ho0, hb⟩
         refine ⟨_, rfl, ?_⟩
         have HO844 := Aside0.mk (Kd.R_lower ho0 (Qar (Zc1 GE838.out)))
         replace BK838 := Aside0.mk (Zi BK838.out hb)
         replace HB := Aside0.mk (Qap (Zc1 GE838.out) hb)
         (try clear hb)
         (try clear hb2)
         (try clear hk)
         (try clear hi)
         (try clear ho0)
         refine hK.out _ _ ⟨(Qaf BK838.out 0).trans rfl, (Qaf BK838.out 1).trans rfl⟩ (fun hHeld => ?_)
         clear hK K
         refine norm_ (a' := ?_) ?_ ?_
         rotate_left
         ·show Act.put _ (some 43) _ = _
          simp only [Act.put, Zj, Zk, Zm, i64_w, i32_w]
          rfl
         refine one_ (i := 7) (N := some 49) #[F, F, F, F, F, F, F, F, J, F, J, J, J] rfl rfl (one_of HT_.out (by kernel_rfl)) (by decide) (fun K hK => ?_)
         refine Kd.R_lit_step k226 _ 226 ?hg (N := 49) ?hd (xs := ([(⟨wrap64 (((Qan l0 (ji14)).f0) + 1), (⟨a1_0, a1_1⟩ : S81), a2, a3, 0⟩ : S226)] : List (S226))) (inner := [.int .i64 (wrap64 (((Qan l0 (ji14)).f0) + 1)), .string a1_0, .string a1_1, .int .i64 a2, .int .i64 a3, .int .i64 0]) (ok := fun _ => True) (okp := fun _ => True) ?hr ?hp (fun _ hk => hk) trivial (Below.refl _ _) (Nat.le_refl _) (by simp) ?_; (case hd => rfl); (case hg => rfl); (case hr => first | (go_simp; done) | (go_simp; rfl)); (case hp => exact (Reps.c6 (show Kd.M k226 _ _ _ (⟨wrap64 (((Qan l0 (ji14)).f0) + 1), (⟨a1_0, a1_1⟩ : S81), a2, a3, 0⟩ : S226) [.int .i64 (wrap64 (((Qan l0 (ji14)).f0) + 1)), .string a1_0, .string a1_1, .int .i64 a2, .int .i64 a3, .int .i64 0] from (Qb6 _ _ _ (⟨wrap64 (((Qan l0 (ji14)).f0) + 1), (⟨a1_0, a1_1⟩ : S81), a2, a3, 0⟩ : S226) )) (Reps.none _ _)))
         intro v846 w23 ho24 hb hg_ hnew_
         clear hg_ hnew_
         (first | rw [← Ny845.out] at ho24 | (simp only [Int.reduceToNat] at ho24; rw [← Ny845.out] at ho24))
         have HO847 := Aside0.mk (Kd.R_lower (Kd.R_new' ho24 (Kd.R_lt (Zr HO844.out))) (Qar (Zc1 GE838.out)))
         replace HO844 := Aside0.mk (Kd.R_elder' (Zr HO844.out) (Kd.R_base ho24) hb)
         replace BK838 := Aside0.mk (Zi BK838.out hb)
         replace HB := Aside0.mk (Qap (Zc1 GE838.out) hb)
         clear hb ho24
         refine hK.out _ _ ⟨(Qaf BK838.out 0).trans rfl, (Qaf BK838.out 1).trans rfl⟩ (fun hHeld => ?_)
         clear hK K
         refine norm_ (a' := ?_) ?_ ?_
         rotate_left
         ·show Act.put _ (some 49) _ = _
          simp only [Act.put, Zj, Zk, Zm, i64_w, i32_w]
          rfl
         exact norm_ (by simp only [putAll, Act.put, Zj, Zk, Zm]) (hCont (v843, v846) _ ⟨hHeld, (by (with_reducible repeat (first | apply Kd.R_alloc | apply Kd.R_drewN | apply Kd.R_drew)); exact Kd.R_mono HO844.out (fun _ hk => hk.2)), (by (with_reducible repeat (first | apply Kd.R_alloc | apply Kd.R_drewN | apply Kd.R_drew)); exact Kd.R_mono HO847.out (fun _ hk => hk.2)), (Zu BK838.out), (Zc1 GE838.out)⟩)
        skip
        refine Kd.R_lit_step k226 _ 226 ?hg (N := 49) ?hd (xs := ([(⟨wrap64 (((Qan l0 (ji14)).f0) + 1), (⟨a1_0, a1_1⟩ : S81), a2, a3, 0⟩ : S226)] : List (S226))) (inner := [.int .i64 (wrap64 (((Qan l0 (ji14)).f0) + 1)), .string a1_0, .string a1_1, .int .i64 a2, .int .i64 a3, .int .i64 0]) (ok := fun _ => True) (okp := fun _ => True) ?hr ?hp (fun _ hk => hk) trivial (Below.refl _ _) (Nat.le_refl _) (by simp) ?_; (case hd => rfl); (case hg => rfl); (case hr => first | (go_simp; done) | (go_simp; rfl)); (case hp => exact (Reps.c6 (show Kd.M k226 _ _ _ (⟨wrap64 (((Qan l0 (ji14)).f0) + 1), (⟨a1_0, a1_1⟩ : S81), a2, a3, 0⟩ : S226) [.int .i64 (wrap64 (((Qan l0 (ji14)).f0) + 1)), .string a1_0, .string a1_1, .int .i64 a2, .int .i64 a3, .int .i64 0] from (Qb6 _ _ _ (⟨wrap64 (((Qan l0 (ji14)).f0) + 1), (⟨a1_0, a1_1⟩ : S81), a2, a3, 0⟩ : S226) )) (Reps.none _ _)))
        intro v846 w22 ho23 hb hg_ hnew_
        clear hg_ hnew_
        (first | rw [← Ny845.out] at ho23 | (simp only [Int.reduceToNat] at ho23; rw [← Ny845.out] at ho23))
        have HO847 := Aside0.mk (Kd.R_lower ho23 (Qar (Zc1 GE838.out)))
        replace BK838 := Aside0.mk (Zi BK838.out hb)
        replace HB := Aside0.mk (Qap (Zc1 GE838.out) hb)
        clear hb ho23
        refine hK.out _ _ ⟨(Qaf BK838.out 0).trans rfl, (Qaf BK838.out 1).trans rfl⟩ (fun hHeld => ?_)
        clear hK K
        refine norm_ (a' := ?_) ?_ ?_
        rotate_left
        ·show Act.put _ (some 49) _ = _
         simp only [Act.put, Zj, Zk, Zm, i64_w, i32_w]
         rfl
        refine one_ (i := 1) (N := some 43) #[F, F, F, F, F, F, F, F, J, F, J, J, J] rfl rfl (one_of HT_.out (by kernel_rfl)) (by decide) (fun K hK => ?_)
        refine goes_ Try.func117 (by kernel_rfl) rfl #[.slice (some ad841) l0.length c0] (by rfl) rfl rfl (Zl) ?_
        with_reducible refine (QaA.calls _ _ l0 t842 _ ?side1 ?side2 A19.out).mono ?_
        (case side1 => exact Zv (Kd.C_below HR0.out HB.out))
        (case side2 => exact HC0.out)
        rintro e w24 ⟨v843, rfl, ho0, hb⟩
        refine ⟨_, rfl, ?_⟩
        have HO844 := Aside0.mk (Kd.R_lower (Kd.R_new' ho0 (Kd.R_lt (Zr HO847.out))) (Qar (Zc1 GE838.out)))
        replace HO847 := Aside0.mk (Kd.R_elder' (Zr HO847.out) (Kd.R_base ho0) hb)
        replace BK838 := Aside0.mk (Zi BK838.out hb)
        replace HB := Aside0.mk (Qap (Zc1 GE838.out) hb)
        (try clear hb)
        (try clear hb2)
        (try clear hk)
        (try clear hi)
        (try clear ho0)
        refine hK.out _ _ ⟨(Qaf BK838.out 0).trans rfl, (Qaf BK838.out 1).trans rfl⟩ (fun hHeld => ?_)
        clear hK K
        refine norm_ (a' := ?_) ?_ ?_
        rotate_left
        ·show Act.put _ (some 43) _ = _
         simp only [Act.put, Zj, Zk, Zm, i64_w, i32_w]
         rfl
        exact norm_ (by simp only [putAll, Act.put, Zj, Zk, Zm]) (hCont (v843, v846) _ ⟨hHeld, (by (with_reducible repeat (first | apply Kd.R_alloc | apply Kd.R_drewN | apply Kd.R_drew)); exact Kd.R_mono HO844.out (fun _ hk => hk.2)), (by (with_reducible repeat (first | apply Kd.R_alloc | apply Kd.R_drewN | apply Kd.R_drew)); exact Kd.R_mono HO847.out (fun _ hk => hk.2)), (Zu BK838.out), (Zc1 GE838.out)⟩)
       rintro ⟨v843, v846⟩ w25 ⟨hS_, h0_, h1_, h2_, h3_⟩
       have n0_ : Aside0 (Kd.R k226 226 w25 w.heap.size (fun k_ => some k_ ≠ (v846 : Value).ownBlock) v843 t842) := ⟨h0_⟩
       have n1_ : Aside0 (Kd.R k226 226 w25 w.heap.size (fun k_ => some k_ ≠ (v843 : Value).ownBlock) v846 y845) := ⟨h1_⟩
       have n2_ : Aside0 (w25.heap[gb838]? = some (.cells #[.string a1_0, .string a1_1] 81 (0, 0))) := ⟨h2_⟩
       have n3_ : Aside0 (Below w.heap.size w w25) := ⟨h3_⟩
       clear BK838
       clear HB
       clear h0_ h1_ h2_ h3_
       have HO844 := n0_
       have HO847 := n1_
       have BK838 := n2_
       have HB := n3_
       clear n0_ n1_ n2_ n3_
       have hHeld : w25.cell? ⟨gb838, 0, none⟩ = some (.string a1_0) ∧ w25.cell? ⟨gb838, 1, none⟩ = some (.string a1_1) := hS_
       obtain ⟨Ao27, co27, eo27⟩ := Kd.R_slice HO847.out
       (first | subst eo27 | (injection eo27 with f1_ f2_ f3_; have f4_ := f1_.symm; have f5_ := f3_.symm; clear f1_ f2_ f3_; subst f4_; subst f5_))
       refine norm_ (a' := ?_) ?_ ?_
       rotate_left
       ·simp only [putAll, Act.put, Zj, Zk, Zm]
        rfl
       refine one_ (i := 8) (N := some 50) #[F, F, F, F, F, F, F, F, F, F, J, J, J] rfl rfl (one_of HT_.out (by kernel_rfl)) (by decide) (fun K hK => ?_)
       refine Kd.R_append_rows_step k226 (w0 := w) w.heap.size (by rfl) (.tmp 43) (.tmp 49) 116 226 (.agg #[(.int .i64 0), (.string ⟨#[]⟩), (.string ⟨#[]⟩), (.int .i64 0), (.int .i64 0), (.int .i64 0)]) 64 rfl Try.underlying116 QeA rfl (by decide) (by omega) v843 t842 y845 _ _ _ (fun k_ => some k_ ≠ (.slice Ao27 y845.length co27 : Value).ownBlock) (fun _ => False) rfl rfl ?aO ?aR (fun _ _ h => h) (fun _ h => h.elim) ?aF ?aB ?aS ?aL ?_
       (case aR => exact Zv (Kd.R_reads' HO847.out).2.2)
       (case aB => exact (Zc1 GE838.out))
       (case aF => exact (fun k_ hk => Kd.fresh' (Kd.R_lt (Zr HO847.out)) k_ hk))
       (case aO => exact (Zr HO844.out))
       (case aS => exact (Qar (Zc1 GE838.out)))
       (case aL => have := LMc20.out; omega)
       intro v849 w26 ho hb hg hat
       rw [← Ny848.out] at ho
       have HO850 := Aside0.mk (ho)
       replace BK838 := Aside0.mk (Qa7 (g := gb838) (o := .cells #[.string a1_0, .string a1_1] 81 (0, 0)) (Zu BK838.out) hg (Kd.R_ne HO844.out BK838.out (by decide)))
       replace HO847 := Aside0.mk (Kd.R_after (ok := (fun _ => True)) (by (with_reducible repeat (first | apply Kd.R_alloc | apply Kd.R_drewN | apply Kd.R_drew)); exact Kd.R_mono HO847.out (fun _ hk => ⟨trivial, hk⟩)) hg hat)
       replace HB := Aside0.mk (hb)
       clear HO844
       clear ho hb hg hat
       refine hK.out _ _ ⟨(Qaf BK838.out 0).trans rfl, (Qaf BK838.out 1).trans rfl⟩ (fun hHeld => ?_)
       clear hK K
       refine norm_ (a' := ?_) ?_ ?_
       rotate_left
       ·show Act.put _ (some 50) _ = _
        simp only [Act.put, Zj, Zk, Zm, i64_w, i32_w]
        rfl
       refine Zsp (i := 10) (N := some 8) (pm 13 11) HT_ ?_
       refine Zsp (i := 11) (N := some 9) (pm 13 12) HT_ ?_
       refine Zsp (i := 12) (N := some 10) (pm 13 13) HT_ ?_
       refine done_ (Qcu HT_.out (by kernel_rfl)) ?_
       try go_wp2
       go_ret3
       exact ⟨_, by first | rfl | (simp [Qak, Qal] <;> rfl) | (simp only [← hji14]; first | rfl | (simp [Qak, Qal] <;> rfl)) | (simp [*, Qak, Qal] <;> rfl), by (with_reducible repeat (first | apply Kd.R_alloc | apply Kd.R_drewN | apply Kd.R_drew)); exact Kd.R_mono HO850.out (fun _ hk => trivial), Zc1 GE838.out⟩
      rw [if_neg c20] at H
      exact absurd H (by simp)
     rw [if_neg c16] at H
     exact absurd H (by simp)
    rw [if_neg c15] at H
    exact absurd H (by simp)
   rw [if_neg c13] at H
   have c13b0 : decide (0 < (l0.length : Int)) = J := decide_eq_false c13
   have c13b1 : decide (0 < l0.length) = J := decide_eq_false (by omega)
   clear c13
   (try simp only [c13b0, c13b1])
   by_cases c28 : (l0.length : Int) = 1024
   ·rw [if_pos c28] at H
    have c28b0 : ((l0.length : Int) == 1024) = F := beq_iff_eq.mpr c28
    have c28b1 : ((l0.length : Int) != 1024) = J := bne_eq_false_iff_eq.mpr c28
    clear c28
    simp only [Option.some.injEq, Prod.mk.injEq] at H
    obtain ⟨rfl, rfl, rfl⟩ := H
    go_wp2
    go_ret3
    exact ⟨_, Zq, by first | exact Kd.R_nil _ _ _ _ _ | exact Kd.N_nil _ _ _ _ _ | exact Kd.V_nil _ _ _ _ _ | exact Kd.Q_nil _ _ _ _ _ | exact Kd.S_nil _ _ _ _ _, Zc1 GE838.out⟩
   rw [if_neg c28] at H
   have c28b0 : ((l0.length : Int) == 1024) = J := beq_eq_false_iff_ne.mpr c28
   have c28b1 : ((l0.length : Int) != 1024) = F := bne_iff_ne.mpr c28
   replace H := Option.bind_eq_some_iff.mp H
   obtain ⟨t851, A290, H⟩ := H
   replace H : ((some (([(⟨0 + 1, (⟨a1_0, a1_1⟩ : S81), a2, a3, 0⟩ : S226)] : List (S226)) : List (S226))).bind fun y854 => (if t851.length + y854.length < 2199023255552 then (some ((t851 ++ y854), 0 + 1, 0)) else (none))) = some (r1, r2, r3) := H
   have A29 := Aside0.mk A290
   clear A290
   obtain ⟨y854, hy854⟩ : ∃ y_ : List (S226), y_ = (([(⟨0 + 1, (⟨a1_0, a1_1⟩ : S81), a2, a3, 0⟩ : S226)] : List (S226))) := ⟨_, rfl⟩
   replace H : (if t851.length + y854.length < 2199023255552 then (some ((t851 ++ y854), 0 + 1, 0)) else (none)) = some (r1, r2, r3) := by first | (rw [hy854]; with_reducible exact H) | (have H2_ := (Option.bind_some _ _).symm.trans H; rw [hy854]; with_reducible exact H2_) | (have H2_ := (Option.bind_some _ _).symm.trans H; with_reducible exact H2_) | with_reducible exact H | (rw [hy854]; exact H) | exact H
   have Ny854 := Aside0.mk hy854
   clear hy854
   by_cases c30 : t851.length + y854.length < 2199023255552
   ·rw [if_pos c30] at H
    have LMc30 := Aside0.mk c30
    clear c30
    obtain ⟨y857, hy857⟩ : ∃ y_ : List (S226), y_ = (t851 ++ y854) := ⟨_, rfl⟩
    replace H : (some (y857, 0 + 1, 0)) = some (r1, r2, r3) := by first | (rw [hy857]; with_reducible exact H) | (have H2_ := (Option.bind_some _ _).symm.trans H; rw [hy857]; with_reducible exact H2_) | (have H2_ := (Option.bind_some _ _).symm.trans H; with_reducible exact H2_) | with_reducible exact H | (rw [hy857]; exact H) | exact H
    have Ny857 := Aside0.mk hy857
    clear hy857
    simp only [Option.some.injEq, Prod.mk.injEq] at H
    obtain ⟨rfl, rfl, rfl⟩ := H
    try go_wp2
    replace BK838 := Aside0.mk (Qad BK838.out)
    replace HB := Aside0.mk (Qai HB.out)
    refine start_ (n := 13) (S := fun w' => w'.cell? ⟨gb838, 0, none⟩ = some (.string a1_0) ∧ w'.cell? ⟨gb838, 1, none⟩ = some (.string a1_1)) (ds := []) #[J, J, J, J, J, J, J, J, J, J, J, J, J] (by kernel_rfl) rfl rfl ⟨(Qaf BK838.out 0).trans rfl, (Qaf BK838.out 1).trans rfl⟩ (fun hHeld => ?_); refine Qcf Qbh.tab12 Qbh.bits12 (fun HT_ HW_ => ?_)
    generalize w11.drew = w31 at BK838 HB hHeld ⊢
    refine Zsp (i := 0) (N := some 42) (pm 13 1) HT_ ?_
    refine Zsp (i := 2) (N := some 44) #[F, J, F, J, J, J, J, J, J, J, J, J, J] HT_ ?_
    refine Zsp (i := 4) (N := some 46) #[F, J, F, J, F, J, J, J, J, J, J, J, J] HT_ ?_
    refine Zsp (i := 5) (N := some 47) #[F, J, F, J, F, F, J, J, J, J, J, J, J] HT_ ?_
    refine Zsp (i := 9) (N := some 51) #[F, J, F, J, F, F, J, J, J, F, J, J, J] HT_ ?_
    refine Zst (i := 3) (N := some 45) #[F, J, F, F, F, F, J, J, J, F, J, J, J] HT_ HW_ hHeld ?_ (hy := by (refine Or.inl ⟨by rfl, ?_⟩; rintro w' ⟨s0, s1⟩; go_simp; with_reducible rfl))
    refine Zsp (i := 6) (N := some 48) #[F, J, F, F, F, F, F, J, J, F, J, J, J] HT_ ?_
    refine join_ (σ := Value × Value) 4 #[F, F, F, F, F, F, F, F, J, F, J, J, J] (fun s_ => [(43, s_.1), (49, s_.2)]) (fun s_ w' => (w'.cell? ⟨gb838, 0, none⟩ = some (.string a1_0) ∧ w'.cell? ⟨gb838, 1, none⟩ = some (.string a1_1)) ∧ (Kd.R k226 226 w' w.heap.size (fun k_ => some k_ ≠ (s_.2 : Value).ownBlock) s_.1 t851) ∧ (Kd.R k226 226 w' w.heap.size (fun k_ => some k_ ≠ (s_.1 : Value).ownBlock) s_.2 y854) ∧ (w'.heap[gb838]? = some (.cells #[.string a1_0, .string a1_1] 81 (0, 0))) ∧ (Below w.heap.size w w')) ?_ ?_
    rotate_left
    ·intro hCont
     refine two_ (i := 1) (j := 7) (Ni := some 43) (Nj := some 49) #[F, F, F, F, F, F, F, J, J, F, J, J, J] #[F, J, F, F, F, F, F, F, J, F, J, J, J] rfl rfl rfl rfl (two_of HT_.out (by kernel_rfl)) (by decide) (by decide) (fun K hK => ?_) (fun K hK => ?_)
     ·skip
      refine goes_ Try.func117 (by kernel_rfl) rfl #[.slice A0 l0.length c0] (by rfl) rfl rfl (Zl) ?_
      with_reducible refine (QaA.calls _ _ l0 t851 _ ?side1 ?side2 A29.out).mono ?_
      (case side1 => exact Zv (Kd.C_below HR0.out HB.out))
      (case side2 => exact HC0.out)
      rintro e w32 ⟨v852, rfl, ho0, hb⟩
      refine ⟨_, rfl, ?_⟩
      have HO853 := Aside0.mk (Kd.R_lower ho0 (Qar (Zc1 GE838.out)))
      replace BK838 := Aside0.mk (Zi BK838.out hb)
      replace HB := Aside0.mk (Qap (Zc1 GE838.out) hb)
      (try clear hb)
      (try clear hb2)
      (try clear hk)
      (try clear hi)
      (try clear ho0)
      refine hK.out _ _ ⟨(Qaf BK838.out 0).trans rfl, (Qaf BK838.out 1).trans rfl⟩ (fun hHeld => ?_)
      clear hK K
      refine norm_ (a' := ?_) ?_ ?_
      rotate_left
      ·show Act.put _ (some 43) _ = _
       simp only [Act.put, Zj, Zk, Zm, i64_w, i32_w]
       rfl
      refine one_ (i := 7) (N := some 49) #[F, F, F, F, F, F, F, F, J, F, J, J, J] rfl rfl (one_of HT_.out (by kernel_rfl)) (by decide) (fun K hK => ?_)
      refine Kd.R_lit_step k226 _ 226 ?hg (N := 49) ?hd (xs := ([(⟨0 + 1, (⟨a1_0, a1_1⟩ : S81), a2, a3, 0⟩ : S226)] : List (S226))) (inner := [.int .i64 (0 + 1), .string a1_0, .string a1_1, .int .i64 a2, .int .i64 a3, .int .i64 0]) (ok := fun _ => True) (okp := fun _ => True) ?hr ?hp (fun _ hk => hk) trivial (Below.refl _ _) (Nat.le_refl _) (by simp) ?_; (case hd => rfl); (case hg => rfl); (case hr => first | (go_simp; done) | (go_simp; rfl)); (case hp => exact (Reps.c6 (show Kd.M k226 _ _ _ (⟨0 + 1, (⟨a1_0, a1_1⟩ : S81), a2, a3, 0⟩ : S226) [.int .i64 (0 + 1), .string a1_0, .string a1_1, .int .i64 a2, .int .i64 a3, .int .i64 0] from (Qb6 _ _ _ (⟨0 + 1, (⟨a1_0, a1_1⟩ : S81), a2, a3, 0⟩ : S226) )) (Reps.none _ _)))
      intro v855 w33 ho34 hb hg_ hnew_
      clear hg_ hnew_
      (first | rw [← Ny854.out] at ho34 | (simp only [Int.reduceToNat] at ho34; rw [← Ny854.out] at ho34))
      have HO856 := Aside0.mk (Kd.R_lower (Kd.R_new' ho34 (Kd.R_lt (Zr HO853.out))) (Qar (Zc1 GE838.out)))
      replace HO853 := Aside0.mk (Kd.R_elder' (Zr HO853.out) (Kd.R_base ho34) hb)
      replace BK838 := Aside0.mk (Zi BK838.out hb)
      replace HB := Aside0.mk (Qap (Zc1 GE838.out) hb)
      clear hb ho34
      refine hK.out _ _ ⟨(Qaf BK838.out 0).trans rfl, (Qaf BK838.out 1).trans rfl⟩ (fun hHeld => ?_)
      clear hK K
      refine norm_ (a' := ?_) ?_ ?_
      rotate_left
      ·show Act.put _ (some 49) _ = _
       simp only [Act.put, Zj, Zk, Zm, i64_w, i32_w]
       rfl
      exact norm_ (by simp only [putAll, Act.put, Zj, Zk, Zm]) (hCont (v852, v855) _ ⟨hHeld, (by (with_reducible repeat (first | apply Kd.R_alloc | apply Kd.R_drewN | apply Kd.R_drew)); exact Kd.R_mono HO853.out (fun _ hk => hk.2)), (by (with_reducible repeat (first | apply Kd.R_alloc | apply Kd.R_drewN | apply Kd.R_drew)); exact Kd.R_mono HO856.out (fun _ hk => hk.2)), (Zu BK838.out), (Zc1 GE838.out)⟩)
     skip
     refine Kd.R_lit_step k226 _ 226 ?hg (N := 49) ?hd (xs := ([(⟨0 + 1, (⟨a1_0, a1_1⟩ : S81), a2, a3, 0⟩ : S226)] : List (S226))) (inner := [.int .i64 (0 + 1), .string a1_0, .string a1_1, .int .i64 a2, .int .i64 a3, .int .i64 0]) (ok := fun _ => True) (okp := fun _ => True) ?hr ?hp (fun _ hk => hk) trivial (Below.refl _ _) (Nat.le_refl _) (by simp) ?_; (case hd => rfl); (case hg => rfl); (case hr => first | (go_simp; done) | (go_simp; rfl)); (case hp => exact (Reps.c6 (show Kd.M k226 _ _ _ (⟨0 + 1, (⟨a1_0, a1_1⟩ : S81), a2, a3, 0⟩ : S226) [.int .i64 (0 + 1), .string a1_0, .string a1_1, .int .i64 a2, .int .i64 a3, .int .i64 0] from (Qb6 _ _ _ (⟨0 + 1, (⟨a1_0, a1_1⟩ : S81), a2, a3, 0⟩ : S226) )) (Reps.none _ _)))
     intro v855 w32 ho33 hb hg_ hnew_
     clear hg_ hnew_
     (first | rw [← Ny854.out] at ho33 | (simp only [Int.reduceToNat] at ho33; rw [← Ny854.out] at ho33))
     have HO856 := Aside0.mk (Kd.R_lower ho33 (Qar (Zc1 GE838.out)))
     replace BK838 := Aside0.mk (Zi BK838.out hb)
     replace HB := Aside0.mk (Qap (Zc1 GE838.out) hb)
     clear hb ho33
     refine hK.out _ _ ⟨(Qaf BK838.out 0).trans rfl, (Qaf BK838.out 1).trans rfl⟩ (fun hHeld => ?_)
     clear hK K
     refine norm_ (a' := ?_) ?_ ?_
     rotate_left
     ·show Act.put _ (some 49) _ = _
      simp only [Act.put, Zj, Zk, Zm, i64_w, i32_w]
      rfl
     refine one_ (i := 1) (N := some 43) #[F, F, F, F, F, F, F, F, J, F, J, J, J] rfl rfl (one_of HT_.out (by kernel_rfl)) (by decide) (fun K hK => ?_)
     refine goes_ Try.func117 (by kernel_rfl) rfl #[.slice A0 l0.length c0] (by rfl) rfl rfl (Zl) ?_
     with_reducible refine (QaA.calls _ _ l0 t851 _ ?side1 ?side2 A29.out).mono ?_
     (case side1 => exact Zv (Kd.C_below HR0.out HB.out))
     (case side2 => exact HC0.out)
     rintro e w34 ⟨v852, rfl, ho0, hb⟩
     refine ⟨_, rfl, ?_⟩
     have HO853 := Aside0.mk (Kd.R_lower (Kd.R_new' ho0 (Kd.R_lt (Zr HO856.out))) (Qar (Zc1 GE838.out)))
     replace HO856 := Aside0.mk (Kd.R_elder' (Zr HO856.out) (Kd.R_base ho0) hb)
     replace BK838 := Aside0.mk (Zi BK838.out hb)
     replace HB := Aside0.mk (Qap (Zc1 GE838.out) hb)
     (try clear hb)
     (try clear hb2)
     (try clear hk)
     (try clear hi)
     (try clear ho0)
     refine hK.out _ _ ⟨(Qaf BK838.out 0).trans rfl, (Qaf BK838.out 1).trans rfl⟩ (fun hHeld => ?_)
     clear hK K
     refine norm_ (a' := ?_) ?_ ?_
     rotate_left
     ·show Act.put _ (some 43) _ = _
      simp only [Act.put, Zj, Zk, Zm, i64_w, i32_w]
      rfl
     exact norm_ (by simp only [putAll, Act.put, Zj, Zk, Zm]) (hCont (v852, v855) _ ⟨hHeld, (by (with_reducible repeat (first | apply Kd.R_alloc | apply Kd.R_drewN | apply Kd.R_drew)); exact Kd.R_mono HO853.out (fun _ hk => hk.2)), (by (with_reducible repeat (first | apply Kd.R_alloc | apply Kd.R_drewN | apply Kd.R_drew)); exact Kd.R_mono HO856.out (fun _ hk => hk.2)), (Zu BK838.out), (Zc1 GE838.out)⟩)
    rintro ⟨v852, v855⟩ w35 ⟨hS_, h0_, h1_, h2_, h3_⟩
    have n0_ : Aside0 (Kd.R k226 226 w35 w.heap.size (fun k_ => some k_ ≠ (v855 : Value).ownBlock) v852 t851) := ⟨h0_⟩
    have n1_ : Aside0 (Kd.R k226 226 w35 w.heap.size (fun k_ => some k_ ≠ (v852 : Value).ownBlock) v855 y854) := ⟨h1_⟩
    have n2_ : Aside0 (w35.heap[gb838]? = some (.cells #[.string a1_0, .string a1_1] 81 (0, 0))) := ⟨h2_⟩
    have n3_ : Aside0 (Below w.heap.size w w35) := ⟨h3_⟩
    clear BK838
    clear HB
    clear h0_ h1_ h2_ h3_
    have HO853 := n0_
    have HO856 := n1_
    have BK838 := n2_
    have HB := n3_
    clear n0_ n1_ n2_ n3_
    have hHeld : w35.cell? ⟨gb838, 0, none⟩ = some (.string a1_0) ∧ w35.cell? ⟨gb838, 1, none⟩ = some (.string a1_1) := hS_
    obtain ⟨Ao37, co37, eo37⟩ := Kd.R_slice HO856.out
    (first | subst eo37 | (injection eo37 with f1_ f2_ f3_; have f4_ := f1_.symm; have f5_ := f3_.symm; clear f1_ f2_ f3_; subst f4_; subst f5_))
    refine norm_ (a' := ?_) ?_ ?_
    rotate_left
    ·simp only [putAll, Act.put, Zj, Zk, Zm]
     rfl
    refine one_ (i := 8) (N := some 50) #[F, F, F, F, F, F, F, F, F, F, J, J, J] rfl rfl (one_of HT_.out (by kernel_rfl)) (by decide) (fun K hK => ?_)
    refine Kd.R_append_rows_step k226 (w0 := w) w.heap.size (by rfl) (.tmp 43) (.tmp 49) 116 226 (.agg #[(.int .i64 0), (.string ⟨#[]⟩), (.string ⟨#[]⟩), (.int .i64 0), (.int .i64 0), (.int .i64 0)]) 64 rfl Try.underlying116 QeA rfl (by decide) (by omega) v852 t851 y854 _ _ _ (fun k_ => some k_ ≠ (.slice Ao37 y854.length co37 : Value).ownBlock) (fun _ => False) rfl rfl ?aO ?aR (fun _ _ h => h) (fun _ h => h.elim) ?aF ?aB ?aS ?aL ?_
    (case aR => exact Zv (Kd.R_reads' HO856.out).2.2)
    (case aB => exact (Zc1 GE838.out))
    (case aF => exact (fun k_ hk => Kd.fresh' (Kd.R_lt (Zr HO856.out)) k_ hk))
    (case aO => exact (Zr HO853.out))
    (case aS => exact (Qar (Zc1 GE838.out)))
    (case aL => have := LMc30.out; omega)
    intro v858 w36 ho hb hg hat
    rw [← Ny857.out] at ho
    have HO859 := Aside0.mk (ho)
    replace BK838 := Aside0.mk (Qa7 (g := gb838) (o := .cells #[.string a1_0, .string a1_1] 81 (0, 0)) (Zu BK838.out) hg (Kd.R_ne HO853.out BK838.out (by decide)))
    replace HO856 := Aside0.mk (Kd.R_after (ok := (fun _ => True)) (by (with_reducible repeat (first | apply Kd.R_alloc | apply Kd.R_drewN | apply Kd.R_drew)); exact Kd.R_mono HO856.out (fun _ hk => ⟨trivial, hk⟩)) hg hat)
    replace HB := Aside0.mk (hb)
    clear HO853
    clear ho hb hg hat
    refine hK.out _ _ ⟨(Qaf BK838.out 0).trans rfl, (Qaf BK838.out 1).trans rfl⟩ (fun hHeld => ?_)
    clear hK K
    refine norm_ (a' := ?_) ?_ ?_
    rotate_left
    ·show Act.put _ (some 50) _ = _
     simp only [Act.put, Zj, Zk, Zm, i64_w, i32_w]
     rfl
    refine Zsp (i := 10) (N := some 8) (pm 13 11) HT_ ?_
    refine Zsp (i := 11) (N := some 9) (pm 13 12) HT_ ?_
    refine Zsp (i := 12) (N := some 10) (pm 13 13) HT_ ?_
    refine done_ (Qcu HT_.out (by kernel_rfl)) ?_
    try go_wp2
    go_ret3
    exact ⟨_, Zq, by (with_reducible repeat (first | apply Kd.R_alloc | apply Kd.R_drewN | apply Kd.R_drew)); exact Kd.R_mono HO859.out (fun _ hk => trivial), Zc1 GE838.out⟩
   rw [if_neg c30] at H
   exact absurd H (by simp)
  rw [if_neg c12] at H
  have c12b0 : (t840 == 0) = J := beq_eq_false_iff_ne.mpr c12
  have c12b1 : (t840 != 0) = F := bne_iff_ne.mpr c12
  (try simp only [c12b0, c12b1])
  simp only [Option.some.injEq, Prod.mk.injEq] at H
  obtain ⟨rfl, rfl, rfl⟩ := H
  go_wp2
  go_ret3
  exact ⟨_, Zq, by first | exact Kd.R_nil _ _ _ _ _ | exact Kd.N_nil _ _ _ _ _ | exact Kd.V_nil _ _ _ _ _ | exact Kd.Q_nil _ _ _ _ _ | exact Kd.S_nil _ _ _ _ _, Zc1 GE838.out⟩
 rw [if_neg c8] at H
 have c8b0 : (t839 == 0) = J := beq_eq_false_iff_ne.mpr c8
 have c8b1 : (t839 != 0) = F := bne_iff_ne.mpr c8
 (try simp only [c8b0, c8b1])
 simp only [Option.some.injEq, Prod.mk.injEq] at H
 obtain ⟨rfl, rfl, rfl⟩ := H
 go_wp2
 go_ret3
 exact ⟨_, Zq, by first | exact Kd.R_nil _ _ _ _ _ | exact Kd.N_nil _ _ _ _ _ | exact Kd.V_nil _ _ _ _ _ | exact Kd.Q_nil _ _ _ _ _ | exact Kd.S_nil _ _ _ _ _, Zc1 GE838.out⟩
def Qbn.f (a0 : Int) : Option Int := if 0 ≤ a0 ∧ a0 ≤ 18446744073709551615 then some (Lib.bitLen a0.toNat : Int) else none
theorem Qbn.tab (n : Nat) (h : n < Lib.len8tab.size) (hn : n ≤ 255) : ((Lib.len8tab[n]'h).toNat : Int) = (Lib.bitLen n : Int) ∧ Lib.bitLen n ≤ 8 := by
 have e := Lib.len8_of (n : Int) (by omega) (by omega)
 have l := Lib.bitLen_le8' (n : Int) (by omega) (by omega)
 rw [Int.toNat_natCast] at e l
 refine ⟨?_, l⟩
 rw [← e]
 unfold Lib.len8
 rw [Int.toNat_natCast, getElem?_pos Lib.len8tab n h]
 rfl
theorem Qbn.close (x m n k : Nat) (h : n < Lib.len8tab.size) (hn : n ≤ 255) (hx : Lib.bitLen x = k + Lib.bitLen m) (hm : n = m) (hk : k ≤ 56) :
  wrap64 ((k : Int) + wrap64 ((Lib.len8tab[n]'h).toNat : Int)) = (Lib.bitLen x : Int) := by
 obtain ⟨a, b⟩ := Qbn.tab n h hn
 subst hm
 rw [a]
 unfold wrap64
 omega
theorem Qbn.close0 (x n : Nat) (h : n < Lib.len8tab.size) (hn : n ≤ 255) (hm : n = x) :
  wrap64 (wrap64 ((Lib.len8tab[n]'h).toNat : Int)) = (Lib.bitLen x : Int) := by
 obtain ⟨a, b⟩ := Qbn.tab n h hn
 subst hm
 rw [a]
 unfold wrap64
 omega
set_option maxHeartbeats 4000000 in
theorem Qbn.walk (x : Int) (w : World) (h0 : 0 ≤ x) (h1 : x ≤ 18446744073709551615) :
  Calls Try.prog 231 #[.int .u64 x] w fun e w' => e = .returned (.int .i64 (Lib.bitLen x.toNat)) ∧ w' = w := by
 have u9 := Try.underlying9
 have u5 := Try.underlying5
 have u65 := Try.underlying283
 have u3 := Try.underlying3
 have u42 := Try.underlying63
 go_enter Try.func231, Try.ntmps231
 go_wp2
 all_goals (first | (exfalso; have := Lib.len8tab_size; omega) | skip)
 all_goals (go_ret; refine ⟨congrArg Ending.returned (congrArg (Value.int IntKind.i64) ?_), rfl⟩)
 all_goals go_light
 ·exact Qbn.close x.toNat (x.toNat / 72057594037927936) _ 56 _ (by omega) (Lib.bitLen_shift56 x.toNat (by omega) (by omega)) (by omega) (by omega)
 ·exact Qbn.close x.toNat (x.toNat / 281474976710656) _ 48 _ (by omega) (Lib.bitLen_shift48 x.toNat (by omega) (by omega)) (by omega) (by omega)
 ·exact Qbn.close x.toNat (x.toNat / 1099511627776) _ 40 _ (by omega) (Lib.bitLen_shift40 x.toNat (by omega) (by omega)) (by omega) (by omega)
 ·exact Qbn.close x.toNat (x.toNat / 4294967296) _ 32 _ (by omega) (Lib.bitLen_shift32 x.toNat (by omega) (by omega)) (by omega) (by omega)
 ·exact Qbn.close x.toNat (x.toNat / 16777216) _ 24 _ (by omega) (Lib.bitLen_shift24 x.toNat (by omega) (by omega)) (by omega) (by omega)
 ·exact Qbn.close x.toNat (x.toNat / 65536) _ 16 _ (by omega) (Lib.bitLen_shift16 x.toNat (by omega) (by omega)) (by omega) (by omega)
 ·exact Qbn.close x.toNat (x.toNat / 256) _ 8 _ (by omega) (Lib.bitLen_shift8 x.toNat (by omega) (by omega)) (by omega) (by omega)
 exact Qbn.close0 x.toNat _ _ (by omega) rfl
theorem Qbn.calls (a0 r : Int) (w : World) (h : Qbn.f a0 = some r) :
  Calls Try.prog 231 #[.int .u64 a0] w fun e w' => e = .returned (.int .i64 r) ∧ Drawn0 w w' := by
 unfold Qbn.f at h
 by_cases c : 0 ≤ a0 ∧ a0 ≤ 18446744073709551615
 ·rw [if_pos c] at h
  obtain rfl := Option.some.inj h
  refine (Qbn.walk a0 w c.1 c.2).mono ?_
  rintro e w' ⟨rfl, rfl⟩
  exact ⟨rfl, Drawn0.refl _⟩
 rw [if_neg c] at h
 cases h
def Qcw.f (a0 : Int) : Option (Int) := (Qbn.f a0).bind fun t197 => (some t197)
set_option maxHeartbeats 8000000 in
theorem Qcw.calls (a0 : Int) (r : Int) (w : World) (h : Qcw.f a0 = some r) :
  Calls Try.prog 195 #[.int .u64 a0] w fun e w' => e = .returned (.int .i64 r) ∧ Drawn0 w w' := by
 have H : ((Qbn.f a0).bind fun t197 => (some t197)) = some r := h
 clear h
 replace H := Option.bind_eq_some_iff.mp H
 obtain ⟨t197, A20, H⟩ := H
 replace H : (some t197) = some r := H
 have A2 := Aside0.mk A20
 clear A20
 obtain rfl := Option.some.inj H
 go_enter Try.func195, Try.ntmps195
 go_wp2_with (first | ((with_reducible refine Qay (f := 231) rfl ?_); refine goesL_ (some 7) rfl rfl Try.func231 (by kernel_rfl) rfl #[.int .u64 a0] rfl (Zl) ?_; (with_reducible refine (Qbn.calls a0 t197 _ A2.out).mono ?_); rintro e w' ⟨rfl, ⟨nd, rfl⟩⟩; refine ⟨_, rfl, ?_⟩))
 go_ret
 exact ⟨Zs, Zd⟩
def Qbr.f (a0_0 : Int) (a0_1 : ByteArray) (a0_2 : ByteArray) (a0_3 : Int) (a0_4 : Int) (a0_5 : Int) : Option (Int) := some (wrap64 (a0_3 - a0_5))
set_option maxHeartbeats 8000000 in
theorem Qbr.calls (a0_0 : Int) (a0_1 : ByteArray) (a0_2 : ByteArray) (a0_3 : Int) (a0_4 : Int) (a0_5 : Int) (r : Int) (w : World) (h : Qbr.f a0_0 a0_1 a0_2 a0_3 a0_4 a0_5 = some r) :
  Calls Try.prog 121 #[.agg #[.int .i64 a0_0, .string a0_1, .string a0_2, .int .i64 a0_3, .int .i64 a0_4, .int .i64 a0_5]] w fun e w' => e = .returned (.int .i64 r) ∧ Below w.heap.size w w' := by
 have hu226 := Try.underlying226
 have HB := Aside0.mk (Below.refl w.heap.size w)
 have H : (some (wrap64 (a0_3 - a0_5))) = some r := h
 clear h
 obtain rfl := Option.some.inj H
 go_enter Try.func121, Try.ntmps121
 go_wp2_with (first | ((with_reducible refine QaT (N := 1) rfl ?_); refine Zbx (N := 1) (cs := #[.int .i64 a0_0, .string a0_1, .string a0_2, .int .i64 a0_3, .int .i64 a0_4, .int .i64 a0_5]) (t := 226) ?_; intro gb860 hg w2 hbox hb; have BK860 := Aside0.mk (hbox); have GW860 := Aside0.mk (Zt w hg (Zb)); have GE860 := GW860; replace HB := Aside0.mk (Qap (Zb) hb); clear hb hbox hg; obtain ⟨hcz3_0, hfz3_0⟩ := Zy (v := (.int .i64 a0_0)) BK860.out 0; obtain ⟨hcz3_1, hfz3_1⟩ := Zy (v := (.string a0_1)) BK860.out 1; obtain ⟨hcz3_2, hfz3_2⟩ := Zy (v := (.string a0_2)) BK860.out 2; obtain ⟨hcz3_3, hfz3_3⟩ := Zy (v := (.int .i64 a0_3)) BK860.out 3; obtain ⟨hcz3_4, hfz3_4⟩ := Zy (v := (.int .i64 a0_4)) BK860.out 4; obtain ⟨hcz3_5, hfz3_5⟩ := Zy (v := (.int .i64 a0_5)) BK860.out 5))
 go_ret
 exact ⟨Zq, Zc1 GE860.out⟩
theorem eqA81 (d : Nat) (w : World) (x0 y0 : ByteArray) (x1 y1 : ByteArray) :
  (Op.equalIn (d + 2) 81 (.agg #[.string x0, .string x1]) (.agg #[.string y0, .string y1])).run Try.prog w = .ok (x0.toList == y0.toList && (x1.toList == y1.toList)) w := by
 refine eqA_of Try.underlying81 (by kernel_rfl) ?_
 refine Qcm (by rfl) (by go_simp; rfl) (by go_simp; rfl) (by go_simp) ?_
 exact Qds (by rfl) (by go_simp; rfl) (by go_simp; rfl) (by go_simp)
theorem eqA226 (d : Nat) (w : World) (x0 y0 : Int) (x1 y1 : ByteArray) (x2 y2 : ByteArray) (x3 y3 : Int) (x4 y4 : Int) (x5 y5 : Int) :
  (Op.equalIn (d + 3) 226 (.agg #[.int .i64 x0, .string x1, .string x2, .int .i64 x3, .int .i64 x4, .int .i64 x5]) (.agg #[.int .i64 y0, .string y1, .string y2, .int .i64 y3, .int .i64 y4, .int .i64 y5])).run Try.prog w = .ok (x0 == y0 && ((x1.toList == y1.toList && (x2.toList == y2.toList)) && (x3 == y3 && (x4 == y4 && (x5 == y5))))) w := by
 refine eqA_of Try.underlying226 (by kernel_rfl) ?_
 refine Qcm (by rfl) (by go_simp; rfl) (by go_simp; rfl) (by go_simp) ?_
 refine Qcm (by rfl) (by go_simp) (by go_simp) (eqA81 (d + 0) w _ _ _ _) ?_
 refine Qcm (by rfl) (by go_simp; rfl) (by go_simp; rfl) (by go_simp) ?_
 refine Qcm (by rfl) (by go_simp; rfl) (by go_simp; rfl) (by go_simp) ?_
 exact Qds (by rfl) (by go_simp; rfl) (by go_simp; rfl) (by go_simp)
set_option maxHeartbeats 4000000 in
theorem Qem.calls (i0 : Int) (m0 n0 : ByteArray) (q0 d0 t0 : Int) (w : World) (hg : (wrap64 (q0 - t0) = 0)) :
  Calls Try.prog 129 (#[.agg #[.int .i64 i0, .string m0, .string n0, .int .i64 q0, .int .i64 d0, .int .i64 t0]] ++ #[]) w fun e w' => e = .returned (.bool F) ∧ Below w.heap.size w w' := by
 have hu226 := Try.underlying226
 have HB := Aside0.mk (Below.refl w.heap.size w)
 have c1a : (wrap64 (q0 - t0) == 0) = F := beq_iff_eq.mpr hg
 clear hg
 go_enter Try.func129, Try.ntmps129
 go_wp2_with (first | ((with_reducible refine QaT (N := 1) rfl ?_); refine Zbx (N := 1) (cs := #[.int .i64 i0, .string m0, .string n0, .int .i64 q0, .int .i64 d0, .int .i64 t0]) (t := 226) ?_; intro g2 hg2 w1 hbox hb; have n_ := Aside0.mk (Qap HB.out hb); clear HB; have HB := n_; have BKg2 := Aside0.mk hbox; have hk0 := (Qaf BKg2.out 0).trans (show (#[.int .i64 i0, .string m0, .string n0, .int .i64 q0, .int .i64 d0, .int .i64 t0] : Array Value)[0]? = some (Value.int .i64 i0) from rfl); have hk1 := (Qaf BKg2.out 1).trans (show (#[.int .i64 i0, .string m0, .string n0, .int .i64 q0, .int .i64 d0, .int .i64 t0] : Array Value)[1]? = some (Value.string m0) from rfl); have hk2 := (Qaf BKg2.out 2).trans (show (#[.int .i64 i0, .string m0, .string n0, .int .i64 q0, .int .i64 d0, .int .i64 t0] : Array Value)[2]? = some (Value.string n0) from rfl); have hk3 := (Qaf BKg2.out 3).trans (show (#[.int .i64 i0, .string m0, .string n0, .int .i64 q0, .int .i64 d0, .int .i64 t0] : Array Value)[3]? = some (Value.int .i64 q0) from rfl); have hk4 := (Qaf BKg2.out 4).trans (show (#[.int .i64 i0, .string m0, .string n0, .int .i64 q0, .int .i64 d0, .int .i64 t0] : Array Value)[4]? = some (Value.int .i64 d0) from rfl); have hk5 := (Qaf BKg2.out 5).trans (show (#[.int .i64 i0, .string m0, .string n0, .int .i64 q0, .int .i64 d0, .int .i64 t0] : Array Value)[5]? = some (Value.int .i64 t0) from rfl); clear n_ hb hbox hg2) | (go_at_call 121; refine (Qbr.calls i0 m0 n0 q0 d0 t0 (wrap64 (q0 - t0)) _ (by unfold Qbr.f; rfl)).mono ?_; rintro _ w5 ⟨rfl, hb⟩; have n_ := Aside0.mk (Qap (Zb) hb); clear HB; have HB := n_; clear n_; clear hb))
 go_ret
 exact ⟨rfl, Zb⟩
set_option maxHeartbeats 4000000 in
theorem Qbc.idx (i0 : Int) (m0 n0 : ByteArray) (q0 d0 t0 : Int) (am : Addr) (c : Nat) (w : World) (hg : (wrap64 (q0 - t0) = 0)) (hr : Kd.C k226 w (some am) 1 [(⟨i0, ⟨m0, n0⟩, q0, d0, t0⟩ : S226)]) :
  Calls Try.prog 232 #[.slice (some am) 1 c, .func (.func 129) #[] #[]] w fun e w' => e = .returned (.int .i64 0) ∧ Below w.heap.size w w' := by
 have hu226 := Try.underlying226
 have HB := Aside0.mk (Below.refl w.heap.size w)
 have HG := Aside0.mk hg
 clear hg
 obtain ⟨am_, ea, hm0, hm1, hm2, hm3, hm4, hm5⟩ := Qb1 hr 0 (by omega) (by simp)
 obtain rfl : am = am_ := by injection ea
 have hn0 : w.cell? am = some (.int .i64 i0) := hm0
 have hn1 : w.cell? ⟨am.block, am.off + 1, none⟩ = some (.string m0) := hm1
 have hn2 : w.cell? ⟨am.block, am.off + 2, none⟩ = some (.string n0) := hm2
 have hn3 : w.cell? ⟨am.block, am.off + 3, none⟩ = some (.int .i64 q0) := hm3
 have hn4 : w.cell? ⟨am.block, am.off + 4, none⟩ = some (.int .i64 d0) := hm4
 have hn5 : w.cell? ⟨am.block, am.off + 5, none⟩ = some (.int .i64 t0) := hm5
 clear hm0 hm1 hm2 hm3 hm4 hm5 hr ea
 go_enter Try.func232, Try.ntmps232
 go_wp2
 refine wp_loop_rounds 1 ?_
 rw [rounds_succ]
 go_wp2_with (first | (go_at_call 129; refine (Qem.calls i0 m0 n0 q0 d0 t0 _ HG.out).mono ?_; rintro _ w5 ⟨rfl, hb⟩; have n_ := Aside0.mk (Qap (Zb) hb); clear HB hb; have HB := n_; clear n_))
 go_ret
 exact ⟨rfl, Zb⟩
set_option maxHeartbeats 4000000 in
theorem Qbc.del (i0 : Int) (m0 n0 : ByteArray) (q0 d0 t0 : Int) (go co base : Nat) (w : World) (hg : (wrap64 (q0 - t0) = 0)) (hr : Kd.R k226 226 w base (fun _ => True) (.slice (some ⟨go, 0, none⟩) 1 co) [(⟨i0, ⟨m0, n0⟩, q0, d0, t0⟩ : S226)]) :
  Calls Try.prog 196 #[.slice (some ⟨go, 0, none⟩) 1 co, .func (.func 129) #[] #[]] w fun e w' => e = .returned (.slice (some ⟨go, 0, none⟩) 0 co) ∧ ∃ w1, Below w.heap.size w w1 ∧ w' = w1.setCells go 0 [.int .i64 0, .string ⟨#[]⟩, .string ⟨#[]⟩, .int .i64 0, .int .i64 0, .int .i64 0] ∧ Kd.R k226 226 w' base (fun _ => True) (.slice (some ⟨go, 0, none⟩) 0 co) [] := by
 have hu226 := Try.underlying226
 have HB := Aside0.mk (Below.refl w.heap.size w)
 have HG := Aside0.mk hg
 have HR := Aside0.mk hr
 clear hg hr
 go_enter Try.func196, Try.ntmps196
 go_wp2_with (first | (go_at_call 232; refine (Qbc.idx i0 m0 n0 q0 d0 t0 ⟨go, 0, none⟩ co _ HG.out (Kd.R_reads' HR.out).2.2).mono ?_; rintro _ w2 ⟨rfl, hb⟩; have n_ := Aside0.mk (Qap (Zb) hb); have nr := Aside0.mk (Kd.R_below HR.out hb); clear HB HR hb; have HB := n_; have HR := nr; clear n_ nr))
 refine wp_loop_rounds 1 ?_
 rw [rounds_succ]
 obtain ⟨ce, hcl, hcm, hcc, hcf⟩ := Kd.R_elem HR.out (⟨i0, ⟨m0, n0⟩, q0, d0, t0⟩ : S226) 0 (by omega) (by omega)
 have hcs : ∀ j, j < 6 → (w2.cell? ⟨go, j, none⟩).isSome = F := fun j hj => by
  have h := hcc j (ce[j]'(by rw [hcl]; exact hj)) (List.getElem?_eq_getElem _)
  rw [Int.toNat_zero, Nat.zero_mul, Nat.zero_add] at h
  rw [h]; rfl
 have hfs : ∀ j, j < 6 → w2.frozen? ⟨go, j, none⟩ = J := fun j _ => by
  have h := hcf j
  rw [Int.toNat_zero, Nat.zero_mul, Nat.zero_add] at h
  exact h
 go_upto_region 12 with (first | ((with_reducible refine QbK (b := .clear) (xs := #[.tmp 38]) rfl ?_); refine Kd.event_run (v := .tuple #[]) (w1 := w2.setCells go 0 [.int .i64 0, .string ⟨#[]⟩, .string ⟨#[]⟩, .int .i64 0, .int .i64 0, .int .i64 0]) rfl ?hr ?_; (case hr => go_simp; rw [QbL.clear_one w2 116 226 0 (.agg #[.int .i64 0, .string ⟨#[]⟩, .string ⟨#[]⟩, .int .i64 0, .int .i64 0, .int .i64 0]) [.int .i64 0, .string ⟨#[]⟩, .string ⟨#[]⟩, .int .i64 0, .int .i64 0, .int .i64 0] Try.underlying116 (by intro w_; first | rfl | (go_simp; done) | kernel_rfl) (by first | rfl | kernel_rfl) go co hcs hfs (by simp [Value.oneCell'])]; rfl)))
 obtain rfl := Qct hcm
 have HP := Kd.R_seg HR.out 0 (by omega) (by omega) (seg := [.int .i64 0, .string ⟨#[]⟩, .string ⟨#[]⟩, .int .i64 0, .int .i64 0, .int .i64 0]) (j := 0) hcl hcc (show 6 ≤ 6 from by decide) (x' := (⟨0, ⟨⟨#[]⟩, ⟨#[]⟩⟩, 0, 0, 0⟩ : S226)) (okp := fun _ => False) (Qb6 _ _ _ (⟨0, ⟨⟨#[]⟩, ⟨#[]⟩⟩, 0, 0, 0⟩ : S226)) (fun _ h => h.elim)
 have HP2 : Kd.R k226 226 (w2.setCells go 0 [.int .i64 0, .string ⟨#[]⟩, .string ⟨#[]⟩, .int .i64 0, .int .i64 0, .int .i64 0]) base (fun _ => True) (.slice (some ⟨go, 0, none⟩) 1 co) [(⟨0, ⟨⟨#[]⟩, ⟨#[]⟩⟩, 0, 0, 0⟩ : S226)] := HP.1
 have HP3 := Aside0.mk (Kd.R_take (m := 0) HP2 (by simp))
 have NB := Aside0.mk (show ∃ w1, Below w.heap.size w w1 ∧ w2.setCells go 0 [.int .i64 0, .string ⟨#[]⟩, .string ⟨#[]⟩, .int .i64 0, .int .i64 0, .int .i64 0] = w1.setCells go 0 [.int .i64 0, .string ⟨#[]⟩, .string ⟨#[]⟩, .int .i64 0, .int .i64 0, .int .i64 0] from ⟨w2, HB.out, rfl⟩)
 clear HP HP2 HB HR hcl hcm hcc hcf hcs hfs
 generalize w2.setCells go 0 [.int .i64 0, .string ⟨#[]⟩, .string ⟨#[]⟩, .int .i64 0, .int .i64 0, .int .i64 0] = w3 at HP3 NB ⊢
 go_wp2
 go_ret
 obtain ⟨w1, hb, rfl⟩ := NB.out
 exact ⟨rfl, w1, hb, rfl, HP3.out⟩
set_option maxHeartbeats 4000000 in
theorem Qbc.wo (i0 : Int) (m0 n0 : ByteArray) (q0 d0 t0 : Int) (am : Addr) (c : Nat) (w : World) (hg : (wrap64 (q0 - t0) = 0)) (hr : Kd.C k226 w (some am) 1 [(⟨i0, ⟨m0, n0⟩, q0, d0, t0⟩ : S226)]) (hc : 1 ≤ c) :
  Calls Try.prog 127 #[.slice (some am) 1 c, .func (.func 129) #[] #[]] w fun e w' => ∃ v0_ : Value, e = .returned (v0_) ∧ Kd.R k226 226 w' w.heap.size (fun _ => True) v0_ [] ∧ Below w.heap.size w w' := by
 have HB := Aside0.mk (Below.refl w.heap.size w)
 have HG := Aside0.mk hg
 have HR := Aside0.mk hr
 have HC := Aside0.mk hc
 clear hg hr hc
 go_enter Try.func127, Try.ntmps127
 go_wp2_with (first | (go_at_call 117; refine (QaA.calls (some am) c [(⟨i0, ⟨m0, n0⟩, q0, d0, t0⟩ : S226)] [(⟨i0, ⟨m0, n0⟩, q0, d0, t0⟩ : S226)] _ (Kd.C_below HR.out HB.out) HC.out (by simp [QaA.f])).mono ?_; rintro _ w2 ⟨vo, rfl, ho, hb⟩; have n_ := Aside0.mk (Qap HB.out hb); have no := Aside0.mk (Kd.R_lower ho (Qar HB.out)); clear HB hb ho; have HB := n_; obtain ⟨go, co, eo, _, _, _, HG0⟩ := Kd.R_form no.out (by simp); have eo2 : vo = .slice (some ⟨go, 0, none⟩) 1 co := eo; subst eo2; clear eo HG0 n_) | (go_at_call 196; refine (Qbc.del i0 m0 n0 q0 d0 t0 go co w.heap.size _ HG.out no.out).mono ?_; rintro _ w3 ⟨rfl, w4, hb, hw, hr⟩; have gb := Kd.R_base no.out go rfl; have n_ := Qap HB.out hb; have HB2 := Aside0.mk n_; have HX := Aside0.mk hw; have HY := Aside0.mk hr; have HZ := Aside0.mk gb; clear HB no hb hw hr gb n_))
 go_ret
 have HB := HB2
 have gb := HZ.out
 exact ⟨_, rfl, HY.out, by rw [HX.out]; exact (Qae (j := 5) (v := .int .i64 0) (Qae (j := 4) (v := .int .i64 0) (Qae (j := 3) (v := .int .i64 0) (Qae (j := 2) (v := .string ⟨#[]⟩) (Qae (j := 1) (v := .string ⟨#[]⟩) (Qae (j := 0) (v := .int .i64 0) HB.out gb) gb) gb) gb) gb) gb)⟩
def Qbc.f (k : Nat) (l0 : List (S226)) : Option (List (S226) × Int) :=
 (QaL.f k l0).bind fun e => if e = 0 then ((match l0 with
  | [c] => if wrap64 (c.f2 - c.f4) = 0 then some ([], 0) else none
  | _ => none)) else none
theorem Qbc.mono : ∀ a0 k, LeO (Qbc.f k a0) (Qbc.f (k + 1) a0) := by
 intro a0 k
 unfold Qbc.f
 exact LeO.bind (QaL.mono _ _) (fun _ => LeO.refl _)
set_option maxHeartbeats 4000000 in
theorem Qbc.calls (k : Nat) (A0 : Option Addr) (c0 : Nat) (l0 : List (S226)) (r1 : List (S226)) (r2 : Int) (w : World) (hr0 : Kd.C k226 w A0 l0.length l0) (hc0 : l0.length ≤ c0) (h : Qbc.f k l0 = some (r1, r2)) :
  Calls Try.prog 48 #[.slice A0 l0.length c0] w fun e w' => ∃ v0_ : Value, e = .returned (.tuple #[v0_, .int .i64 r2]) ∧ Kd.R k226 226 w' w.heap.size (fun _ => True) v0_ r1 ∧ Below w.heap.size w w' := by
 have hu226 := Try.underlying226
 unfold Qbc.f at h
 replace h := Option.bind_eq_some_iff.1 h
 obtain ⟨e0, A00, H⟩ := h
 have A0_ := Aside0.mk A00
 clear A00
 by_cases c1 : e0 = 0
 ·rw [if_pos c1] at H
  subst c1
  match l0, hr0, hc0, A0_, H with
  | [], hr0, hc0, A0_, H => cases H
  | _ :: _ :: _, hr0, hc0, A0_, H => cases H
  | [⟨i0, ⟨m0, n0⟩, q0, d0, t0⟩], hr0, hc0, A0_, H =>
   dsimp only at H
   by_cases c3 : wrap64 (q0 - t0) = 0
   ·rw [if_pos c3] at H
    simp only [Option.some.injEq, Prod.mk.injEq] at H
    obtain ⟨rfl, rfl⟩ := H
    have HG := Aside0.mk c3
    have HR0 := Aside0.mk hr0
    have HC0 := Aside0.mk hc0
    clear c3 hr0 hc0
    have HB := Aside0.mk (Below.refl w.heap.size w)
    obtain ⟨ad, rfl, _⟩ := Qb1 HR0.out 0 (by omega) (by simp)
    go_enter Try.func48, Try.ntmps48
    go_wp2_with (first | (go_at_call 115; refine (QaL.calls k (some ad) c0 _ 0 _ (Kd.C_below HR0.out HB.out) HC0.out A0_.out).mono ?_; rintro _ w2 ⟨rfl, hb⟩; have n_ := Aside0.mk (Qap HB.out hb); clear HB hb; have HB := n_; clear n_) | (go_at_call 127; refine (Qbc.wo i0 m0 n0 q0 d0 t0 ad c0 _ HG.out (Kd.C_below HR0.out HB.out) HC0.out).mono ?_; rintro _ w6 ⟨v0, rfl, hr, hb⟩; have n_ := Aside0.mk (Qap HB.out hb); have HY := Aside0.mk (Kd.R_lower hr (Qar HB.out)); clear HB hb hr; have HB := n_; clear n_))
    go_ret2
    exact ⟨_, rfl, HY.out, HB.out⟩
   rw [if_neg c3] at H
   cases H
 rw [if_neg c1] at H
 cases H
def Qbw.f (a0 : Int) : Option (Bool) := if a0 ≥ (-1152921504606846976) then (some (decide (a0 ≤ 1152921504606846976))) else (some J)
set_option maxHeartbeats 8000000 in
theorem Qbw.calls (a0 : Int) (r : Bool) (w : World) (h : Qbw.f a0 = some r) :
  Calls Try.prog 136 #[.int .i64 a0] w fun e w' => e = .returned (.bool r) ∧ Drawn0 w w' := by
 have H : (if a0 ≥ (-1152921504606846976) then (some (decide (a0 ≤ 1152921504606846976))) else (some J)) = some r := h
 clear h
 by_cases c2 : a0 ≥ (-1152921504606846976)
 ·rw [if_pos c2] at H
  have c2b0 : decide ((-1152921504606846976) ≤ a0) = F := decide_eq_true c2
  clear c2
  obtain rfl := Option.some.inj H
  go_enter Try.func136, Try.ntmps136
  go_wp2
  go_ret
  exact ⟨Zs, Zd⟩
 rw [if_neg c2] at H
 have c2b0 : decide ((-1152921504606846976) ≤ a0) = J := decide_eq_false c2
 clear c2
 obtain rfl := Option.some.inj H
 go_enter Try.func136, Try.ntmps136
 go_wp2
 go_ret
 exact ⟨Zs, Zd⟩
def QbX.f (a0 : Int) : Option (Int × Int) := (Qbw.f a0).bind fun t111 => (if t111 = F then (some (a0, 0)) else (some (0, 3)))
set_option maxHeartbeats 8000000 in
theorem QbX.calls (a0 : Int) (r1 : Int) (r2 : Int) (w : World) (h : QbX.f a0 = some (r1, r2)) :
  Calls Try.prog 137 #[.int .i64 a0] w fun e w' => e = .returned (.tuple #[.int .i64 r1, .int .i64 r2]) ∧ Drawn0 w w' := by
 have H : ((Qbw.f a0).bind fun t111 => (if t111 = F then (some (a0, 0)) else (some (0, 3)))) = some (r1, r2) := h
 clear h
 replace H := Option.bind_eq_some_iff.mp H
 obtain ⟨t111, A20, H⟩ := H
 replace H : (if t111 = F then (some (a0, 0)) else (some (0, 3))) = some (r1, r2) := H
 have A2 := Aside0.mk A20
 clear A20
 go_enter Try.func137, Try.ntmps137
 go_upto_if 6 with (first | ((with_reducible refine Qay (f := 136) rfl ?_); refine goesL_ (some 5) rfl rfl Try.func136 (by kernel_rfl) rfl #[.int .i64 a0] rfl (Zl) ?_; (with_reducible refine (Qbw.calls a0 t111 _ A2.out).mono ?_); rintro e w' ⟨rfl, ⟨nd, rfl⟩⟩; refine ⟨_, rfl, ?_⟩))
 (try simp only [Act.put, Zj, Zk, Zm])
 by_cases c3 : t111 = F
 ·subst c3
  have H1 : (some (a0, 0)) = some (r1, r2) := by rw [if_pos rfl] at H; exact H
  clear H
  have H := H1
  clear H1
  simp only [Option.some.injEq, Prod.mk.injEq] at H
  obtain ⟨rfl, rfl⟩ := H
  go_wp2
  go_ret2
  exact ⟨Zs, Zd⟩
 replace c3 := Bool.eq_false_iff.mpr c3
 subst c3
 have H1 : (some (0, 3)) = some (r1, r2) := by rw [if_neg (show ¬ (J = F) by decide)] at H; exact H
 clear H
 have H := H1
 clear H1
 simp only [Option.some.injEq, Prod.mk.injEq] at H
 obtain ⟨rfl, rfl⟩ := H
 go_wp2
 go_ret2
 exact ⟨Zs, Zd⟩
def Qa1.l0 : Nat → List Int → Int → Int → Int → Int → Option (Int × Int)
 | 0, _, _, _, _, _ => none
 | k + 1, x0, x4, x5, x9, x10 => if x10 < x9 then (if 0 ≤ x10 then (if x10 < (x0.length : Int) then ((Qbw.f (rd x0 x10)).bind fun t113 => (if t113 = F then (Qa1.l0 k x0 (wrap64 (x4 + ((rd x0 x10) / 4294967296))) (wrap64 (x5 + (Go.bits .and .i64 (rd x0 x10) 4294967295))) x9 (wrap64 (x10 + 1))) else (some (0, 2)))) else (none)) else (none)) else (if (wrap64 (x4 + (x5 / 4294967296))) < (-268435456) then (some (0, 3)) else (if (wrap64 (x4 + (x5 / 4294967296))) > 268435456 then (some (0, 3)) else ((QbX.f (wrap64 ((wrap64 ((wrap64 (x4 + (x5 / 4294967296))) * 4294967296)) + (Go.bits .and .i64 x5 4294967295)))).bind fun bt116 => (some (bt116.1, bt116.2)))))
def Qa1.f (k : Nat) (l0 : List Int) : Option (Int × Int) := Qa1.l0 k l0 0 0 (l0.length : Int) 0
theorem Qa1.mono_l : ∀ k, (∀ y0 y1 y2 y3 y4, LeO (Qa1.l0 k y0 y1 y2 y3 y4) (Qa1.l0 (k + 1) y0 y1 y2 y3 y4))
 | 0 => fun _ _ _ _ _ r h => by simp [Qa1.l0] at h
 | k + 1 => by
  have ih0 := Qa1.mono_l k
  intro y0 y1 y2 y3 y4
  unfold Qa1.l0
  exact ZM1 ih0
theorem Qa1.mono : ∀ a0 k, LeO (Qa1.f k a0) (Qa1.f (k + 1) a0) := by
 intro a0 k
 have ih0 := Qa1.mono_l k
 unfold Qa1.f
 exact ZM1 ih0
set_option maxHeartbeats 8000000 in
theorem Qa1.calls (k : Nat) (A0 : Option Addr) (c0 : Nat) (l0 : List Int) (r1 : Int) (r2 : Int) (w : World) (hr0 : Kd.C (Kd.int .i64) w A0 l0.length l0) (hc0 : l0.length ≤ c0) (h : Qa1.f k l0 = some (r1, r2)) :
  Calls Try.prog 56 #[.slice A0 l0.length c0] w fun e w' => e = .returned (.tuple #[.int .i64 r1, .int .i64 r2]) ∧ Drawn0 w w' := by
 have HR0 := Aside0.mk hr0
 have HC0 := Aside0.mk hc0
 clear hr0 hc0
 have H : (Qa1.l0 k l0 0 0 (l0.length : Int) 0) = some (r1, r2) := h
 clear h
 have H' := Aside0.mk H
 clear H
 go_enter Try.func56, Try.ntmps56
 go_wp2
 go_loopg [4, 5, 10] k (fun kq v4 v5 v10 w' => ∃ (x4_1 : Int) (x5_1 : Int) (x10_1 : Int), v4 = .int .i64 x4_1 ∧ v5 = .int .i64 x5_1 ∧ v10 = .int .i64 x10_1 ∧ Aside0 (Qa1.l0 kq l0 x4_1 x5_1 (l0.length : Int) x10_1 = some (r1, r2)) ∧ Aside0 (kq ≤ k) ∧ Drawn0 w w')
 case atStart => exact ⟨(0), (0), (0), (Zs), (Zs), (Zs), H', ⟨Nat.le_refl _⟩, Zd⟩
 case round =>
  clear H'
  obtain ⟨x4_1, x5_1, x10_1, rfl, rfl, rfl, HA, HK1, ⟨m1, rfl⟩⟩ := hrel
  cases gk with
  | zero => exact absurd HA.out (by simp [Qa1.l0])
  | succ k1 =>
   have H := HA.out
   clear HA
   simp only [Qa1.l0] at H
   by_cases c2 : x10_1 < (l0.length : Int)
   ·rw [if_pos c2] at H
    have c2b0 : decide (x10_1 < (l0.length : Int)) = F := decide_eq_true c2
    clear c2
    (try simp only [c2b0])
    by_cases c3 : 0 ≤ x10_1
    ·rw [if_pos c3] at H
     have c3b0 : decide (0 ≤ x10_1) = F := decide_eq_true c3
     clear c3
     by_cases c4 : x10_1 < (l0.length : Int)
     ·rw [if_pos c4] at H
      have c4b0 : decide (x10_1 < (l0.length : Int)) = F := decide_eq_true c4
      clear c4
      replace H := Option.bind_eq_some_iff.mp H
      obtain ⟨t113, A50, H⟩ := H
      replace H : (if t113 = F then (Qa1.l0 k1 l0 (wrap64 (x4_1 + ((rd l0 x10_1) / 4294967296))) (wrap64 (x5_1 + (Go.bits .and .i64 (rd l0 x10_1) 4294967295))) (l0.length : Int) (wrap64 (x10_1 + 1))) else (some (0, 2))) = some (r1, r2) := H
      have A5 := Aside0.mk A50
      clear A50
      have p112 : 0 ≤ (x10_1 : Int) := Ze
      have q112 : x10_1 < (l0.length : Int) := Ze
      obtain ⟨ad112, e112, hx112_0⟩ := Kd.at_int HR0.out x10_1 p112 q112
      cases e112
      replace p112 := eq_true p112
      replace q112 := eq_true q112
      go_upto_if 18 with (first | ((with_reducible refine Qay (f := 136) rfl ?_); refine goesL_ (some 17) rfl rfl Try.func136 (by kernel_rfl) rfl #[.int .i64 (rd l0 x10_1)] rfl (Zl) ?_; (with_reducible refine (Qbw.calls (rd l0 x10_1) t113 _ A5.out).mono ?_); rintro e w' ⟨rfl, ⟨nd, rfl⟩⟩; refine ⟨_, rfl, ?_⟩))
      (try simp only [Act.put, Zj, Zk, Zm])
      by_cases c6 : t113 = F
      ·subst c6
       have H1 : (Qa1.l0 k1 l0 (wrap64 (x4_1 + ((rd l0 x10_1) / 4294967296))) (wrap64 (x5_1 + (Go.bits .and .i64 (rd l0 x10_1) 4294967295))) (l0.length : Int) (wrap64 (x10_1 + 1))) = some (r1, r2) := by rw [if_pos rfl] at H; exact H
       clear H
       have H := H1
       clear H1
       have H' := Aside0.mk H
       clear H
       have p114 : 0 ≤ (x10_1 : Int) := Ze
       have q114 : x10_1 < (l0.length : Int) := Ze
       obtain ⟨ad114, e114, hx114_0⟩ := Kd.at_int HR0.out x10_1 p114 q114
       obtain rfl : ad112 = ad114 := (by injection e114)
       replace p114 := eq_true p114
       replace q114 := eq_true q114
       have p115 : 0 ≤ (x10_1 : Int) := Ze
       have q115 : x10_1 < (l0.length : Int) := Ze
       obtain ⟨ad115, e115, hx115_0⟩ := Kd.at_int HR0.out x10_1 p115 q115
       obtain rfl : ad112 = ad115 := (by injection e115)
       replace p115 := eq_true p115
       replace q115 := eq_true q115
       go_wp2
       go_roundg k1
       case measure => have := HK1.out; omega
       case rel => exact ⟨(wrap64 (x4_1 + ((rd l0 x10_1) / 4294967296))), (wrap64 (x5_1 + (Go.bits .and .i64 (rd l0 x10_1) 4294967295))), (wrap64 (x10_1 + 1)), (Zs), (Zs), (Zs), H', ⟨by have := HK1.out; omega⟩, Zd⟩
      replace c6 := Bool.eq_false_iff.mpr c6
      subst c6
      have H1 : (some (0, 2)) = some (r1, r2) := by rw [if_neg (show ¬ (J = F) by decide)] at H; exact H
      clear H
      have H := H1
      clear H1
      simp only [Option.some.injEq, Prod.mk.injEq] at H
      obtain ⟨rfl, rfl⟩ := H
      go_wp2
      go_ret2
      exact ⟨Zs, Zd⟩
     rw [if_neg c4] at H
     exact absurd H (by simp)
    rw [if_neg c3] at H
    exact absurd H (by simp)
   rw [if_neg c2] at H
   have c2b0 : decide (x10_1 < (l0.length : Int)) = J := decide_eq_false c2
   clear c2
   (try simp only [c2b0])
   by_cases c7 : (wrap64 (x4_1 + (x5_1 / 4294967296))) < (-268435456)
   ·rw [if_pos c7] at H
    have c7b0 : decide ((wrap64 (x4_1 + (x5_1 / 4294967296))) < (-268435456)) = F := decide_eq_true c7
    clear c7
    simp only [Option.some.injEq, Prod.mk.injEq] at H
    obtain ⟨rfl, rfl⟩ := H
    go_wp2
    go_ret2
    exact ⟨Zs, Zd⟩
   rw [if_neg c7] at H
   have c7b0 : decide ((wrap64 (x4_1 + (x5_1 / 4294967296))) < (-268435456)) = J := decide_eq_false c7
   clear c7
   by_cases c8 : (wrap64 (x4_1 + (x5_1 / 4294967296))) > 268435456
   ·rw [if_pos c8] at H
    have c8b0 : decide (268435456 < (wrap64 (x4_1 + (x5_1 / 4294967296)))) = F := decide_eq_true c8
    clear c8
    (try simp only [c8b0])
    simp only [Option.some.injEq, Prod.mk.injEq] at H
    obtain ⟨rfl, rfl⟩ := H
    go_wp2
    go_ret2
    exact ⟨Zs, Zd⟩
   rw [if_neg c8] at H
   have c8b0 : decide (268435456 < (wrap64 (x4_1 + (x5_1 / 4294967296)))) = J := decide_eq_false c8
   clear c8
   (try simp only [c8b0])
   replace H := Option.bind_eq_some_iff.mp H
   obtain ⟨⟨t116, t117⟩, A90, H⟩ := H
   replace H : (some (t116, t117)) = some (r1, r2) := H
   have A9 := Aside0.mk A90
   clear A90
   simp only [Option.some.injEq, Prod.mk.injEq] at H
   obtain ⟨rfl, rfl⟩ := H
   go_wp2_with (first | ((with_reducible refine Qay (f := 137) rfl ?_); refine goesL_ (some 52) rfl rfl Try.func137 (by kernel_rfl) rfl #[.int .i64 (wrap64 ((wrap64 ((wrap64 (x4_1 + (x5_1 / 4294967296))) * 4294967296)) + (Go.bits .and .i64 x5_1 4294967295)))] rfl (Zl) ?_; (with_reducible refine (QbX.calls (wrap64 ((wrap64 ((wrap64 (x4_1 + (x5_1 / 4294967296))) * 4294967296)) + (Go.bits .and .i64 x5_1 4294967295))) t116 t117 _ A9.out).mono ?_); rintro e w' ⟨rfl, ⟨nd, rfl⟩⟩; refine ⟨_, rfl, ?_⟩))
   go_ret2
   exact ⟨Zs, Zd⟩
theorem eqA213 (d : Nat) (w : World) (x0 y0 : Int) (x1 y1 : Int) :
  (Op.equalIn (d + 2) 213 (.agg #[.int .i64 x0, .int .i64 x1]) (.agg #[.int .i64 y0, .int .i64 y1])).run Try.prog w = .ok (x0 == y0 && (x1 == y1)) w := by
 refine eqA_of Try.underlying213 (by kernel_rfl) ?_
 refine Qcm (by rfl) (by go_simp; rfl) (by go_simp; rfl) (by go_simp) ?_
 exact Qds (by rfl) (by go_simp; rfl) (by go_simp; rfl) (by go_simp)
def QbO.f (a0 : Int) : Option (Bool) := if a0 ≥ 0 then (some (decide (a0 ≤ 1073741824))) else (some J)
set_option maxHeartbeats 8000000 in
theorem QbO.calls (a0 : Int) (r : Bool) (w : World) (h : QbO.f a0 = some r) :
  Calls Try.prog 176 #[.int .i64 a0] w fun e w' => e = .returned (.bool r) ∧ Drawn0 w w' := by
 have H : (if a0 ≥ 0 then (some (decide (a0 ≤ 1073741824))) else (some J)) = some r := h
 clear h
 by_cases c2 : a0 ≥ 0
 ·rw [if_pos c2] at H
  have c2b0 : decide (0 ≤ a0) = F := decide_eq_true c2
  clear c2
  obtain rfl := Option.some.inj H
  go_enter Try.func176, Try.ntmps176
  go_wp2
  go_ret
  exact ⟨Zs, Zd⟩
 rw [if_neg c2] at H
 have c2b0 : decide (0 ≤ a0) = J := decide_eq_false c2
 clear c2
 obtain rfl := Option.some.inj H
 go_enter Try.func176, Try.ntmps176
 go_wp2
 go_ret
 exact ⟨Zs, Zd⟩
def Qbu.f (a0 a1 : Int) : Option (Int × Int) :=
 if 0 ≤ a0 ∧ a0 ≤ 18446744073709551615 ∧ 0 ≤ a1 ∧ a1 ≤ 18446744073709551615 then some (a0 * a1 / 18446744073709551616, a0 * a1 % 18446744073709551616) else none
theorem Qc2 (a : Nat) (ha : a < 18446744073709551616) : Go.bits .and .u64 (a : Int) 4294967295 = ((a % 4294967296 : Nat) : Int) := by
 have h := bits_and_u64_nat a 4294967295 ha (by omega)
 have e : a &&& 4294967295 = a % 4294967296 := Nat.and_two_pow_sub_one_eq_mod a 32
 rw [e] at h
 exact h
theorem QfL (a : Nat) : (a : Int) / 4294967296 = ((a / 4294967296 : Nat) : Int) := by omega
theorem QfM (a b : Nat) : (a : Int) * (b : Int) = ((a * b : Nat) : Int) := (Int.natCast_mul a b).symm
theorem QfK (a b : Nat) : (a : Int) + (b : Int) = ((a + b : Nat) : Int) := (Int.natCast_add a b).symm
theorem Qb2 (a : Nat) (ha : a < 18446744073709551616) : IntKind.u64.wrap (a : Int) = (a : Int) := by rw [IntKind.wrap_u64]; omega
theorem Qfl (a : Nat) : IntKind.u64.wrap (a : Int) = ((a % 18446744073709551616 : Nat) : Int) := by rw [IntKind.wrap_u64]; omega
set_option maxHeartbeats 1000000 in
theorem Qbu.walk (x y : Nat) (hx : x < 18446744073709551616) (hy : y < 18446744073709551616) (w : World) :
  Calls Try.prog 189 #[.int .u64 x, .int .u64 y] w fun e w' => e = .returned (.tuple #[.int .u64 ((x * y / 18446744073709551616 : Nat) : Int), .int .u64 ((x * y % 18446744073709551616 : Nat) : Int)]) ∧ w' = w := by
 obtain ⟨bd, bt, bw, hhi⟩ := Lib.mul64_hi x y hx hy
 have ba := Lib.half_mul_le (a := x / 4294967296) (b := y / 4294967296) (by omega) (by omega)
 have bb := Lib.half_mul_le (a := x / 4294967296) (b := y % 4294967296) (by omega) (by omega)
 have bc := Lib.half_mul_le (a := x % 4294967296) (b := y / 4294967296) (by omega) (by omega)
 have ba' : x / 4294967296 * (y / 4294967296) < 18446744073709551616 := by omega
 have bb' : x / 4294967296 * (y % 4294967296) < 18446744073709551616 := by omega
 have bc' : x % 4294967296 * (y / 4294967296) < 18446744073709551616 := by omega
 have bh1 : x / 4294967296 * (y / 4294967296) + (x / 4294967296 * (y % 4294967296) + x % 4294967296 * (y % 4294967296) / 4294967296) / 4294967296 < 18446744073709551616 := by omega
 have bh : x / 4294967296 * (y / 4294967296) + (x / 4294967296 * (y % 4294967296) + x % 4294967296 * (y % 4294967296) / 4294967296) / 4294967296 + ((x / 4294967296 * (y % 4294967296) + x % 4294967296 * (y % 4294967296) / 4294967296) % 4294967296 + x % 4294967296 * (y / 4294967296)) / 4294967296 < 18446744073709551616 := by omega
 go_enter Try.func189, Try.ntmps189
 go_wp2
 simp only [Qc2 x hx, Qc2 y hy, QfL, QfM, QfK, Qb2 _ bd, Qb2 _ bb', Qb2 _ bt, Qc2 _ bt, Qb2 _ bc', Qb2 _ bw, Qb2 _ ba', Qb2 _ bh1, Qb2 _ bh, Qfl (x * y)]
 rw [hhi]
 go_ret2
 exact ⟨rfl, rfl⟩
theorem Qbu.calls (a0 a1 r1 r2 : Int) (w : World) (h : Qbu.f a0 a1 = some (r1, r2)) :
  Calls Try.prog 189 #[.int .u64 a0, .int .u64 a1] w fun e w' => e = .returned (.tuple #[.int .u64 r1, .int .u64 r2]) ∧ Drawn0 w w' := by
 unfold Qbu.f at h
 by_cases c : 0 ≤ a0 ∧ a0 ≤ 18446744073709551615 ∧ 0 ≤ a1 ∧ a1 ≤ 18446744073709551615
 ·rw [if_pos c] at h
  obtain ⟨c1, c2, c3, c4⟩ := c
  obtain ⟨x, rfl⟩ := Int.eq_ofNat_of_zero_le c1
  obtain ⟨y, rfl⟩ := Int.eq_ofNat_of_zero_le c3
  have h' := Option.some.inj h
  simp only [Prod.mk.injEq] at h'
  obtain ⟨rfl, rfl⟩ := h'
  refine (Qbu.walk x y (by omega) (by omega) w).mono ?_
  rintro e w' ⟨rfl, rfl⟩
  exact ⟨rfl, Drawn0.refl _⟩
 rw [if_neg c] at h
 cases h
def Qbq.f (a0 : Int) : Option Int := if -9223372036854775808 ≤ a0 ∧ a0 ≤ 9223372036854775807 then some (a0.natAbs : Int) else none
theorem Qbq.walk (a0 : Int) (w : World) (h0 : -9223372036854775808 ≤ a0) (h1 : a0 ≤ 9223372036854775807) :
  Calls Try.prog 190 #[.int .i64 a0] w fun e w' => e = .returned (.int .u64 (a0.natAbs : Int)) ∧ w' = w := by
 go_enter Try.func190, Try.ntmps190
 go_wp2
 all_goals (go_ret; refine ⟨congrArg Ending.returned (congrArg (Value.int IntKind.u64) ?_), rfl⟩)
 all_goals go_light
 all_goals ((try simp only [IntKind.wrap_u64]); (try unfold wrap64); omega)
theorem Qbq.calls (a0 r : Int) (w : World) (h : Qbq.f a0 = some r) :
  Calls Try.prog 190 #[.int .i64 a0] w fun e w' => e = .returned (.int .u64 r) ∧ Drawn0 w w' := by
 unfold Qbq.f at h
 by_cases c : -9223372036854775808 ≤ a0 ∧ a0 ≤ 9223372036854775807
 ·rw [if_pos c] at h
  obtain rfl := Option.some.inj h
  refine (Qbq.walk a0 w c.1 c.2).mono ?_
  rintro e w' ⟨rfl, rfl⟩
  exact ⟨rfl, Drawn0.refl _⟩
 rw [if_neg c] at h
 cases h
def Qbl.f (a0 : Int) (a1 : Bool) : Option (Int × Int) := if a0 > 1152921504606846976 then (some (0, 3)) else (if a1 = F then (some (wrap64 (-(wrap64 (a0))), 0)) else (some (wrap64 (a0), 0)))
set_option maxHeartbeats 8000000 in
theorem Qbl.calls (a0 : Int) (a1 : Bool) (r1 : Int) (r2 : Int) (w : World) (h : Qbl.f a0 a1 = some (r1, r2)) :
  Calls Try.prog 193 #[.int .u64 a0, .bool a1] w fun e w' => e = .returned (.tuple #[.int .i64 r1, .int .i64 r2]) ∧ Drawn0 w w' := by
 have H : (if a0 > 1152921504606846976 then (some (0, 3)) else (if a1 = F then (some (wrap64 (-(wrap64 (a0))), 0)) else (some (wrap64 (a0), 0)))) = some (r1, r2) := h
 clear h
 by_cases c3 : a0 > 1152921504606846976
 ·rw [if_pos c3] at H
  have c3b0 : decide (1152921504606846976 < a0) = F := decide_eq_true c3
  clear c3
  simp only [Option.some.injEq, Prod.mk.injEq] at H
  obtain ⟨rfl, rfl⟩ := H
  go_enter Try.func193, Try.ntmps193
  go_wp2
  go_ret2
  exact ⟨Zs, Zd⟩
 rw [if_neg c3] at H
 have c3b0 : decide (1152921504606846976 < a0) = J := decide_eq_false c3
 clear c3
 by_cases c4 : a1 = F
 ·subst c4
  have H1 : (some (wrap64 (-(wrap64 (a0))), 0)) = some (r1, r2) := by rw [if_pos rfl] at H; exact H
  clear H
  have H := H1
  clear H1
  simp only [Option.some.injEq, Prod.mk.injEq] at H
  obtain ⟨rfl, rfl⟩ := H
  go_enter Try.func193, Try.ntmps193
  go_wp2
  go_ret2
  exact ⟨Zs, Zd⟩
 replace c4 := Bool.eq_false_iff.mpr c4
 subst c4
 have H1 : (some (wrap64 (a0), 0)) = some (r1, r2) := by rw [if_neg (show ¬ (J = F) by decide)] at H; exact H
 clear H
 have H := H1
 clear H1
 simp only [Option.some.injEq, Prod.mk.injEq] at H
 obtain ⟨rfl, rfl⟩ := H
 go_enter Try.func193, Try.ntmps193
 go_wp2
 go_ret2
 exact ⟨Zs, Zd⟩
def Qb5.f (a0_0 : ByteArray) (a0_1 : Int) (a0_2 : Int) (a0_3 : Int) (a0_4 : Int) (a0_5 : Int) : Option (ByteArray) := some a0_0
set_option maxHeartbeats 8000000 in
theorem Qb5.calls (a0_0 : ByteArray) (a0_1 : Int) (a0_2 : Int) (a0_3 : Int) (a0_4 : Int) (a0_5 : Int) (r : ByteArray) (w : World) (h : Qb5.f a0_0 a0_1 a0_2 a0_3 a0_4 a0_5 = some r) :
  Calls Try.prog 110 #[.agg #[.string a0_0, .int .i64 a0_1, .int .i64 a0_2, .int .i64 a0_3, .int .i64 a0_4, .int .i64 a0_5]] w fun e w' => e = .returned (.string r) ∧ Below w.heap.size w w' := by
 have hu112 := Try.underlying112
 have HB := Aside0.mk (Below.refl w.heap.size w)
 have H : (some a0_0) = some r := h
 clear h
 obtain rfl := Option.some.inj H
 go_enter Try.func110, Try.ntmps110
 go_wp2_with (first | ((with_reducible refine QaT (N := 1) rfl ?_); refine Zbx (N := 1) (cs := #[.string a0_0, .int .i64 a0_1, .int .i64 a0_2, .int .i64 a0_3, .int .i64 a0_4, .int .i64 a0_5]) (t := 112) ?_; intro gb937 hg w2 hbox hb; have BK937 := Aside0.mk (hbox); have GW937 := Aside0.mk (Zt w hg (Zb)); have GE937 := GW937; replace HB := Aside0.mk (Qap (Zb) hb); clear hb hbox hg; obtain ⟨hcz3_0, hfz3_0⟩ := Zy (v := (.string a0_0)) BK937.out 0; obtain ⟨hcz3_1, hfz3_1⟩ := Zy (v := (.int .i64 a0_1)) BK937.out 1; obtain ⟨hcz3_2, hfz3_2⟩ := Zy (v := (.int .i64 a0_2)) BK937.out 2; obtain ⟨hcz3_3, hfz3_3⟩ := Zy (v := (.int .i64 a0_3)) BK937.out 3; obtain ⟨hcz3_4, hfz3_4⟩ := Zy (v := (.int .i64 a0_4)) BK937.out 4; obtain ⟨hcz3_5, hfz3_5⟩ := Zy (v := (.int .i64 a0_5)) BK937.out 5))
 go_ret
 exact ⟨Zq, Zc1 GE937.out⟩
def QbA.f (a0 : Int) : Option (Int) := (Qbn.f a0).bind fun t451 => (some (wrap64 (64 - t451)))
set_option maxHeartbeats 8000000 in
theorem QbA.calls (a0 : Int) (r : Int) (w : World) (h : QbA.f a0 = some r) :
  Calls Try.prog 220 #[.int .u64 a0] w fun e w' => e = .returned (.int .i64 r) ∧ Drawn0 w w' := by
 have H : ((Qbn.f a0).bind fun t451 => (some (wrap64 (64 - t451)))) = some r := h
 clear h
 replace H := Option.bind_eq_some_iff.mp H
 obtain ⟨t451, A20, H⟩ := H
 replace H : (some (wrap64 (64 - t451))) = some r := H
 have A2 := Aside0.mk A20
 clear A20
 obtain rfl := Option.some.inj H
 go_enter Try.func220, Try.ntmps220
 go_wp2_with (first | ((with_reducible refine Qay (f := 231) rfl ?_); refine goesL_ (some 4) rfl rfl Try.func231 (by kernel_rfl) rfl #[.int .u64 a0] rfl (Zl) ?_; (with_reducible refine (Qbn.calls a0 t451 _ A2.out).mono ?_); rintro e w' ⟨rfl, ⟨nd, rfl⟩⟩; refine ⟨_, rfl, ?_⟩))
 go_ret
 exact ⟨Zs, Zd⟩
def Qbt.f (a0 : Int) : Option (Bool) := if a0 ≥ 0 then (some (decide (a0 ≤ 1000))) else (some J)
set_option maxHeartbeats 8000000 in
theorem Qbt.calls (a0 : Int) (r : Bool) (w : World) (h : Qbt.f a0 = some r) :
  Calls Try.prog 182 #[.int .i64 a0] w fun e w' => e = .returned (.bool r) ∧ Drawn0 w w' := by
 have H : (if a0 ≥ 0 then (some (decide (a0 ≤ 1000))) else (some J)) = some r := h
 clear h
 by_cases c2 : a0 ≥ 0
 ·rw [if_pos c2] at H
  have c2b0 : decide (0 ≤ a0) = F := decide_eq_true c2
  clear c2
  obtain rfl := Option.some.inj H
  go_enter Try.func182, Try.ntmps182
  go_wp2
  go_ret
  exact ⟨Zs, Zd⟩
 rw [if_neg c2] at H
 have c2b0 : decide (0 ≤ a0) = J := decide_eq_false c2
 clear c2
 obtain rfl := Option.some.inj H
 go_enter Try.func182, Try.ntmps182
 go_wp2
 go_ret
 exact ⟨Zs, Zd⟩
def QbG.f (a0 : Int) : Option (Bool) := if a0 ≥ 0 then (some (decide (a0 ≤ 1152921504606846976))) else (some J)
set_option maxHeartbeats 8000000 in
theorem QbG.calls (a0 : Int) (r : Bool) (w : World) (h : QbG.f a0 = some r) :
  Calls Try.prog 113 #[.int .i64 a0] w fun e w' => e = .returned (.bool r) ∧ Drawn0 w w' := by
 have H : (if a0 ≥ 0 then (some (decide (a0 ≤ 1152921504606846976))) else (some J)) = some r := h
 clear h
 by_cases c2 : a0 ≥ 0
 ·rw [if_pos c2] at H
  have c2b0 : decide (0 ≤ a0) = F := decide_eq_true c2
  clear c2
  obtain rfl := Option.some.inj H
  go_enter Try.func113, Try.ntmps113
  go_wp2
  go_ret
  exact ⟨Zs, Zd⟩
 rw [if_neg c2] at H
 have c2b0 : decide (0 ≤ a0) = J := decide_eq_false c2
 clear c2
 obtain rfl := Option.some.inj H
 go_enter Try.func113, Try.ntmps113
 go_wp2
 go_ret
 exact ⟨Zs, Zd⟩
def Qby.f (a0 : ByteArray) : Option (Bool) := some (a0.toList != a0.toList)
set_option maxHeartbeats 8000000 in
theorem Qby.calls (a0 : ByteArray) (r : Bool) (w : World) (h : Qby.f a0 = some r) :
  Calls Try.prog 197 #[.string a0] w fun e w' => e = .returned (.bool r) ∧ Drawn0 w w' := by
 have H : (some (a0.toList != a0.toList)) = some r := h
 clear h
 obtain rfl := Option.some.inj H
 go_enter Try.func197, Try.ntmps197
 go_wp2
 go_ret
 exact ⟨Zs, Zd⟩
end Go.Proofs.Ytgnmhfjfefgbfaa.Pr
