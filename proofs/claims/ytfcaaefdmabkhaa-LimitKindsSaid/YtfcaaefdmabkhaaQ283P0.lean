/- Functions' values and contracts, as the print wrote them. -/
import Derived.Test.YtfcaaefdmabkhaaProg
import Derived.Below
import Derived.Deep.Draws
import Derived.Deep.AppendLies
import Derived.Maps.AppendAt
import Derived.OwnWalk
import Derived.Laws.BytesArg
import Derived.Laws.MakeOwn
import Derived.Laws.OwnMore
import Derived.Deep.OwnRows
import Derived.Tactics
import Derived.Lib.ConvBytes
import Derived.Laws.Slices
import Derived.WalkKit
import Derived.KernelRfl
import Derived.RowKit3
import Derived.Deep.LoopGhost
import Derived.Deep.QuietTactic
import Derived.BigQuiet
import Derived.WideLaws
import Derived.Deep.DeepCutAuto
import Derived.Deep.CutBlock
import Derived.Deep.RegionHeld3
import Derived.Laws.Rows
import Derived.Lib.AppendStr
import Derived.ArgAppend
import Derived.Laws.IdiomCopy
import Derived.OrdersHeld
import Derived.Laws.BitsLemmas
import Derived.RowKit
import Derived.Laws.Cover1
import Derived.Lib.BitFns
import Derived.Lib.ItoaNum
import Derived.Deep.Light
import Derived.Lib.LazyBuf
import Derived.Lib.Mul64
import Derived.Laws.Bits64b
import Derived.Lib.Small
import Derived.Lib.Walk
import Derived.Lib.Strings
import Derived.Lib.Slices
import Derived.Test.YtfcaaefdmabkhaaQ283WWords
import Derived.Test.YtfcaaefdmabkhaaQ283WLast
import Derived.Test.YtfcaaefdmabkhaaQ283WTab
import Derived.Test.YtfcaaefdmabkhaaQ283WApart
import Derived.Test.YtfcaaefdmabkhaaQ283WFoot
import Derived.Test.YtfcaaefdmabkhaaQ283WKept
import Derived.Test.YtfcaaefdmabkhaaQ283WShare
import Derived.Test.YtfcaaefdmabkhaaQ283WN
import Derived.Test.YtfcaaefdmabkhaaQ283WEqStruct
import Derived.Test.YtfcaaefdmabkhaaQ283WRepsOne
import Derived.Test.YtfcaaefdmabkhaaQ283WInv
import Derived.Test.YtfcaaefdmabkhaaQ283WGuard
import Derived.Test.YtfcaaefdmabkhaaQ283WMore
namespace Go.Proofs.Ytfcaaefdmabkhaa.Pr
open Bool renaming true → F
open Bool renaming false → J
open Go.RowKit Go.Proofs.YtfcaaefdmabkhaaW.PrintWords Go.Proofs.YtfcaaefdmabkhaaW.PrintLast Go.Proofs.YtfcaaefdmabkhaaW.PrintMore
attribute [local go_sem] QaS QaU Qa2 Qa3 QaK QaL QaT QaV   -- for this text's walks alone
set_option linter.unusedVariables false
set_option linter.unusedSimpArgs false
set_option maxRecDepth 100000
def errW : Option Int → Value
 | none => .nilIface
 | some c => .iface 0 (.int .i64 c)
theorem Qaj : errW none = .nilIface := rfl
theorem Qak (c : Int) : errW (some c) = .iface 0 (.int .i64 c) := rfl
theorem goesV_ {P : Program} {ops : Array Oper} {Q : Exit → Act → World → Prop} {oi : Oper} {N : Option Tmp} {a : Act} {w : World} {K : Act → World → Prop} {f : FuncId} {fn : Func} {v : Operand} {xs_ : Array Operand} {ts : Array TypeId} (hf : P.funcs[f]? = some fn) (hname : (fn.name == "runtime.NumGoroutine") = J) (hb : fn.body.isSome = F) (args : Array Value)
  (hw : Region.wanted oi (yielded ops a.tmps) = F) (hN : oi.dst = N) (hop : oi.op = .call { callee := .value v, args := xs_, argTypes := ts }) (hv : a.eval v = .func (.func f) #[] #[]) (hargs : xs_.map a.eval = args)
  (h : Calls P f args w fun e w' => ∃ v, e = .returned v ∧ K (a.put N v) w') : if Region.wanted oi (yielded ops a.tmps) = F then Oper.wp P oi a w K Q else K (a.put N undef) w := by
 refine call_ f args hw hN ?_ h
 have he := QdA hf hname hb args w
 unfold execOp
 simp [hop, resolve, hv, Deferred.ofValue, invoke, hargs, he]
section
variable {α : Type} {P : Program} {ops : Array Oper} {rest : List Oper} {o : Oper} {a : Act} {Q : Exit → Act → World → Prop} {W : World} {Kc : Act → World → Prop}
theorem Qe2 (d : Kd α) (base e : Nat) (z : Value) (hz : z.cells.size = d.sz) {ok : Nat → Prop} (hfresh : ok W.heap.size) (hbase : base ≤ W.heap.size) (m : Nat) (hm : m ≤ 281474976710656) : d.R e (W.alloc (.cells (madeCells z.cells (m * d.sz)) e)) base ok (.slice (some ⟨W.heap.size, 0, none⟩) 0 m) [] := by
 refine ⟨fun k hk => ?_, [], ?_, Reps.none _ _⟩
 ·have : W.heap.size = k := by simpa [Value.ownBlock] using hk
  subst this
  exact hfresh
 refine ⟨by simp, .inr ⟨W.heap.size, m, madeCells z.cells (m * d.sz), rfl, hbase, heap_alloc_new W _, Nat.zero_le _, by simp [maxLen]; omega, by simp [size_madeCells], by simp⟩⟩
theorem Qfb (d : Kd α) {e : Nat} {t : TypeId} {x y : Operand} (ho : o.op = .makeSlice t x y) (m : Nat) (hx : a.eval x = .int .i64 0) (hy : a.eval y = .int .i64 (m : Int))
  (ht : P.underlying t = some (.slice e)) (z : Value) (bytes : Nat) (hinfo : (P.info? e).map (fun i => (i.zero, i.size, i.bytes)) = some (some z, d.sz, bytes)) (hb0 : 0 < bytes) (hl : m * bytes ≤ 281474976710656) :
  (execOp a.eval o).run P W = .ok (.value (.slice (some ⟨W.heap.size, 0, none⟩) 0 m)) (W.alloc (.cells (madeCells z.cells (m * d.sz)) e)) := by
 obtain ⟨i0, hi, hzz⟩ := Option.map_eq_some_iff.1 hinfo
 simp only [Prod.mk.injEq] at hzz
 obtain ⟨hz0, hz1, hz2⟩ := hzz
 have hm : m ≤ 281474976710656 := Nat.le_trans (Nat.le_mul_of_pos_right _ hb0) hl
 have hr := run_make (P := P) W t e i0 z ht hi hz0 .i64 .i64 0 (m : Int) (by omega) (by omega)
  (by
   have h3 : ((i0.bytes * m : Nat) : Int) ≤ 281474976710656 := by rw [hz2, Nat.mul_comm]; omega
   rwa [Int.natCast_mul] at h3) (by omega)
 simp only [Int.toNat_natCast] at hr
 rw [hz1] at hr
 simp [execOp, ho, hx, hy, hr]
theorem QfN (d : Kd α) {w0 : World} (base e : Nat) (hgd : o.guard = none) {N : Tmp} (_hd : o.dst = some N) (t : TypeId) (x y : Operand) (ho : o.op = .makeSlice t x y) (n : Int) (hx : a.eval x = .int .i64 0) (hy : a.eval y = .int .i64 n)
  (ht : P.underlying t = some (.slice e)) (z : Value) (bytes : Nat) (hinfo : (P.info? e).map (fun i => (i.zero, i.size, i.bytes)) = some (some z, d.sz, bytes)) (hz : z.cells.size = d.sz) (hb0 : 0 < bytes)
  {ok : Nat → Prop} (hfresh : ok W.heap.size) (h0 : 0 ≤ n) (hl : n.toNat * bytes ≤ 281474976710656) (HB : Below base w0 W) (hbase : base ≤ W.heap.size)
  (h : ∀ v1 w1, d.R e w1 base ok v1 [] → Below base w0 w1 → W.grownBy w1 none → (∃ b, v1.ownBlock = some b ∧ W.heap.size ≤ b) → wpList P ops Q rest (a.put o.dst v1) w1) : wpList P ops Q (o :: rest) a W := by
 obtain ⟨m, rfl⟩ := Int.eq_ofNat_of_zero_le h0
 simp only [Int.toNat_natCast] at hl
 exact Kd.event_run hgd (Qfb d ho m hx hy ht z bytes hinfo hb0 hl) (h _ _ (Qe2 d base e z hz hfresh hbase m (Nat.le_trans (Nat.le_mul_of_pos_right _ hb0) hl)) (HB.alloc hbase _) (World.grownBy_alloc W _ none) ⟨W.heap.size, by simp [Value.ownBlock], Nat.le_refl _⟩)
end
theorem QcS {P : Program} {o : Oper} {a : Act} {W : World} {t : TypeId} {p : Tmp} {x : Operand} {g i : Nat} {T : TypeId} {cs : Array Value} {u : Value} {seg : List Value}
  (hg : W.heap[g]? = some (.cells cs T (0, 0))) (ho : o.op = .store t (.tmp p) x) (hp : a.eval (.tmp p) = .pointer (some ⟨g, i, none⟩)) (hx : a.eval x = u) (hu : u.cells.toList = seg) (ht : (P.info? t).map (·.size) = some seg.length)
  (hle : i + seg.length ≤ cs.size) (h1 : seg.all (fun q => q.oneCell') = F) : (execOp a.eval o).run P W = .ok .skip (W.setCells g i seg) := by
 have hrun := QdV (P := P) (w := W) (o := i) t u seg hg hu ht hle (fun q hq => List.all_eq_true.1 h1 q hq)
 unfold execOp
 simp only [ho, hp, hx, Sem.run_bind, Sem.run_pure, Result.andThen_ok, hrun]
theorem gate_n {P : Program} {ops : Array Oper} {rest : List Oper} {o : Oper} {a : Act} {Q : Exit → Act → World → Prop} {W : World} {n : Nat} (_h : a.tmps.size = n) (h : wpList P ops Q (o :: rest) a W) : wpList P ops Q (o :: rest) a W := h
theorem Qdu {P : Program} (w : World) (g : Nat) (t ty : TypeId) (v : Value) (fr : Nat × Nat) (d : TypeDesc) (hg : w.heap[g]? = some (.cells #[v] t fr))
  (hu : P.underlying ty = some d) (hd : (match d with | .struct _ | .array _ _ => F | _ => J) = J) (hi : (P.info? ty).map (·.size) = some 1) : (loadVar ty ⟨g, 0, none⟩).run P w = .ok v w := by
 have hc : w.cell? ⟨g, 0, none⟩ = some v := cell_of_row w g 0 #[v] t fr hg
 have hagg : (isAgg ty).run P w = .ok J w := by
  unfold isAgg
  simp [run_underlying hu]
  cases d <;> first | rfl | (simp at hd)
 cases hq : P.info? ty with
 | none => simp [hq] at hi
 | some i =>
  have hs : i.size = 1 := by simpa [hq] using hi
  simp [loadVar, sizeOf, typeInfo, hq, hs, hagg, hc]
theorem Qcm {P : Program} {fn : Func} {p u : Tmp} {ty : TypeId} (h : fn.results = #[.cell p ty, .tmp u]) (tmps : Array Value) (w : World) (g : Nat) (t : TypeId) (v : Value) (fr : Nat × Nat) (d : TypeDesc)
  (hp : tmps.getD p undef = .pointer (some ⟨g, 0, none⟩)) (hg : w.heap[g]? = some (.cells #[v] t fr))
  (hu : P.underlying ty = some d) (hd : (match d with | .struct _ | .array _ _ => F | _ => J) = J) (hi : (P.info? ty).map (·.size) = some 1) :
  (results fn tmps).run P w = .ok (.tuple #[v, tmps.getD u undef]) w := by
 have hp' : tmps[p]?.getD undef = .pointer (some ⟨g, 0, none⟩) := by simpa using hp
 simp [results, h, hp', asAddr, Qdu w g t ty v fr d hg hu hd hi]
def mdFits (n : Int) : Prop := -1152921504606846976 ≤ n ∧ n ≤ 1152921504606846976
def mdAway (mode : Int) (below : Bool) (q r c : Int) : Bool :=
 decide (mode = 2) || (decide (mode = 3) && below) || (decide (mode = 4) && !below) || (decide (mode = 5) && (decide (c - r < r) || (decide (r = c - r) && decide (q % 2 = 1))))
def QbK (a b c : Int) : Bool := !((!(decide (a < 0) == decide (b < 0))) == decide (c < 0))
def mdQ (a b c mode : Int) : Int :=
 if 0 < (a.natAbs : Int) * b.natAbs % c.natAbs ∧ mdAway mode (QbK a b c) ((a.natAbs : Int) * b.natAbs / c.natAbs) ((a.natAbs : Int) * b.natAbs % c.natAbs) c.natAbs = F then (a.natAbs : Int) * b.natAbs / c.natAbs + 1
 else (a.natAbs : Int) * b.natAbs / c.natAbs
def mdRes (a b c mode : Int) : Int × Int :=
 if 1152921504606846976 < mdQ a b c mode then (0, 3) else (if QbK a b c = F then -mdQ a b c mode else mdQ a b c mode, 0)
instance (n : Int) : Decidable (mdFits n) := inferInstanceAs (Decidable (_ ∧ _))
theorem QcW (a0 a1 a2 a3 : Int) (h : ¬ (mdFits a0 ∧ mdFits a1 ∧ mdFits a2 ∧ 1 ≤ a3 ∧ a3 ≤ 5)) :
  (a0 < -1152921504606846976) ∨ (1152921504606846976 < a0) ∨
  ((-1152921504606846976 ≤ a0 ∧ a0 ≤ 1152921504606846976) ∧ (a1 < -1152921504606846976)) ∨ ((-1152921504606846976 ≤ a0 ∧ a0 ≤ 1152921504606846976) ∧ (1152921504606846976 < a1)) ∨
  ((-1152921504606846976 ≤ a0 ∧ a0 ≤ 1152921504606846976) ∧ (-1152921504606846976 ≤ a1 ∧ a1 ≤ 1152921504606846976) ∧ (a2 < -1152921504606846976)) ∨
  ((-1152921504606846976 ≤ a0 ∧ a0 ≤ 1152921504606846976) ∧ (-1152921504606846976 ≤ a1 ∧ a1 ≤ 1152921504606846976) ∧ (1152921504606846976 < a2)) ∨
  ((-1152921504606846976 ≤ a0 ∧ a0 ≤ 1152921504606846976) ∧ (-1152921504606846976 ≤ a1 ∧ a1 ≤ 1152921504606846976) ∧ (-1152921504606846976 ≤ a2 ∧ a2 ≤ 1152921504606846976) ∧ a3 < 1) ∨
  ((-1152921504606846976 ≤ a0 ∧ a0 ≤ 1152921504606846976) ∧ (-1152921504606846976 ≤ a1 ∧ a1 ≤ 1152921504606846976) ∧ (-1152921504606846976 ≤ a2 ∧ a2 ≤ 1152921504606846976) ∧ 5 < a3) := by
 unfold mdFits at h; omega
theorem info3 : (Try.prog.info? 3).map (fun i => (i.zero, i.size, i.bytes)) = some (some (.int .i64 0), 1, 8) := by kernel_rfl
theorem info46 : (Try.prog.info? 46).map (fun i => (i.zero, i.size, i.bytes)) = some (some (.agg #[(.string ⟨#[]⟩), (.string ⟨#[]⟩), (.string ⟨#[]⟩), (.int .i64 0)]), 4, 56) := by kernel_rfl
structure S84 where
 f0 : ByteArray
 f1 : Int
 f2 : Int
 f3 : Int
 f4 : Int
 f5 : Int
def z84 : S84 := ⟨(⟨#[]⟩ : ByteArray), (0 : Int), (0 : Int), (0 : Int), (0 : Int), (0 : Int)⟩
def k84 : Kd S84 := Kd.iso (Kd.pair Kd.string (Kd.pair (Kd.int .i64) (Kd.pair (Kd.int .i64) (Kd.pair (Kd.int .i64) (Kd.pair (Kd.int .i64) (Kd.int .i64)))))) (fun x : S84 => (x.f0, x.f1, x.f2, x.f3, x.f4, x.f5))
theorem Qfr {w : World} {x : S84} {cs : List Value} (h : k84.K w x cs) : cs = [.string x.f0, .int .i64 x.f1, .int .i64 x.f2, .int .i64 x.f3, .int .i64 x.f4, .int .i64 x.f5] := by
 obtain ⟨_, _, rfl, rfl, ⟨_, _, rfl, rfl, ⟨_, _, rfl, rfl, ⟨_, _, rfl, rfl, ⟨_, _, rfl, rfl, rfl⟩⟩⟩⟩⟩ := h
 exact rfl
theorem Qen (w : World) (base : Nat) (ok : Nat → Prop) (x : S84)  : k84.M w base ok x [.string x.f0, .int .i64 x.f1, .int .i64 x.f2, .int .i64 x.f3, .int .i64 x.f4, .int .i64 x.f5] := ⟨[.string x.f0], [.int .i64 x.f1, .int .i64 x.f2, .int .i64 x.f3, .int .i64 x.f4, .int .i64 x.f5], rfl, rfl, ⟨[.int .i64 x.f1], [.int .i64 x.f2, .int .i64 x.f3, .int .i64 x.f4, .int .i64 x.f5], rfl, rfl, ⟨[.int .i64 x.f2], [.int .i64 x.f3, .int .i64 x.f4, .int .i64 x.f5], rfl, rfl, ⟨[.int .i64 x.f3], [.int .i64 x.f4, .int .i64 x.f5], rfl, rfl, ⟨[.int .i64 x.f4], [.int .i64 x.f5], rfl, rfl, rfl⟩⟩⟩⟩⟩
def rd_T84 (xs : List S84) (i : Int) : S84 := xs.getD i.toNat z84
theorem at_T84 {w : World} {A : Option Addr} {n : Nat} {xs : List S84} (h : Kd.C k84 w A n xs) (i : Int) (h0 : 0 ≤ i) (h1 : i < n) : ∃ ad , A = some ad ∧ w.cell? (ad.add (i.toNat * 6)) = some (.string (rd_T84 xs i).f0) ∧ w.cell? ⟨(ad.add (i.toNat * 6)).block, (ad.add (i.toNat * 6)).off + 1, none⟩ = some (.int .i64 (rd_T84 xs i).f1) ∧ w.cell? ⟨(ad.add (i.toNat * 6)).block, (ad.add (i.toNat * 6)).off + 2, none⟩ = some (.int .i64 (rd_T84 xs i).f2) ∧ w.cell? ⟨(ad.add (i.toNat * 6)).block, (ad.add (i.toNat * 6)).off + 3, none⟩ = some (.int .i64 (rd_T84 xs i).f3) ∧ w.cell? ⟨(ad.add (i.toNat * 6)).block, (ad.add (i.toNat * 6)).off + 4, none⟩ = some (.int .i64 (rd_T84 xs i).f4) ∧ w.cell? ⟨(ad.add (i.toNat * 6)).block, (ad.add (i.toNat * 6)).off + 5, none⟩ = some (.int .i64 (rd_T84 xs i).f5) := by
 obtain ⟨ad, c, e, _, hK, hc0⟩ := Kd.C_get h z84 i h0 h1
 have hc : ∀ j u, c[j]? = some u → w.cell? (ad.add (i.toNat * 6 + j)) = some u := hc0
 obtain rfl := Qfr hK
 exact ⟨ad, e, hc 0 _ rfl, by rw [← Qb5 _ _ 1 (by omega)]; exact hc 1 _ rfl, by rw [← Qb5 _ _ 2 (by omega)]; exact hc 2 _ rfl, by rw [← Qb5 _ _ 3 (by omega)]; exact hc 3 _ rfl, by rw [← Qb5 _ _ 4 (by omega)]; exact hc 4 _ rfl, by rw [← Qb5 _ _ 5 (by omega)]; exact hc 5 _ rfl⟩
structure S98 where
 f0 : ByteArray
 f1 : Int
def z98 : S98 := ⟨(⟨#[]⟩ : ByteArray), (0 : Int)⟩
def k98 : Kd S98 := Kd.iso (Kd.pair Kd.string (Kd.int .i64)) (fun x : S98 => (x.f0, x.f1))
theorem Qfs {w : World} {x : S98} {cs : List Value} (h : k98.K w x cs) : cs = [.string x.f0, .int .i64 x.f1] := by
 obtain ⟨_, _, rfl, rfl, rfl⟩ := h
 exact rfl
theorem QfY (w : World) (base : Nat) (ok : Nat → Prop) (x : S98)  : k98.M w base ok x [.string x.f0, .int .i64 x.f1] := ⟨[.string x.f0], [.int .i64 x.f1], rfl, rfl, rfl⟩
def rd_T98 (xs : List S98) (i : Int) : S98 := xs.getD i.toNat z98
theorem at_T98 {w : World} {A : Option Addr} {n : Nat} {xs : List S98} (h : Kd.C k98 w A n xs) (i : Int) (h0 : 0 ≤ i) (h1 : i < n) : ∃ ad , A = some ad ∧ w.cell? (ad.add (i.toNat * 2)) = some (.string (rd_T98 xs i).f0) ∧ w.cell? ⟨(ad.add (i.toNat * 2)).block, (ad.add (i.toNat * 2)).off + 1, none⟩ = some (.int .i64 (rd_T98 xs i).f1) := by
 obtain ⟨ad, c, e, _, hK, hc0⟩ := Kd.C_get h z98 i h0 h1
 have hc : ∀ j u, c[j]? = some u → w.cell? (ad.add (i.toNat * 2 + j)) = some u := hc0
 obtain rfl := Qfs hK
 exact ⟨ad, e, hc 0 _ rfl, by rw [← Qb5 _ _ 1 (by omega)]; exact hc 1 _ rfl⟩
structure S44 where
 f0 : ByteArray
 f1 : ByteArray
def z44 : S44 := ⟨(⟨#[]⟩ : ByteArray), (⟨#[]⟩ : ByteArray)⟩
def k44 : Kd S44 := Kd.iso (Kd.pair Kd.string Kd.string) (fun x : S44 => (x.f0, x.f1))
theorem Qd4 {w : World} {x : S44} {cs : List Value} (h : k44.K w x cs) : cs = [.string x.f0, .string x.f1] := by
 obtain ⟨_, _, rfl, rfl, rfl⟩ := h
 exact rfl
theorem QfX (w : World) (base : Nat) (ok : Nat → Prop) (x : S44)  : k44.M w base ok x [.string x.f0, .string x.f1] := ⟨[.string x.f0], [.string x.f1], rfl, rfl, rfl⟩
structure S46 where
 f0 : S44
 f1 : ByteArray
 f2 : Int
def z46 : S46 := ⟨z44, (⟨#[]⟩ : ByteArray), (0 : Int)⟩
def k46 : Kd S46 := Kd.iso (Kd.pair k44 (Kd.pair Kd.string (Kd.int .i64))) (fun x : S46 => (x.f0, x.f1, x.f2))
theorem Qfp {w : World} {x : S46} {cs : List Value} (h : k46.K w x cs) : cs = [.string x.f0.f0, .string x.f0.f1, .string x.f1, .int .i64 x.f2] := by
 obtain ⟨_, _, rfl, s0, ⟨_, _, rfl, rfl, rfl⟩⟩ := h
 obtain rfl := Qd4 s0
 exact rfl
theorem Qcq (w : World) (base : Nat) (ok : Nat → Prop) (x : S46)  : k46.M w base ok x [.string x.f0.f0, .string x.f0.f1, .string x.f1, .int .i64 x.f2] := ⟨[.string x.f0.f0, .string x.f0.f1], [.string x.f1, .int .i64 x.f2], rfl, (QfX w base ok x.f0 ), ⟨[.string x.f1], [.int .i64 x.f2], rfl, rfl, rfl⟩⟩
def rd_T46 (xs : List S46) (i : Int) : S46 := xs.getD i.toNat z46
theorem at_T46 {w : World} {A : Option Addr} {n : Nat} {xs : List S46} (h : Kd.C k46 w A n xs) (i : Int) (h0 : 0 ≤ i) (h1 : i < n) : ∃ ad , A = some ad ∧ w.cell? (ad.add (i.toNat * 4)) = some (.string (rd_T46 xs i).f0.f0) ∧ w.cell? ⟨(ad.add (i.toNat * 4)).block, (ad.add (i.toNat * 4)).off + 1, none⟩ = some (.string (rd_T46 xs i).f0.f1) ∧ w.cell? ⟨(ad.add (i.toNat * 4)).block, (ad.add (i.toNat * 4)).off + 2, none⟩ = some (.string (rd_T46 xs i).f1) ∧ w.cell? ⟨(ad.add (i.toNat * 4)).block, (ad.add (i.toNat * 4)).off + 3, none⟩ = some (.int .i64 (rd_T46 xs i).f2) := by
 obtain ⟨ad, c, e, _, hK, hc0⟩ := Kd.C_get h z46 i h0 h1
 have hc : ∀ j u, c[j]? = some u → w.cell? (ad.add (i.toNat * 4 + j)) = some u := hc0
 obtain rfl := Qfp hK
 exact ⟨ad, e, hc 0 _ rfl, by rw [← Qb5 _ _ 1 (by omega)]; exact hc 1 _ rfl, by rw [← Qb5 _ _ 2 (by omega)]; exact hc 2 _ rfl, by rw [← Qb5 _ _ 3 (by omega)]; exact hc 3 _ rfl⟩
structure S61 where
 f0 : (List S46)
 f1 : S44
 f2 : Int
 f3 : (List S84)
 f4 : (List S98)
def k61 : Kd S61 := Kd.iso (Kd.pair (Kd.slice 46 k46) (Kd.pair k44 (Kd.pair (Kd.int .i64) (Kd.pair (Kd.slice 84 k84) (Kd.slice 98 k98))))) (fun x : S61 => (x.f0, x.f1, x.f2, x.f3, x.f4))
theorem Qfq {w : World} {x : S61} {cs : List Value} (h : k61.K w x cs) : ∃ A0 c0 A4 c4 A5 c5, cs = [.slice A0 x.f0.length c0, .string x.f1.f0, .string x.f1.f1, .int .i64 x.f2, .slice A4 x.f3.length c4, .slice A5 x.f4.length c5] ∧ x.f0.length ≤ c0 ∧ k46.C w A0 x.f0.length x.f0 ∧ x.f3.length ≤ c4 ∧ k84.C w A4 x.f3.length x.f3 ∧ x.f4.length ≤ c5 ∧ k98.C w A5 x.f4.length x.f4 := by
 obtain ⟨_, _, rfl, ⟨A0, c0, rfl, l0, g0⟩, ⟨_, _, rfl, s1, ⟨_, _, rfl, rfl, ⟨_, _, rfl, ⟨A4, c4, rfl, l4, g4⟩, ⟨A5, c5, rfl, l5, g5⟩⟩⟩⟩⟩ := h
 obtain rfl := Qd4 s1
 exact ⟨A0, c0, A4, c4, A5, c5, rfl, l0, g0, l4, g4, l5, g5⟩
theorem eqA44 (d : Nat) (w : World) (x0 y0 : ByteArray) (x1 y1 : ByteArray) :
  (Op.equalIn (d + 2) 44 (.agg #[.string x0, .string x1]) (.agg #[.string y0, .string y1])).run Try.prog w = .ok (x0.toList == y0.toList && (x1.toList == y1.toList)) w := by
 refine eqA_of Try.underlying44 (by kernel_rfl) ?_
 refine Qfn (by rfl) (by go_simp; rfl) (by go_simp; rfl) (by go_simp) ?_
 exact Qfo (by rfl) (by go_simp; rfl) (by go_simp; rfl) (by go_simp)
def QaP.l0 : Nat → List (S84) → ByteArray → Int → Option (ByteArray × Int × Int × Int × Int × Int × Bool)
 | 0, _, _, _ => none
 | k + 1, x0, x1, x6 => if x6 < (x0.length : Int) then (if 0 ≤ x6 then (if ((rd_T84 x0 x6).f0).toList = x1.toList then (some ((rd_T84 x0 x6).f0, (rd_T84 x0 x6).f1, (rd_T84 x0 x6).f2, (rd_T84 x0 x6).f3, (rd_T84 x0 x6).f4, (rd_T84 x0 x6).f5, F)) else (QaP.l0 k x0 x1 (wrap64 (x6 + 1)))) else (none)) else (some ((⟨#[]⟩ : ByteArray), 0, 0, 0, 0, 0, J))
def QaP.f (k : Nat) (l0 : List (S84)) (a1 : ByteArray) : Option (ByteArray × Int × Int × Int × Int × Int × Bool) := QaP.l0 k l0 a1 0
theorem QaP.mono_l : ∀ k, (∀ y0 y1 y2, LeO (QaP.l0 k y0 y1 y2) (QaP.l0 (k + 1) y0 y1 y2))
 | 0 => fun _ _ _ r h => by simp [QaP.l0] at h
 | k + 1 => by
  have ih0 := QaP.mono_l k
  intro y0 y1 y2
  unfold QaP.l0
  exact ZM1 ih0
theorem QaP.mono : ∀ a0 a1 k, LeO (QaP.f k a0 a1) (QaP.f (k + 1) a0 a1) := by
 intro a0 a1 k
 have ih0 := QaP.mono_l k
 unfold QaP.f
 exact ZM1 ih0
set_option maxHeartbeats 8000000 in
theorem QaP.calls (k : Nat) (A0 : Option Addr) (c0 : Nat) (l0 : List (S84)) (a1 : ByteArray) (r1 : ByteArray) (r2 : Int) (r3 : Int) (r4 : Int) (r5 : Int) (r6 : Int) (r7 : Bool) (w : World) (hr0 : Kd.C k84 w A0 l0.length l0) (hc0 : l0.length ≤ c0) (h : QaP.f k l0 a1 = some (r1, r2, r3, r4, r5, r6, r7)) :
  Calls Try.prog 41 #[.slice A0 l0.length c0, .string a1] w fun e w' => e = .returned (.tuple #[.agg #[.string r1, .int .i64 r2, .int .i64 r3, .int .i64 r4, .int .i64 r5, .int .i64 r6], .bool r7]) ∧ Below w.heap.size w w' := by
 have hu84 := Try.underlying84
 have HR0 := Aside0.mk hr0
 have HC0 := Aside0.mk hc0
 clear hr0 hc0
 have HB := Aside0.mk (Below.refl w.heap.size w)
 have H : (QaP.l0 k l0 a1 0) = some (r1, r2, r3, r4, r5, r6, r7) := h
 clear h
 have H' := Aside0.mk H
 clear H
 go_enter Try.func41, Try.ntmps41
 go_wp2_with (first | ((with_reducible refine QaJ (N := 4) rfl ?_); refine Zbx (N := 4) (cs := #[.string (⟨#[]⟩ : ByteArray), .int .i64 0, .int .i64 0, .int .i64 0, .int .i64 0, .int .i64 0]) (t := 84) ?_; intro gb338 hg w3 hbox hb; have BK338 := Aside0.mk (hbox); have GW338 := Aside0.mk (Zt w hg (Zb)); have GE338 := GW338; replace HB := Aside0.mk (Qao (Zb) hb); clear hb hbox hg))
 go_loopg [6] k (fun kq v6 w' => ∃ (x6_1 : Int) (x339000_1 : ByteArray) (x339001_1 : Int) (x339002_1 : Int) (x339003_1 : Int) (x339004_1 : Int) (x339005_1 : Int), v6 = .int .i64 x6_1 ∧ Aside0 (QaP.l0 kq l0 a1 x6_1 = some (r1, r2, r3, r4, r5, r6, r7)) ∧ Aside0 (kq ≤ k) ∧ Aside0 (w'.heap[gb338]? = some (.cells #[.string x339000_1, .int .i64 x339001_1, .int .i64 x339002_1, .int .i64 x339003_1, .int .i64 x339004_1, .int .i64 x339005_1] 84 (0, 0))) ∧ Aside0 (Below w.heap.size w w'))
 case atStart => exact ⟨(0), ((⟨#[]⟩ : ByteArray)), (0), (0), (0), (0), (0), (Zs), H', ⟨Nat.le_refl _⟩, ⟨Zu BK338.out⟩, ⟨Zc1 GE338.out⟩⟩
 case round =>
  clear H'
  try clear p2
  obtain ⟨x6_1, x339000_1, x339001_1, x339002_1, x339003_1, x339004_1, x339005_1, rfl, HA, HK1, BK338, HB⟩ := hrel
  cases gk with
  | zero => exact absurd HA.out (by simp [QaP.l0])
  | succ k1 =>
   have H := HA.out
   clear HA
   simp only [QaP.l0] at H
   by_cases c4 : x6_1 < (l0.length : Int)
   ·rw [if_pos c4] at H
    have c4b0 : decide (x6_1 < (l0.length : Int)) = F := decide_eq_true c4
    clear c4
    (try simp only [c4b0])
    by_cases c5 : 0 ≤ x6_1
    ·rw [if_pos c5] at H
     have c5b0 : decide (0 ≤ x6_1) = F := decide_eq_true c5
     clear c5
     have p339 : 0 ≤ (x6_1 : Int) := Ze
     have q339 : x6_1 < (l0.length : Int) := Ze
     obtain ⟨ad339, e339, hx339_0, hx339_1, hx339_2, hx339_3, hx339_4, hx339_5⟩ := at_T84 HR0.out x6_1 p339 q339
     cases e339
     replace hx339_0 := Zx HB.out hx339_0
     replace hx339_1 := Zx HB.out hx339_1
     replace hx339_2 := Zx HB.out hx339_2
     replace hx339_3 := Zx HB.out hx339_3
     replace hx339_4 := Zx HB.out hx339_4
     replace hx339_5 := Zx HB.out hx339_5
     replace p339 := eq_true p339
     replace q339 := eq_true q339
     go_upto_if 19 with (fail)
     by_cases c6 : ((rd_T84 l0 x6_1).f0).toList = a1.toList
     ·rw [if_pos c6] at H
      have c6b0 : (((rd_T84 l0 x6_1).f0).toList == a1.toList) = F := beq_iff_eq.mpr c6
      have c6b1 : (((rd_T84 l0 x6_1).f0).toList != a1.toList) = J := bne_eq_false_iff_eq.mpr c6
      clear c6
      (try simp only [c6b0, c6b1])
      simp only [Option.some.injEq, Prod.mk.injEq] at H
      obtain ⟨rfl, rfl, rfl, rfl, rfl, rfl, rfl⟩ := H
      have p340 : 0 ≤ (x6_1 : Int) := Ze
      have q340 : x6_1 < (l0.length : Int) := Ze
      obtain ⟨ad340, e340, hx340_0, hx340_1, hx340_2, hx340_3, hx340_4, hx340_5⟩ := at_T84 HR0.out x6_1 p340 q340
      obtain rfl : ad339 = ad340 := (by injection e340)
      replace hx340_0 := Zx HB.out hx340_0
      replace hx340_1 := Zx HB.out hx340_1
      replace hx340_2 := Zx HB.out hx340_2
      replace hx340_3 := Zx HB.out hx340_3
      replace hx340_4 := Zx HB.out hx340_4
      replace hx340_5 := Zx HB.out hx340_5
      replace p340 := eq_true p340
      replace q340 := eq_true q340
      obtain ⟨hcz7_0, hfz7_0⟩ := Zy (v := (.string x339000_1)) BK338.out 0
      obtain ⟨hcz7_1, hfz7_1⟩ := Zy (v := (.int .i64 x339001_1)) BK338.out 1
      obtain ⟨hcz7_2, hfz7_2⟩ := Zy (v := (.int .i64 x339002_1)) BK338.out 2
      obtain ⟨hcz7_3, hfz7_3⟩ := Zy (v := (.int .i64 x339003_1)) BK338.out 3
      obtain ⟨hcz7_4, hfz7_4⟩ := Zy (v := (.int .i64 x339004_1)) BK338.out 4
      obtain ⟨hcz7_5, hfz7_5⟩ := Zy (v := (.int .i64 x339005_1)) BK338.out 5
      go_wp2
      refine bodyPost_ret (QbX rfl _ _ gb338 84 #[.string ((rd_T84 l0 x6_1).f0), .int .i64 ((rd_T84 l0 x6_1).f1), .int .i64 ((rd_T84 l0 x6_1).f2), .int .i64 ((rd_T84 l0 x6_1).f3), .int .i64 ((rd_T84 l0 x6_1).f4), .int .i64 ((rd_T84 l0 x6_1).f5)] (0, 0) _ rfl (Zp2 BK338.out) Try.underlying84 rfl (by kernel_rfl)) rfl ?_
      exact ⟨Zq, Zc1 GE338.out⟩
     rw [if_neg c6] at H
     have c6b0 : (((rd_T84 l0 x6_1).f0).toList == a1.toList) = J := beq_eq_false_iff_ne.mpr c6
     have c6b1 : (((rd_T84 l0 x6_1).f0).toList != a1.toList) = F := bne_iff_ne.mpr c6
     (try simp only [c6b0, c6b1])
     have H' := Aside0.mk H
     clear H
     go_wp2
     go_roundg k1
     case measure => have := HK1.out; omega
     case rel => exact ⟨(wrap64 (x6_1 + 1)), (x339000_1), (x339001_1), (x339002_1), (x339003_1), (x339004_1), (x339005_1), (Zs), H', ⟨by have := HK1.out; omega⟩, ⟨Zu BK338.out⟩, ⟨Zc1 GE338.out⟩⟩
    rw [if_neg c5] at H
    exact absurd H (by simp)
   rw [if_neg c4] at H
   have c4b0 : decide (x6_1 < (l0.length : Int)) = J := decide_eq_false c4
   clear c4
   (try simp only [c4b0])
   simp only [Option.some.injEq, Prod.mk.injEq] at H
   obtain ⟨rfl, rfl, rfl, rfl, rfl, rfl, rfl⟩ := H
   obtain ⟨hcz8_0, hfz8_0⟩ := Zy (v := (.string x339000_1)) BK338.out 0
   obtain ⟨hcz8_1, hfz8_1⟩ := Zy (v := (.int .i64 x339001_1)) BK338.out 1
   obtain ⟨hcz8_2, hfz8_2⟩ := Zy (v := (.int .i64 x339002_1)) BK338.out 2
   obtain ⟨hcz8_3, hfz8_3⟩ := Zy (v := (.int .i64 x339003_1)) BK338.out 3
   obtain ⟨hcz8_4, hfz8_4⟩ := Zy (v := (.int .i64 x339004_1)) BK338.out 4
   obtain ⟨hcz8_5, hfz8_5⟩ := Zy (v := (.int .i64 x339005_1)) BK338.out 5
   go_wp2
   refine bodyPost_ret (QbX rfl _ _ gb338 84 #[.string (⟨#[]⟩ : ByteArray), .int .i64 0, .int .i64 0, .int .i64 0, .int .i64 0, .int .i64 0] (0, 0) _ rfl (Zp2 BK338.out) Try.underlying84 rfl (by kernel_rfl)) rfl ?_
   exact ⟨Zq, Zc1 GE338.out⟩
def QbA.f (a0 a1 : Int) : Option (Int × Int) :=
 if 0 ≤ a0 ∧ a0 ≤ 18446744073709551615 ∧ 0 ≤ a1 ∧ a1 ≤ 18446744073709551615 then some (a0 * a1 / 18446744073709551616, a0 * a1 % 18446744073709551616) else none
theorem QcV (a : Nat) (ha : a < 18446744073709551616) : Go.bits .and .u64 (a : Int) 4294967295 = ((a % 4294967296 : Nat) : Int) := by
 have h := bits_and_u64_nat a 4294967295 ha (by omega)
 have e : a &&& 4294967295 = a % 4294967296 := Nat.and_two_pow_sub_one_eq_mod a 32
 rw [e] at h
 exact h
theorem Qfw (a : Nat) : (a : Int) / 4294967296 = ((a / 4294967296 : Nat) : Int) := by omega
theorem Qfx (a b : Nat) : (a : Int) * (b : Int) = ((a * b : Nat) : Int) := (Int.natCast_mul a b).symm
theorem Qfv (a b : Nat) : (a : Int) + (b : Int) = ((a + b : Nat) : Int) := (Int.natCast_add a b).symm
theorem Qb7 (a : Nat) (ha : a < 18446744073709551616) : IntKind.u64.wrap (a : Int) = (a : Int) := by rw [IntKind.wrap_u64]; omega
theorem QeX (a : Nat) : IntKind.u64.wrap (a : Int) = ((a % 18446744073709551616 : Nat) : Int) := by rw [IntKind.wrap_u64]; omega
set_option maxHeartbeats 1000000 in
theorem QbA.walk (x y : Nat) (hx : x < 18446744073709551616) (hy : y < 18446744073709551616) (w : World) :
  Calls Try.prog 88 #[.int .u64 x, .int .u64 y] w fun e w' => e = .returned (.tuple #[.int .u64 ((x * y / 18446744073709551616 : Nat) : Int), .int .u64 ((x * y % 18446744073709551616 : Nat) : Int)]) ∧ w' = w := by
 obtain ⟨bd, bt, bw, hhi⟩ := Lib.mul64_hi x y hx hy
 have ba := Lib.half_mul_le (a := x / 4294967296) (b := y / 4294967296) (by omega) (by omega)
 have bb := Lib.half_mul_le (a := x / 4294967296) (b := y % 4294967296) (by omega) (by omega)
 have bc := Lib.half_mul_le (a := x % 4294967296) (b := y / 4294967296) (by omega) (by omega)
 have ba' : x / 4294967296 * (y / 4294967296) < 18446744073709551616 := by omega
 have bb' : x / 4294967296 * (y % 4294967296) < 18446744073709551616 := by omega
 have bc' : x % 4294967296 * (y / 4294967296) < 18446744073709551616 := by omega
 have bh1 : x / 4294967296 * (y / 4294967296) + (x / 4294967296 * (y % 4294967296) + x % 4294967296 * (y % 4294967296) / 4294967296) / 4294967296 < 18446744073709551616 := by omega
 have bh : x / 4294967296 * (y / 4294967296) + (x / 4294967296 * (y % 4294967296) + x % 4294967296 * (y % 4294967296) / 4294967296) / 4294967296 + ((x / 4294967296 * (y % 4294967296) + x % 4294967296 * (y % 4294967296) / 4294967296) % 4294967296 + x % 4294967296 * (y / 4294967296)) / 4294967296 < 18446744073709551616 := by omega
 go_enter Try.func88, Try.ntmps88
 go_wp2
 simp only [QcV x hx, QcV y hy, Qfw, Qfx, Qfv, Qb7 _ bd, Qb7 _ bb', Qb7 _ bt, QcV _ bt, Qb7 _ bc', Qb7 _ bw, Qb7 _ ba', Qb7 _ bh1, Qb7 _ bh, QeX (x * y)]
 rw [hhi]
 go_ret2
 exact ⟨rfl, rfl⟩
theorem QbA.calls (a0 a1 r1 r2 : Int) (w : World) (h : QbA.f a0 a1 = some (r1, r2)) :
  Calls Try.prog 88 #[.int .u64 a0, .int .u64 a1] w fun e w' => e = .returned (.tuple #[.int .u64 r1, .int .u64 r2]) ∧ Drawn0 w w' := by
 unfold QbA.f at h
 by_cases c : 0 ≤ a0 ∧ a0 ≤ 18446744073709551615 ∧ 0 ≤ a1 ∧ a1 ≤ 18446744073709551615
 ·rw [if_pos c] at h
  obtain ⟨c1, c2, c3, c4⟩ := c
  obtain ⟨x, rfl⟩ := Int.eq_ofNat_of_zero_le c1
  obtain ⟨y, rfl⟩ := Int.eq_ofNat_of_zero_le c3
  have h' := Option.some.inj h
  simp only [Prod.mk.injEq] at h'
  obtain ⟨rfl, rfl⟩ := h'
  refine (QbA.walk x y (by omega) (by omega) w).mono ?_
  rintro e w' ⟨rfl, rfl⟩
  exact ⟨rfl, Drawn0.refl _⟩
 rw [if_neg c] at h
 cases h
def Qbv.f (a0 : Int) : Option Int := if -9223372036854775808 ≤ a0 ∧ a0 ≤ 9223372036854775807 then some (a0.natAbs : Int) else none
theorem Qbv.walk (a0 : Int) (w : World) (h0 : -9223372036854775808 ≤ a0) (h1 : a0 ≤ 9223372036854775807) :
  Calls Try.prog 89 #[.int .i64 a0] w fun e w' => e = .returned (.int .u64 (a0.natAbs : Int)) ∧ w' = w := by
 go_enter Try.func89, Try.ntmps89
 go_wp2
 all_goals (go_ret; refine ⟨congrArg Ending.returned (congrArg (Value.int IntKind.u64) ?_), rfl⟩)
 all_goals go_light
 all_goals ((try simp only [IntKind.wrap_u64]); (try unfold wrap64); omega)
theorem Qbv.calls (a0 r : Int) (w : World) (h : Qbv.f a0 = some r) :
  Calls Try.prog 89 #[.int .i64 a0] w fun e w' => e = .returned (.int .u64 r) ∧ Drawn0 w w' := by
 unfold Qbv.f at h
 by_cases c : -9223372036854775808 ≤ a0 ∧ a0 ≤ 9223372036854775807
 ·rw [if_pos c] at h
  obtain rfl := Option.some.inj h
  refine (Qbv.walk a0 w c.1 c.2).mono ?_
  rintro e w' ⟨rfl, rfl⟩
  exact ⟨rfl, Drawn0.refl _⟩
 rw [if_neg c] at h
 cases h
def Qby.f (a0 : Int) : Option Int := if 0 ≤ a0 ∧ a0 ≤ 18446744073709551615 then some (Lib.bitLen a0.toNat : Int) else none
theorem Qby.tab (n : Nat) (h : n < Lib.len8tab.size) (hn : n ≤ 255) : ((Lib.len8tab[n]'h).toNat : Int) = (Lib.bitLen n : Int) ∧ Lib.bitLen n ≤ 8 := by
 have e := Lib.len8_of (n : Int) (by omega) (by omega)
 have l := Lib.bitLen_le8' (n : Int) (by omega) (by omega)
 rw [Int.toNat_natCast] at e l
 refine ⟨?_, l⟩
 rw [← e]
 unfold Lib.len8
 rw [Int.toNat_natCast, getElem?_pos Lib.len8tab n h]
 rfl
theorem Qby.close (x m n k : Nat) (h : n < Lib.len8tab.size) (hn : n ≤ 255) (hx : Lib.bitLen x = k + Lib.bitLen m) (hm : n = m) (hk : k ≤ 56) :
  wrap64 ((k : Int) + wrap64 ((Lib.len8tab[n]'h).toNat : Int)) = (Lib.bitLen x : Int) := by
 obtain ⟨a, b⟩ := Qby.tab n h hn
 subst hm
 rw [a]
 unfold wrap64
 omega
theorem Qby.close0 (x n : Nat) (h : n < Lib.len8tab.size) (hn : n ≤ 255) (hm : n = x) :
  wrap64 (wrap64 ((Lib.len8tab[n]'h).toNat : Int)) = (Lib.bitLen x : Int) := by
 obtain ⟨a, b⟩ := Qby.tab n h hn
 subst hm
 rw [a]
 unfold wrap64
 omega
set_option maxHeartbeats 4000000 in
theorem Qby.walk (x : Int) (w : World) (h0 : 0 ≤ x) (h1 : x ≤ 18446744073709551615) :
  Calls Try.prog 127 #[.int .u64 x] w fun e w' => e = .returned (.int .i64 (Lib.bitLen x.toNat)) ∧ w' = w := by
 have u9 := Try.underlying9
 have u5 := Try.underlying5
 have u65 := Try.underlying131
 have u3 := Try.underlying3
 have u42 := Try.underlying129
 go_enter Try.func127, Try.ntmps127
 go_wp2
 all_goals (first | (exfalso; have := Lib.len8tab_size; omega) | skip)
 all_goals (go_ret; refine ⟨congrArg Ending.returned (congrArg (Value.int IntKind.i64) ?_), rfl⟩)
 all_goals go_light
 ·exact Qby.close x.toNat (x.toNat / 72057594037927936) _ 56 _ (by omega) (Lib.bitLen_shift56 x.toNat (by omega) (by omega)) (by omega) (by omega)
 ·exact Qby.close x.toNat (x.toNat / 281474976710656) _ 48 _ (by omega) (Lib.bitLen_shift48 x.toNat (by omega) (by omega)) (by omega) (by omega)
 ·exact Qby.close x.toNat (x.toNat / 1099511627776) _ 40 _ (by omega) (Lib.bitLen_shift40 x.toNat (by omega) (by omega)) (by omega) (by omega)
 ·exact Qby.close x.toNat (x.toNat / 4294967296) _ 32 _ (by omega) (Lib.bitLen_shift32 x.toNat (by omega) (by omega)) (by omega) (by omega)
 ·exact Qby.close x.toNat (x.toNat / 16777216) _ 24 _ (by omega) (Lib.bitLen_shift24 x.toNat (by omega) (by omega)) (by omega) (by omega)
 ·exact Qby.close x.toNat (x.toNat / 65536) _ 16 _ (by omega) (Lib.bitLen_shift16 x.toNat (by omega) (by omega)) (by omega) (by omega)
 ·exact Qby.close x.toNat (x.toNat / 256) _ 8 _ (by omega) (Lib.bitLen_shift8 x.toNat (by omega) (by omega)) (by omega) (by omega)
 exact Qby.close0 x.toNat _ _ (by omega) rfl
theorem Qby.calls (a0 r : Int) (w : World) (h : Qby.f a0 = some r) :
  Calls Try.prog 127 #[.int .u64 a0] w fun e w' => e = .returned (.int .i64 r) ∧ Drawn0 w w' := by
 unfold Qby.f at h
 by_cases c : 0 ≤ a0 ∧ a0 ≤ 18446744073709551615
 ·rw [if_pos c] at h
  obtain rfl := Option.some.inj h
  refine (Qby.walk a0 w c.1 c.2).mono ?_
  rintro e w' ⟨rfl, rfl⟩
  exact ⟨rfl, Drawn0.refl _⟩
 rw [if_neg c] at h
 cases h
def QbD.f (a0 : Int) : Option (Int) := (Qby.f a0).bind fun t117 => (some (wrap64 (64 - t117)))
set_option maxHeartbeats 8000000 in
theorem QbD.calls (a0 : Int) (r : Int) (w : World) (h : QbD.f a0 = some r) :
  Calls Try.prog 117 #[.int .u64 a0] w fun e w' => e = .returned (.int .i64 r) ∧ Drawn0 w w' := by
 have H : ((Qby.f a0).bind fun t117 => (some (wrap64 (64 - t117)))) = some r := h
 clear h
 replace H := Option.bind_eq_some_iff.mp H
 obtain ⟨t117, A20, H⟩ := H
 replace H : (some (wrap64 (64 - t117))) = some r := H
 have A2 := Aside0.mk A20
 clear A20
 obtain rfl := Option.some.inj H
 go_enter Try.func117, Try.ntmps117
 go_wp2_with (first | ((with_reducible refine Qax (f := 127) rfl ?_); refine goesL_ (some 4) rfl rfl Try.func127 (by kernel_rfl) rfl #[.int .u64 a0] rfl (Zl) ?_; (with_reducible refine (Qby.calls a0 t117 _ A2.out).mono ?_); rintro e w' ⟨rfl, ⟨nd, rfl⟩⟩; refine ⟨_, rfl, ?_⟩))
 go_ret
 exact ⟨Zs, Zd⟩
mutual
def QaA.j2 : Nat → Int → Int → Int → Int → Int → Int → Int → Int → Option (Int × Int)
 | 0, _, _, _, _, _, _, _, _ => none
 | k + 1, x2, x8, x9, x10, x11, x13, x14, x15 => if x9 = 0 then (none) else (QaA.l1 k x2 x8 x9 x10 x14 x15 (IntKind.u64.wrap ((IntKind.u64.wrap ((IntKind.u64.wrap ((IntKind.u64.wrap (x11 * 4294967296)) + x13)) - (IntKind.u64.wrap (x15 * x2)))) - (IntKind.u64.wrap ((IntKind.u64.wrap (Int.tdiv (IntKind.u64.wrap ((IntKind.u64.wrap ((IntKind.u64.wrap (x11 * 4294967296)) + x13)) - (IntKind.u64.wrap (x15 * x2)))) x9)) * x9)))) (IntKind.u64.wrap ((IntKind.u64.wrap ((IntKind.u64.wrap (x11 * 4294967296)) + x13)) - (IntKind.u64.wrap (x15 * x2)))) (IntKind.u64.wrap (Int.tdiv (IntKind.u64.wrap ((IntKind.u64.wrap ((IntKind.u64.wrap (x11 * 4294967296)) + x13)) - (IntKind.u64.wrap (x15 * x2)))) x9)))
def QaA.l1 : Nat → Int → Int → Int → Int → Int → Int → Int → Int → Int → Option (Int × Int)
 | 0, _, _, _, _, _, _, _, _, _ => none
 | k + 1, x2, x8, x9, x10, x14, x15, x16, x17, x18 => if x18 ≥ 4294967296 then (QaA.j4 k x2 x8 x9 x10 x14 x15 x16 x17 x18 F) else (QaA.j4 k x2 x8 x9 x10 x14 x15 x16 x17 x18 (decide ((IntKind.u64.wrap (x18 * x10)) > (IntKind.u64.wrap ((IntKind.u64.wrap (4294967296 * x16)) + x14)))))
def QaA.j4 : Nat → Int → Int → Int → Int → Int → Int → Int → Int → Int → Bool → Option (Int × Int)
 | 0, _, _, _, _, _, _, _, _, _, _ => none
 | k + 1, x2, x8, x9, x10, x14, x15, x16, x17, x18, x113 => if x113 = F then (if (IntKind.u64.wrap (x16 + x9)) ≥ 4294967296 then (if 0 ≤ x8 then (some (IntKind.u64.wrap ((IntKind.u64.wrap (x15 * 4294967296)) + (IntKind.u64.wrap (x18 - 1))), shr .u64 (IntKind.u64.wrap ((IntKind.u64.wrap ((IntKind.u64.wrap (x17 * 4294967296)) + x14)) - (IntKind.u64.wrap ((IntKind.u64.wrap (x18 - 1)) * x2)))) x8)) else (none)) else (QaA.l1 k x2 x8 x9 x10 x14 x15 (IntKind.u64.wrap (x16 + x9)) x17 (IntKind.u64.wrap (x18 - 1)))) else (if 0 ≤ x8 then (some (IntKind.u64.wrap ((IntKind.u64.wrap (x15 * 4294967296)) + x18), shr .u64 (IntKind.u64.wrap ((IntKind.u64.wrap ((IntKind.u64.wrap (x17 * 4294967296)) + x14)) - (IntKind.u64.wrap (x18 * x2)))) x8)) else (none))
def QaA.l0 : Nat → Int → Int → Int → Int → Int → Int → Int → Int → Int → Option (Int × Int)
 | 0, _, _, _, _, _, _, _, _, _ => none
 | k + 1, x2, x8, x9, x10, x11, x13, x14, x15, x16 => if x15 ≥ 4294967296 then (QaA.j1 k x2 x8 x9 x10 x11 x13 x14 x15 x16 F) else (QaA.j1 k x2 x8 x9 x10 x11 x13 x14 x15 x16 (decide ((IntKind.u64.wrap (x15 * x10)) > (IntKind.u64.wrap ((IntKind.u64.wrap (4294967296 * x16)) + x13)))))
def QaA.j1 : Nat → Int → Int → Int → Int → Int → Int → Int → Int → Int → Bool → Option (Int × Int)
 | 0, _, _, _, _, _, _, _, _, _, _ => none
 | k + 1, x2, x8, x9, x10, x11, x13, x14, x15, x16, x78 => if x78 = F then (if (IntKind.u64.wrap (x16 + x9)) ≥ 4294967296 then (QaA.j2 k x2 x8 x9 x10 x11 x13 x14 (IntKind.u64.wrap (x15 - 1))) else (QaA.l0 k x2 x8 x9 x10 x11 x13 x14 (IntKind.u64.wrap (x15 - 1)) (IntKind.u64.wrap (x16 + x9)))) else (QaA.j2 k x2 x8 x9 x10 x11 x13 x14 x15)
end
def QaA.f (k : Nat) (a0 : Int) (a1 : Int) (a2 : Int) : Option (Int × Int) := if a2 = 0 then (none) else (if a2 ≤ a0 then (none) else (if a0 = 0 then (some (IntKind.u64.wrap (Int.tdiv a1 a2), Int.tmod a1 a2)) else ((QbD.f a2).bind fun t118 => (if 0 ≤ (IntKind.u64.wrap (t118)) then (if 0 ≤ (IntKind.u64.wrap (64 - (IntKind.u64.wrap (t118)))) then (if ((shl .u64 a2 (IntKind.u64.wrap (t118))) / 4294967296) = 0 then (none) else (QaA.l0 k (shl .u64 a2 (IntKind.u64.wrap (t118))) (IntKind.u64.wrap (t118)) ((shl .u64 a2 (IntKind.u64.wrap (t118))) / 4294967296) (Go.bits .and .u64 (shl .u64 a2 (IntKind.u64.wrap (t118))) 4294967295) (Go.bits .or .u64 (shl .u64 a0 (IntKind.u64.wrap (t118))) (shr .u64 a1 (IntKind.u64.wrap (64 - (IntKind.u64.wrap (t118)))))) ((shl .u64 a1 (IntKind.u64.wrap (t118))) / 4294967296) (Go.bits .and .u64 (shl .u64 a1 (IntKind.u64.wrap (t118))) 4294967295) (IntKind.u64.wrap (Int.tdiv (Go.bits .or .u64 (shl .u64 a0 (IntKind.u64.wrap (t118))) (shr .u64 a1 (IntKind.u64.wrap (64 - (IntKind.u64.wrap (t118)))))) ((shl .u64 a2 (IntKind.u64.wrap (t118))) / 4294967296))) (IntKind.u64.wrap ((Go.bits .or .u64 (shl .u64 a0 (IntKind.u64.wrap (t118))) (shr .u64 a1 (IntKind.u64.wrap (64 - (IntKind.u64.wrap (t118)))))) - (IntKind.u64.wrap ((IntKind.u64.wrap (Int.tdiv (Go.bits .or .u64 (shl .u64 a0 (IntKind.u64.wrap (t118))) (shr .u64 a1 (IntKind.u64.wrap (64 - (IntKind.u64.wrap (t118)))))) ((shl .u64 a2 (IntKind.u64.wrap (t118))) / 4294967296))) * ((shl .u64 a2 (IntKind.u64.wrap (t118))) / 4294967296))))))) else (none)) else (none)))))
theorem QaA.mono_l : ∀ k, (∀ y0 y1 y2 y3 y4 y5 y6 y7, LeO (QaA.j2 k y0 y1 y2 y3 y4 y5 y6 y7) (QaA.j2 (k + 1) y0 y1 y2 y3 y4 y5 y6 y7)) ∧ (∀ y0 y1 y2 y3 y4 y5 y6 y7 y8, LeO (QaA.l1 k y0 y1 y2 y3 y4 y5 y6 y7 y8) (QaA.l1 (k + 1) y0 y1 y2 y3 y4 y5 y6 y7 y8)) ∧ (∀ y0 y1 y2 y3 y4 y5 y6 y7 y8 y9, LeO (QaA.j4 k y0 y1 y2 y3 y4 y5 y6 y7 y8 y9) (QaA.j4 (k + 1) y0 y1 y2 y3 y4 y5 y6 y7 y8 y9)) ∧ (∀ y0 y1 y2 y3 y4 y5 y6 y7 y8, LeO (QaA.l0 k y0 y1 y2 y3 y4 y5 y6 y7 y8) (QaA.l0 (k + 1) y0 y1 y2 y3 y4 y5 y6 y7 y8)) ∧ (∀ y0 y1 y2 y3 y4 y5 y6 y7 y8 y9, LeO (QaA.j1 k y0 y1 y2 y3 y4 y5 y6 y7 y8 y9) (QaA.j1 (k + 1) y0 y1 y2 y3 y4 y5 y6 y7 y8 y9))
 | 0 => ⟨fun _ _ _ _ _ _ _ _ r h => by simp [QaA.j2] at h, fun _ _ _ _ _ _ _ _ _ r h => by simp [QaA.l1] at h, fun _ _ _ _ _ _ _ _ _ _ r h => by simp [QaA.j4] at h, fun _ _ _ _ _ _ _ _ _ r h => by simp [QaA.l0] at h, fun _ _ _ _ _ _ _ _ _ _ r h => by simp [QaA.j1] at h⟩
 | k + 1 => by
  obtain ⟨ih0, ih1, ih2, ih3, ih4⟩ := QaA.mono_l k
  refine ⟨?_, ?_, ?_, ?_, ?_⟩
  ·intro y0 y1 y2 y3 y4 y5 y6 y7
   unfold QaA.j2
   exact ZM5 ih0 ih1 ih2 ih3 ih4
  ·intro y0 y1 y2 y3 y4 y5 y6 y7 y8
   unfold QaA.l1
   exact ZM5 ih0 ih1 ih2 ih3 ih4
  ·intro y0 y1 y2 y3 y4 y5 y6 y7 y8 y9
   unfold QaA.j4
   exact ZM5 ih0 ih1 ih2 ih3 ih4
  ·intro y0 y1 y2 y3 y4 y5 y6 y7 y8
   unfold QaA.l0
   exact ZM5 ih0 ih1 ih2 ih3 ih4
  intro y0 y1 y2 y3 y4 y5 y6 y7 y8 y9
  unfold QaA.j1
  exact ZM5 ih0 ih1 ih2 ih3 ih4
theorem QaA.mono : ∀ a0 a1 a2 k, LeO (QaA.f k a0 a1 a2) (QaA.f (k + 1) a0 a1 a2) := by
 intro a0 a1 a2 k
 obtain ⟨ih0, ih1, ih2, ih3, ih4⟩ := QaA.mono_l k
 unfold QaA.f
 exact ZM5 ih0 ih1 ih2 ih3 ih4
set_option maxHeartbeats 8000000 in
theorem QaA.calls (k : Nat) (a0 : Int) (a1 : Int) (a2 : Int) (r1 : Int) (r2 : Int) (w : World) (h : QaA.f k a0 a1 a2 = some (r1, r2)) :
  Calls Try.prog 90 #[.int .u64 a0, .int .u64 a1, .int .u64 a2] w fun e w' => e = .returned (.tuple #[.int .u64 r1, .int .u64 r2]) ∧ Drawn0 w w' := by
 have H : (if a2 = 0 then (none) else (if a2 ≤ a0 then (none) else (if a0 = 0 then (some (IntKind.u64.wrap (Int.tdiv a1 a2), Int.tmod a1 a2)) else ((QbD.f a2).bind fun t118 => (if 0 ≤ (IntKind.u64.wrap (t118)) then (if 0 ≤ (IntKind.u64.wrap (64 - (IntKind.u64.wrap (t118)))) then (if ((shl .u64 a2 (IntKind.u64.wrap (t118))) / 4294967296) = 0 then (none) else (QaA.l0 k (shl .u64 a2 (IntKind.u64.wrap (t118))) (IntKind.u64.wrap (t118)) ((shl .u64 a2 (IntKind.u64.wrap (t118))) / 4294967296) (Go.bits .and .u64 (shl .u64 a2 (IntKind.u64.wrap (t118))) 4294967295) (Go.bits .or .u64 (shl .u64 a0 (IntKind.u64.wrap (t118))) (shr .u64 a1 (IntKind.u64.wrap (64 - (IntKind.u64.wrap (t118)))))) ((shl .u64 a1 (IntKind.u64.wrap (t118))) / 4294967296) (Go.bits .and .u64 (shl .u64 a1 (IntKind.u64.wrap (t118))) 4294967295) (IntKind.u64.wrap (Int.tdiv (Go.bits .or .u64 (shl .u64 a0 (IntKind.u64.wrap (t118))) (shr .u64 a1 (IntKind.u64.wrap (64 - (IntKind.u64.wrap (t118)))))) ((shl .u64 a2 (IntKind.u64.wrap (t118))) / 4294967296))) (IntKind.u64.wrap ((Go.bits .or .u64 (shl .u64 a0 (IntKind.u64.wrap (t118))) (shr .u64 a1 (IntKind.u64.wrap (64 - (IntKind.u64.wrap (t118)))))) - (IntKind.u64.wrap ((IntKind.u64.wrap (Int.tdiv (Go.bits .or .u64 (shl .u64 a0 (IntKind.u64.wrap (t118))) (shr .u64 a1 (IntKind.u64.wrap (64 - (IntKind.u64.wrap (t118)))))) ((shl .u64 a2 (IntKind.u64.wrap (t118))) / 4294967296))) * ((shl .u64 a2 (IntKind.u64.wrap (t118))) / 4294967296))))))) else (none)) else (none)))))) = some (r1, r2) := h
 clear h
 by_cases c4 : a2 = 0
 ·rw [if_pos c4] at H
  exact absurd H (by simp)
 rw [if_neg c4] at H
 have c4b0 : (a2 == 0) = J := beq_eq_false_iff_ne.mpr c4
 have c4b1 : (a2 != 0) = F := bne_iff_ne.mpr c4
 by_cases c5 : a2 ≤ a0
 ·rw [if_pos c5] at H
  exact absurd H (by simp)
 rw [if_neg c5] at H
 have c5b0 : decide (a2 ≤ a0) = J := decide_eq_false c5
 clear c5
 by_cases c6 : a0 = 0
 ·rw [if_pos c6] at H
  have c6b0 : (a0 == 0) = F := beq_iff_eq.mpr c6
  have c6b1 : (a0 != 0) = J := bne_eq_false_iff_eq.mpr c6
  clear c6
  simp only [Option.some.injEq, Prod.mk.injEq] at H
  obtain ⟨rfl, rfl⟩ := H
  go_enter Try.func90, Try.ntmps90
  go_wp2
  repeat (go_quiet (fail); try go_wp2)
  go_ret2
  exact ⟨Zs, Zd⟩
 rw [if_neg c6] at H
 have c6b0 : (a0 == 0) = J := beq_eq_false_iff_ne.mpr c6
 have c6b1 : (a0 != 0) = F := bne_iff_ne.mpr c6
 replace H := Option.bind_eq_some_iff.mp H
 obtain ⟨t118, A70, H⟩ := H
 replace H : (if 0 ≤ (IntKind.u64.wrap (t118)) then (if 0 ≤ (IntKind.u64.wrap (64 - (IntKind.u64.wrap (t118)))) then (if ((shl .u64 a2 (IntKind.u64.wrap (t118))) / 4294967296) = 0 then (none) else (QaA.l0 k (shl .u64 a2 (IntKind.u64.wrap (t118))) (IntKind.u64.wrap (t118)) ((shl .u64 a2 (IntKind.u64.wrap (t118))) / 4294967296) (Go.bits .and .u64 (shl .u64 a2 (IntKind.u64.wrap (t118))) 4294967295) (Go.bits .or .u64 (shl .u64 a0 (IntKind.u64.wrap (t118))) (shr .u64 a1 (IntKind.u64.wrap (64 - (IntKind.u64.wrap (t118)))))) ((shl .u64 a1 (IntKind.u64.wrap (t118))) / 4294967296) (Go.bits .and .u64 (shl .u64 a1 (IntKind.u64.wrap (t118))) 4294967295) (IntKind.u64.wrap (Int.tdiv (Go.bits .or .u64 (shl .u64 a0 (IntKind.u64.wrap (t118))) (shr .u64 a1 (IntKind.u64.wrap (64 - (IntKind.u64.wrap (t118)))))) ((shl .u64 a2 (IntKind.u64.wrap (t118))) / 4294967296))) (IntKind.u64.wrap ((Go.bits .or .u64 (shl .u64 a0 (IntKind.u64.wrap (t118))) (shr .u64 a1 (IntKind.u64.wrap (64 - (IntKind.u64.wrap (t118)))))) - (IntKind.u64.wrap ((IntKind.u64.wrap (Int.tdiv (Go.bits .or .u64 (shl .u64 a0 (IntKind.u64.wrap (t118))) (shr .u64 a1 (IntKind.u64.wrap (64 - (IntKind.u64.wrap (t118)))))) ((shl .u64 a2 (IntKind.u64.wrap (t118))) / 4294967296))) * ((shl .u64 a2 (IntKind.u64.wrap (t118))) / 4294967296))))))) else (none)) else (none)) = some (r1, r2) := H
 have A7 := Aside0.mk A70
 clear A70
 obtain ⟨ji8, hji8⟩ : ∃ j_ : Int, (IntKind.u64.wrap (t118)) = j_ := ⟨_, rfl⟩
 replace H : (if 0 ≤ (ji8) then (if 0 ≤ (IntKind.u64.wrap (64 - (ji8))) then (if ((shl .u64 a2 (ji8)) / 4294967296) = 0 then (none) else (QaA.l0 k (shl .u64 a2 (ji8)) ji8 ((shl .u64 a2 (ji8)) / 4294967296) (Go.bits .and .u64 (shl .u64 a2 (ji8)) 4294967295) (Go.bits .or .u64 (shl .u64 a0 (ji8)) (shr .u64 a1 (IntKind.u64.wrap (64 - (ji8))))) ((shl .u64 a1 (ji8)) / 4294967296) (Go.bits .and .u64 (shl .u64 a1 (ji8)) 4294967295) (IntKind.u64.wrap (Int.tdiv (Go.bits .or .u64 (shl .u64 a0 (ji8)) (shr .u64 a1 (IntKind.u64.wrap (64 - (ji8))))) ((shl .u64 a2 (ji8)) / 4294967296))) (IntKind.u64.wrap ((Go.bits .or .u64 (shl .u64 a0 (ji8)) (shr .u64 a1 (IntKind.u64.wrap (64 - (ji8))))) - (IntKind.u64.wrap ((IntKind.u64.wrap (Int.tdiv (Go.bits .or .u64 (shl .u64 a0 (ji8)) (shr .u64 a1 (IntKind.u64.wrap (64 - (ji8))))) ((shl .u64 a2 (ji8)) / 4294967296))) * ((shl .u64 a2 (ji8)) / 4294967296))))))) else (none)) else (none)) = some (r1, r2) := by first | (rw [hji8] at H; exact H) | (simp only [hji8] at H ⊢; exact H)
 (try rw [hji8] at A7)
 by_cases c9 : 0 ≤ (ji8)
 ·rw [if_pos c9] at H
  have c9b0 := eq_true c9
  have c9b1 : decide (0 ≤ (ji8)) = F := decide_eq_true c9
  clear c9
  obtain ⟨ji10, hji10⟩ : ∃ j_ : Int, (shl .u64 a2 (ji8)) = j_ := ⟨_, rfl⟩
  replace H : (if 0 ≤ (IntKind.u64.wrap (64 - (ji8))) then (if ((ji10) / 4294967296) = 0 then (none) else (QaA.l0 k ji10 ji8 ((ji10) / 4294967296) (Go.bits .and .u64 (ji10) 4294967295) (Go.bits .or .u64 (shl .u64 a0 (ji8)) (shr .u64 a1 (IntKind.u64.wrap (64 - (ji8))))) ((shl .u64 a1 (ji8)) / 4294967296) (Go.bits .and .u64 (shl .u64 a1 (ji8)) 4294967295) (IntKind.u64.wrap (Int.tdiv (Go.bits .or .u64 (shl .u64 a0 (ji8)) (shr .u64 a1 (IntKind.u64.wrap (64 - (ji8))))) ((ji10) / 4294967296))) (IntKind.u64.wrap ((Go.bits .or .u64 (shl .u64 a0 (ji8)) (shr .u64 a1 (IntKind.u64.wrap (64 - (ji8))))) - (IntKind.u64.wrap ((IntKind.u64.wrap (Int.tdiv (Go.bits .or .u64 (shl .u64 a0 (ji8)) (shr .u64 a1 (IntKind.u64.wrap (64 - (ji8))))) ((ji10) / 4294967296))) * ((ji10) / 4294967296))))))) else (none)) = some (r1, r2) := by first | (rw [hji10] at H; exact H) | (simp only [hji10] at H ⊢; exact H)
  (try rw [hji10] at A7)
  have hji10_ : (IntKind.u64.wrap (a2 * 2 ^ min (ji8).toNat 64)) = ji10 := hji10
  have hji10z : (ji8) ≤ 64 → (IntKind.u64.wrap (a2 * 2 ^ (ji8).toNat)) = ji10 := Qc0 hji10
  have c11b0 := eq_true (Ze : 0 ≤ (ji8))
  obtain ⟨ji12, hji12⟩ : ∃ j_ : Int, (shl .u64 a0 (ji8)) = j_ := ⟨_, rfl⟩
  replace H : (if 0 ≤ (IntKind.u64.wrap (64 - (ji8))) then (if ((ji10) / 4294967296) = 0 then (none) else (QaA.l0 k ji10 ji8 ((ji10) / 4294967296) (Go.bits .and .u64 (ji10) 4294967295) (Go.bits .or .u64 (ji12) (shr .u64 a1 (IntKind.u64.wrap (64 - (ji8))))) ((shl .u64 a1 (ji8)) / 4294967296) (Go.bits .and .u64 (shl .u64 a1 (ji8)) 4294967295) (IntKind.u64.wrap (Int.tdiv (Go.bits .or .u64 (ji12) (shr .u64 a1 (IntKind.u64.wrap (64 - (ji8))))) ((ji10) / 4294967296))) (IntKind.u64.wrap ((Go.bits .or .u64 (ji12) (shr .u64 a1 (IntKind.u64.wrap (64 - (ji8))))) - (IntKind.u64.wrap ((IntKind.u64.wrap (Int.tdiv (Go.bits .or .u64 (ji12) (shr .u64 a1 (IntKind.u64.wrap (64 - (ji8))))) ((ji10) / 4294967296))) * ((ji10) / 4294967296))))))) else (none)) = some (r1, r2) := by first | (rw [hji12] at H; exact H) | (simp only [hji12] at H ⊢; exact H)
  (try rw [hji12] at A7)
  have hji12_ : (IntKind.u64.wrap (a0 * 2 ^ min (ji8).toNat 64)) = ji12 := hji12
  have hji12z : (ji8) ≤ 64 → (IntKind.u64.wrap (a0 * 2 ^ (ji8).toNat)) = ji12 := Qc0 hji12
  obtain ⟨ji13, hji13⟩ : ∃ j_ : Int, (IntKind.u64.wrap (64 - (ji8))) = j_ := ⟨_, rfl⟩
  replace H : (if 0 ≤ (ji13) then (if ((ji10) / 4294967296) = 0 then (none) else (QaA.l0 k ji10 ji8 ((ji10) / 4294967296) (Go.bits .and .u64 (ji10) 4294967295) (Go.bits .or .u64 (ji12) (shr .u64 a1 (ji13))) ((shl .u64 a1 (ji8)) / 4294967296) (Go.bits .and .u64 (shl .u64 a1 (ji8)) 4294967295) (IntKind.u64.wrap (Int.tdiv (Go.bits .or .u64 (ji12) (shr .u64 a1 (ji13))) ((ji10) / 4294967296))) (IntKind.u64.wrap ((Go.bits .or .u64 (ji12) (shr .u64 a1 (ji13))) - (IntKind.u64.wrap ((IntKind.u64.wrap (Int.tdiv (Go.bits .or .u64 (ji12) (shr .u64 a1 (ji13))) ((ji10) / 4294967296))) * ((ji10) / 4294967296))))))) else (none)) = some (r1, r2) := by first | (rw [hji13] at H; exact H) | (simp only [hji13] at H ⊢; exact H)
  (try rw [hji13] at A7)
  by_cases c14 : 0 ≤ (ji13)
  ·rw [if_pos c14] at H
   have c14b0 := eq_true c14
   have c14b1 : decide (0 ≤ (ji13)) = F := decide_eq_true c14
   clear c14
   obtain ⟨ji15, hji15⟩ : ∃ j_ : Int, (shr .u64 a1 (ji13)) = j_ := ⟨_, rfl⟩
   replace H : (if ((ji10) / 4294967296) = 0 then (none) else (QaA.l0 k ji10 ji8 ((ji10) / 4294967296) (Go.bits .and .u64 (ji10) 4294967295) (Go.bits .or .u64 (ji12) (ji15)) ((shl .u64 a1 (ji8)) / 4294967296) (Go.bits .and .u64 (shl .u64 a1 (ji8)) 4294967295) (IntKind.u64.wrap (Int.tdiv (Go.bits .or .u64 (ji12) (ji15)) ((ji10) / 4294967296))) (IntKind.u64.wrap ((Go.bits .or .u64 (ji12) (ji15)) - (IntKind.u64.wrap ((IntKind.u64.wrap (Int.tdiv (Go.bits .or .u64 (ji12) (ji15)) ((ji10) / 4294967296))) * ((ji10) / 4294967296))))))) = some (r1, r2) := by first | (rw [hji15] at H; exact H) | (simp only [hji15] at H ⊢; exact H)
   (try rw [hji15] at A7)
   have hji15_ : (a1 / 2 ^ min (ji13).toNat 64) = ji15 := hji15
   have hji15z : (ji13) ≤ 64 → (a1 / 2 ^ (ji13).toNat) = ji15 := QcE hji15
   have c16b0 := eq_true (Ze : 0 ≤ (ji8))
   obtain ⟨ji17, hji17⟩ : ∃ j_ : Int, (shl .u64 a1 (ji8)) = j_ := ⟨_, rfl⟩
   replace H : (if ((ji10) / 4294967296) = 0 then (none) else (QaA.l0 k ji10 ji8 ((ji10) / 4294967296) (Go.bits .and .u64 (ji10) 4294967295) (Go.bits .or .u64 (ji12) (ji15)) ((ji17) / 4294967296) (Go.bits .and .u64 (ji17) 4294967295) (IntKind.u64.wrap (Int.tdiv (Go.bits .or .u64 (ji12) (ji15)) ((ji10) / 4294967296))) (IntKind.u64.wrap ((Go.bits .or .u64 (ji12) (ji15)) - (IntKind.u64.wrap ((IntKind.u64.wrap (Int.tdiv (Go.bits .or .u64 (ji12) (ji15)) ((ji10) / 4294967296))) * ((ji10) / 4294967296))))))) = some (r1, r2) := by first | (rw [hji17] at H; exact H) | (simp only [hji17] at H ⊢; exact H)
   (try rw [hji17] at A7)
   have hji17_ : (IntKind.u64.wrap (a1 * 2 ^ min (ji8).toNat 64)) = ji17 := hji17
   have hji17z : (ji8) ≤ 64 → (IntKind.u64.wrap (a1 * 2 ^ (ji8).toNat)) = ji17 := Qc0 hji17
   by_cases c18 : ((ji10) / 4294967296) = 0
   ·rw [if_pos c18] at H
    exact absurd H (by simp)
   rw [if_neg c18] at H
   have c18b0 : (((ji10) / 4294967296) == 0) = J := beq_eq_false_iff_ne.mpr c18
   have c18b1 : (((ji10) / 4294967296) != 0) = F := bne_iff_ne.mpr c18
   have HC19 := Aside0.mk H
   clear H
   go_enter Try.func90, Try.ntmps90
   go_upto_block 0 with (first | (go_at_call 117; (with_reducible refine (QbD.calls a2 t118 _ A7.out).mono ?_); rintro e w' ⟨rfl, ⟨nd, rfl⟩⟩; (try first | exact ⟨rfl, _, World.drewN_drewN _ _ _⟩ | exact ⟨rfl, _, Eq.trans (World.drewN_drewN _ _ _) (congrArg (World.drewN _) (Nat.add_assoc _ _ _))⟩)))
   repeat (go_quiet (first | (go_at_call 117; (with_reducible refine (QbD.calls a2 t118 _ A7.out).mono ?_); rintro e w' ⟨rfl, ⟨nd, rfl⟩⟩; (try first | exact ⟨rfl, _, World.drewN_drewN _ _ _⟩ | exact ⟨rfl, _, Eq.trans (World.drewN_drewN _ _ _) (congrArg (World.drewN _) (Nat.add_assoc _ _ _))⟩))); go_upto_block 0 with (first | (go_at_call 117; (with_reducible refine (QbD.calls a2 t118 _ A7.out).mono ?_); rintro e w' ⟨rfl, ⟨nd, rfl⟩⟩; (try first | exact ⟨rfl, _, World.drewN_drewN _ _ _⟩ | exact ⟨rfl, _, Eq.trans (World.drewN_drewN _ _ _) (congrArg (World.drewN _) (Nat.add_assoc _ _ _))⟩))))
   (try simp only [Act.put, Zj, Zk, Zm])
   go_cut [15] (fun v15 wc => ∃ (kq : Nat) (x15_18 : Int), v15 = .int .u64 x15_18 ∧ Aside0 (QaA.j2 kq ji10 ji8 ((ji10) / 4294967296) (Go.bits .and .u64 (ji10) 4294967295) (Go.bits .or .u64 (ji12) (ji15)) ((ji17) / 4294967296) (Go.bits .and .u64 (ji17) 4294967295) x15_18 = some (r1, r2)) ∧ Aside0 (kq ≤ k) ∧ Drawn0 w wc)
   case first =>
    have H := HC19.out
    clear HC19
    have H' := Aside0.mk H
    clear H
    go_wp2
    repeat (go_quiet (fail); try go_wp2)
    go_loopg [15, 16] k (fun kq v15 v16 w' => ∃ (x15_1 : Int) (x16_1 : Int), v15 = .int .u64 x15_1 ∧ v16 = .int .u64 x16_1 ∧ Aside0 (QaA.l0 kq ji10 ji8 ((ji10) / 4294967296) (Go.bits .and .u64 (ji10) 4294967295) (Go.bits .or .u64 (ji12) (ji15)) ((ji17) / 4294967296) (Go.bits .and .u64 (ji17) 4294967295) x15_1 x16_1 = some (r1, r2)) ∧ Aside0 (kq ≤ k) ∧ Drawn0 w w')
    case atStart => exact ⟨(IntKind.u64.wrap (Int.tdiv (Go.bits .or .u64 (ji12) (ji15)) ((ji10) / 4294967296))), (IntKind.u64.wrap ((Go.bits .or .u64 (ji12) (ji15)) - (IntKind.u64.wrap ((IntKind.u64.wrap (Int.tdiv (Go.bits .or .u64 (ji12) (ji15)) ((ji10) / 4294967296))) * ((ji10) / 4294967296))))), (by first | rfl | (simp; done) | (simp only [← hji10, ← hji12, ← hji15] <;> (first | rfl | simp)) | (simp [*]; done)), (by first | rfl | (simp; done) | (simp only [← hji10, ← hji12, ← hji15] <;> (first | rfl | simp)) | (simp [*]; done)), H', ⟨Nat.le_refl _⟩, Zd⟩
    case round =>
     clear H'
     try clear c1
     try clear p2
     try clear c4
     try clear c4b0
     try clear c4b1
     try clear c5
     try clear c5b0
     try clear c6
     try clear c6b0
     try clear c6b1
     try clear c9
     try clear c9b0
     try clear c9b1
     try clear c11
     try clear c11b0
     try clear c14
     try clear c14b0
     try clear c14b1
     try clear c16
     try clear c16b0
     try clear c18
     try clear c18b0
     try clear c18b1
     obtain ⟨x15_1, x16_1, rfl, rfl, HA, HK1, ⟨m1, rfl⟩⟩ := hrel
     cases gk with
     | zero => exact absurd HA.out (by simp [QaA.l0])
     | succ k1 =>
      have H := HA.out
      clear HA
      simp only [QaA.l0] at H
      have HC20 := Aside0.mk H
      clear H
      go_upto_region 17 with (fail)
      repeat (go_quiet (fail); go_upto_region 17 with (fail))
      go_cut [78] (fun v78 wc => ∃ (kq : Nat) (x78_19 : Bool), v78 = .bool x78_19 ∧ Aside0 (QaA.j1 kq ji10 ji8 ((ji10) / 4294967296) (Go.bits .and .u64 (ji10) 4294967295) (Go.bits .or .u64 (ji12) (ji15)) ((ji17) / 4294967296) (Go.bits .and .u64 (ji17) 4294967295) x15_1 x16_1 x78_19 = some (r1, r2)) ∧ Aside0 (kq ≤ k1) ∧ Drawn0 w wc)
      case first =>
       have H := HC20.out
       clear HC20
       by_cases c21 : x15_1 ≥ 4294967296
       ·rw [if_pos c21] at H
        have c21b0 : decide (4294967296 ≤ x15_1) = F := decide_eq_true c21
        clear c21
        have H' := Aside0.mk H
        clear H
        go_wp2
        repeat (go_quiet (fail); try go_wp2)
        go_meet
        case rel => exact ⟨_, (F), (Zs), H', ⟨by have := HK1.out; first | omega | exact Nat.le_refl _⟩, Zd⟩
       rw [if_neg c21] at H
       have c21b0 : decide (4294967296 ≤ x15_1) = J := decide_eq_false c21
       clear c21
       have H' := Aside0.mk H
       clear H
       go_wp2
       repeat (go_quiet (fail); try go_wp2)
       go_meet
       case rel => exact ⟨_, (decide ((IntKind.u64.wrap (x15_1 * (Go.bits .and .u64 (ji10) 4294967295))) > (IntKind.u64.wrap ((IntKind.u64.wrap (4294967296 * x16_1)) + ((ji17) / 4294967296))))), (by first | rfl | (simp; done) | (simp only [← hji10, ← hji17] <;> (first | rfl | simp)) | (simp [*]; done)), H', ⟨by have := HK1.out; first | omega | exact Nat.le_refl _⟩, Zd⟩
      case rest =>
       clear HC20
       try clear c1
       try clear c2
       try clear p2
       try clear c4
       try clear c4b0
       try clear c4b1
       try clear c5
       try clear c5b0
       try clear c6
       try clear c6b0
       try clear c6b1
       try clear c9
       try clear c9b0
       try clear c9b1
       try clear c11
       try clear c11b0
       try clear c14
       try clear c14b0
       try clear c14b1
       try clear c16
       try clear c16b0
       try clear c18
       try clear c18b0
       try clear c18b1
       try clear c21
       try clear c21b0
       try clear p2
       obtain ⟨kq, x78_19, rfl, HA, HJ19, ⟨mc19, rfl⟩⟩ := hcut
       cases kq with
       | zero => exact absurd HA.out (by simp [QaA.j1])
       | succ kj19 =>
        have H := HA.out
        clear HA
        simp only [QaA.j1] at H
        by_cases c22 : x78_19 = F
        ·subst c22
         have H1 : (if (IntKind.u64.wrap (x16_1 + ((ji10) / 4294967296))) ≥ 4294967296 then (QaA.j2 kj19 ji10 ji8 ((ji10) / 4294967296) (Go.bits .and .u64 (ji10) 4294967295) (Go.bits .or .u64 (ji12) (ji15)) ((ji17) / 4294967296) (Go.bits .and .u64 (ji17) 4294967295) (IntKind.u64.wrap (x15_1 - 1))) else (QaA.l0 kj19 ji10 ji8 ((ji10) / 4294967296) (Go.bits .and .u64 (ji10) 4294967295) (Go.bits .or .u64 (ji12) (ji15)) ((ji17) / 4294967296) (Go.bits .and .u64 (ji17) 4294967295) (IntKind.u64.wrap (x15_1 - 1)) (IntKind.u64.wrap (x16_1 + ((ji10) / 4294967296))))) = some (r1, r2) := by rw [if_pos rfl] at H; exact H
         clear H
         have H := H1
         clear H1
         by_cases c23 : (IntKind.u64.wrap (x16_1 + ((ji10) / 4294967296))) ≥ 4294967296
         ·rw [if_pos c23] at H
          have c23b0 : decide (4294967296 ≤ (IntKind.u64.wrap (x16_1 + ((ji10) / 4294967296)))) = F := decide_eq_true c23
          clear c23
          (try simp only [c23b0])
          have H' := Aside0.mk H
          clear H
          go_wp2
          repeat (go_quiet (fail); try go_wp2)
          go_meet
          case rel => exact ⟨_, (IntKind.u64.wrap (x15_1 - 1)), (Zs), H', ⟨by have := HK1.out; have := HJ19.out; first | omega | exact Nat.le_refl _⟩, Zd⟩
         rw [if_neg c23] at H
         have c23b0 : decide (4294967296 ≤ (IntKind.u64.wrap (x16_1 + ((ji10) / 4294967296)))) = J := decide_eq_false c23
         clear c23
         (try simp only [c23b0])
         have H' := Aside0.mk H
         clear H
         go_wp2
         repeat (go_quiet (fail); try go_wp2)
         go_roundg kj19
         case measure => have := HK1.out; have := HJ19.out; omega
         case rel => exact ⟨(IntKind.u64.wrap (x15_1 - 1)), (IntKind.u64.wrap (x16_1 + ((ji10) / 4294967296))), (Zs), (by first | rfl | (simp; done) | (simp only [← hji10] <;> (first | rfl | simp)) | (simp [*]; done)), H', ⟨by have := HK1.out; have := HJ19.out; omega⟩, Zd⟩
        replace c22 := Bool.eq_false_iff.mpr c22
        subst c22
        have H1 : (QaA.j2 kj19 ji10 ji8 ((ji10) / 4294967296) (Go.bits .and .u64 (ji10) 4294967295) (Go.bits .or .u64 (ji12) (ji15)) ((ji17) / 4294967296) (Go.bits .and .u64 (ji17) 4294967295) x15_1) = some (r1, r2) := by rw [if_neg (show ¬ (J = F) by decide)] at H; exact H
        clear H
        have H := H1
        clear H1
        have H' := Aside0.mk H
        clear H
        go_wp2
        repeat (go_quiet (fail); try go_wp2)
        go_meet
        case rel => exact ⟨_, (x15_1), (Zs), H', ⟨by have := HK1.out; have := HJ19.out; first | omega | exact Nat.le_refl _⟩, Zd⟩
   case rest =>
    clear HC19
    try clear c1
    try clear c2
    try clear p2
    try clear c4
    try clear c4b0
    try clear c4b1
    try clear c5
    try clear c5b0
    try clear c6
    try clear c6b0
    try clear c6b1
    try clear c9
    try clear c9b0
    try clear c9b1
    try clear c11
    try clear c11b0
    try clear c14
    try clear c14b0
    try clear c14b1
    try clear c16
    try clear c16b0
    try clear c18
    try clear c18b0
    try clear c18b1
    try clear c19
    try clear c21
    try clear c21b0
    try clear c22
    try clear c23
    try clear c23b0
    try clear p2
    obtain ⟨kq, x15_18, rfl, HA, HJ18, ⟨mc18, rfl⟩⟩ := hcut
    cases kq with
    | zero => exact absurd HA.out (by simp [QaA.j2])
    | succ kj18 =>
     have H := HA.out
     clear HA
     simp only [QaA.j2] at H
     by_cases c24 : ((ji10) / 4294967296) = 0
     ·rw [if_pos c24] at H
      exact absurd H (by simp)
     rw [if_neg c24] at H
     have c24b0 : (((ji10) / 4294967296) == 0) = J := beq_eq_false_iff_ne.mpr c24
     have c24b1 : (((ji10) / 4294967296) != 0) = F := bne_iff_ne.mpr c24
     have H' := Aside0.mk H
     clear H
     go_wp2
     repeat (go_quiet (fail); try go_wp2)
     go_loopg [16, 18] kj18 (fun kq v16 v18 w' => ∃ (x16_2 : Int) (x18_2 : Int), v16 = .int .u64 x16_2 ∧ v18 = .int .u64 x18_2 ∧ Aside0 (QaA.l1 kq ji10 ji8 ((ji10) / 4294967296) (Go.bits .and .u64 (ji10) 4294967295) (Go.bits .and .u64 (ji17) 4294967295) x15_18 x16_2 (IntKind.u64.wrap ((IntKind.u64.wrap ((IntKind.u64.wrap ((Go.bits .or .u64 (ji12) (ji15)) * 4294967296)) + ((ji17) / 4294967296))) - (IntKind.u64.wrap (x15_18 * ji10)))) x18_2 = some (r1, r2)) ∧ Aside0 (kq ≤ kj18) ∧ Drawn0 w w')
     case atStart => exact ⟨(IntKind.u64.wrap ((IntKind.u64.wrap ((IntKind.u64.wrap ((IntKind.u64.wrap ((Go.bits .or .u64 (ji12) (ji15)) * 4294967296)) + ((ji17) / 4294967296))) - (IntKind.u64.wrap (x15_18 * ji10)))) - (IntKind.u64.wrap ((IntKind.u64.wrap (Int.tdiv (IntKind.u64.wrap ((IntKind.u64.wrap ((IntKind.u64.wrap ((Go.bits .or .u64 (ji12) (ji15)) * 4294967296)) + ((ji17) / 4294967296))) - (IntKind.u64.wrap (x15_18 * ji10)))) ((ji10) / 4294967296))) * ((ji10) / 4294967296))))), (IntKind.u64.wrap (Int.tdiv (IntKind.u64.wrap ((IntKind.u64.wrap ((IntKind.u64.wrap ((Go.bits .or .u64 (ji12) (ji15)) * 4294967296)) + ((ji17) / 4294967296))) - (IntKind.u64.wrap (x15_18 * ji10)))) ((ji10) / 4294967296))), (by first | rfl | (simp; done) | (simp only [← hji10, ← hji12, ← hji15, ← hji17] <;> (first | rfl | simp)) | (simp [*]; done)), (by first | rfl | (simp; done) | (simp only [← hji10, ← hji12, ← hji15, ← hji17] <;> (first | rfl | simp)) | (simp [*]; done)), H', ⟨Nat.le_refl _⟩, Zd⟩
     case round =>
      clear H'
      try clear c1
      try clear c2
      try clear p2
      try clear c4
      try clear c4b0
      try clear c4b1
      try clear c5
      try clear c5b0
      try clear c6
      try clear c6b0
      try clear c6b1
      try clear c9
      try clear c9b0
      try clear c9b1
      try clear c11
      try clear c11b0
      try clear c14
      try clear c14b0
      try clear c14b1
      try clear c16
      try clear c16b0
      try clear c18
      try clear c18b0
      try clear c18b1
      try clear c19
      try clear c21
      try clear c21b0
      try clear c22
      try clear c23
      try clear c23b0
      try clear c24
      try clear c24b0
      try clear c24b1
      try clear p2
      obtain ⟨x16_2, x18_2, rfl, rfl, HA, HK2, ⟨m2, rfl⟩⟩ := hrel
      cases gk with
      | zero => exact absurd HA.out (by simp [QaA.l1])
      | succ k2 =>
       have H := HA.out
       clear HA
       simp only [QaA.l1] at H
       have HC25 := Aside0.mk H
       clear H
       go_upto_region 24 with (fail)
       repeat (go_quiet (fail); go_upto_region 24 with (fail))
       go_cut [113] (fun v113 wc => ∃ (kq : Nat) (x113_24 : Bool), v113 = .bool x113_24 ∧ Aside0 (QaA.j4 kq ji10 ji8 ((ji10) / 4294967296) (Go.bits .and .u64 (ji10) 4294967295) (Go.bits .and .u64 (ji17) 4294967295) x15_18 x16_2 (IntKind.u64.wrap ((IntKind.u64.wrap ((IntKind.u64.wrap ((Go.bits .or .u64 (ji12) (ji15)) * 4294967296)) + ((ji17) / 4294967296))) - (IntKind.u64.wrap (x15_18 * ji10)))) x18_2 x113_24 = some (r1, r2)) ∧ Aside0 (kq ≤ k2) ∧ Drawn0 w wc)
       case first =>
        have H := HC25.out
        clear HC25
        by_cases c26 : x18_2 ≥ 4294967296
        ·rw [if_pos c26] at H
         have c26b0 : decide (4294967296 ≤ x18_2) = F := decide_eq_true c26
         clear c26
         have H' := Aside0.mk H
         clear H
         go_wp2
         repeat (go_quiet (fail); try go_wp2)
         go_meet
         case rel => exact ⟨_, (F), (Zs), H', ⟨by have := HJ18.out; have := HK2.out; first | omega | exact Nat.le_refl _⟩, Zd⟩
        rw [if_neg c26] at H
        have c26b0 : decide (4294967296 ≤ x18_2) = J := decide_eq_false c26
        clear c26
        have H' := Aside0.mk H
        clear H
        go_wp2
        repeat (go_quiet (fail); try go_wp2)
        go_meet
        case rel => exact ⟨_, (decide ((IntKind.u64.wrap (x18_2 * (Go.bits .and .u64 (ji10) 4294967295))) > (IntKind.u64.wrap ((IntKind.u64.wrap (4294967296 * x16_2)) + (Go.bits .and .u64 (ji17) 4294967295))))), (by first | rfl | (simp; done) | (simp only [← hji10, ← hji17] <;> (first | rfl | simp)) | (simp [*]; done)), H', ⟨by have := HJ18.out; have := HK2.out; first | omega | exact Nat.le_refl _⟩, Zd⟩
       case rest =>
        clear HC25
        try clear c1
        try clear c2
        try clear p2
        try clear c4
        try clear c4b0
        try clear c4b1
        try clear c5
        try clear c5b0
        try clear c6
        try clear c6b0
        try clear c6b1
        try clear c9
        try clear c9b0
        try clear c9b1
        try clear c11
        try clear c11b0
        try clear c14
        try clear c14b0
        try clear c14b1
        try clear c16
        try clear c16b0
        try clear c18
        try clear c18b0
        try clear c18b1
        try clear c19
        try clear c21
        try clear c21b0
        try clear c22
        try clear c23
        try clear c23b0
        try clear c24
        try clear c24b0
        try clear c24b1
        try clear c26
        try clear c26b0
        try clear p2
        obtain ⟨kq, x113_24, rfl, HA, HJ24, ⟨mc24, rfl⟩⟩ := hcut
        cases kq with
        | zero => exact absurd HA.out (by simp [QaA.j4])
        | succ kj24 =>
         have H := HA.out
         clear HA
         simp only [QaA.j4] at H
         by_cases c27 : x113_24 = F
         ·subst c27
          have H1 : (if (IntKind.u64.wrap (x16_2 + ((ji10) / 4294967296))) ≥ 4294967296 then (if 0 ≤ ji8 then (some (IntKind.u64.wrap ((IntKind.u64.wrap (x15_18 * 4294967296)) + (IntKind.u64.wrap (x18_2 - 1))), shr .u64 (IntKind.u64.wrap ((IntKind.u64.wrap ((IntKind.u64.wrap ((IntKind.u64.wrap ((IntKind.u64.wrap ((IntKind.u64.wrap ((Go.bits .or .u64 (ji12) (ji15)) * 4294967296)) + ((ji17) / 4294967296))) - (IntKind.u64.wrap (x15_18 * ji10)))) * 4294967296)) + (Go.bits .and .u64 (ji17) 4294967295))) - (IntKind.u64.wrap ((IntKind.u64.wrap (x18_2 - 1)) * ji10)))) ji8)) else (none)) else (QaA.l1 kj24 ji10 ji8 ((ji10) / 4294967296) (Go.bits .and .u64 (ji10) 4294967295) (Go.bits .and .u64 (ji17) 4294967295) x15_18 (IntKind.u64.wrap (x16_2 + ((ji10) / 4294967296))) (IntKind.u64.wrap ((IntKind.u64.wrap ((IntKind.u64.wrap ((Go.bits .or .u64 (ji12) (ji15)) * 4294967296)) + ((ji17) / 4294967296))) - (IntKind.u64.wrap (x15_18 * ji10)))) (IntKind.u64.wrap (x18_2 - 1)))) = some (r1, r2) := by rw [if_pos rfl] at H; exact H
          clear H
          have H := H1
          clear H1
          by_cases c28 : (IntKind.u64.wrap (x16_2 + ((ji10) / 4294967296))) ≥ 4294967296
          ·rw [if_pos c28] at H
           have c28b0 : decide (4294967296 ≤ (IntKind.u64.wrap (x16_2 + ((ji10) / 4294967296)))) = F := decide_eq_true c28
           clear c28
           (try simp only [c28b0])
           by_cases c29 : 0 ≤ ji8
           ·rw [if_pos c29] at H
            have c29b0 := eq_true c29
            have c29b1 : decide (0 ≤ ji8) = F := decide_eq_true c29
            clear c29
            obtain ⟨ji30, hji30⟩ : ∃ j_ : Int, (shr .u64 (IntKind.u64.wrap ((IntKind.u64.wrap ((IntKind.u64.wrap ((IntKind.u64.wrap ((IntKind.u64.wrap ((IntKind.u64.wrap ((Go.bits .or .u64 (ji12) (ji15)) * 4294967296)) + ((ji17) / 4294967296))) - (IntKind.u64.wrap (x15_18 * ji10)))) * 4294967296)) + (Go.bits .and .u64 (ji17) 4294967295))) - (IntKind.u64.wrap ((IntKind.u64.wrap (x18_2 - 1)) * ji10)))) ji8) = j_ := ⟨_, rfl⟩
            replace H : (some (IntKind.u64.wrap ((IntKind.u64.wrap (x15_18 * 4294967296)) + (IntKind.u64.wrap (x18_2 - 1))), ji30)) = some (r1, r2) := by first | (rw [hji30] at H; exact H) | (simp only [hji30] at H ⊢; exact H)
            have hji30_ : ((IntKind.u64.wrap ((IntKind.u64.wrap ((IntKind.u64.wrap ((IntKind.u64.wrap ((IntKind.u64.wrap ((IntKind.u64.wrap ((Go.bits .or .u64 (ji12) (ji15)) * 4294967296)) + ((ji17) / 4294967296))) - (IntKind.u64.wrap (x15_18 * ji10)))) * 4294967296)) + (Go.bits .and .u64 (ji17) 4294967295))) - (IntKind.u64.wrap ((IntKind.u64.wrap (x18_2 - 1)) * ji10)))) / 2 ^ min ji8.toNat 64) = ji30 := hji30
            have hji30z : ji8 ≤ 64 → ((IntKind.u64.wrap ((IntKind.u64.wrap ((IntKind.u64.wrap ((IntKind.u64.wrap ((IntKind.u64.wrap ((IntKind.u64.wrap ((Go.bits .or .u64 (ji12) (ji15)) * 4294967296)) + ((ji17) / 4294967296))) - (IntKind.u64.wrap (x15_18 * ji10)))) * 4294967296)) + (Go.bits .and .u64 (ji17) 4294967295))) - (IntKind.u64.wrap ((IntKind.u64.wrap (x18_2 - 1)) * ji10)))) / 2 ^ ji8.toNat) = ji30 := QcE hji30
            simp only [Option.some.injEq, Prod.mk.injEq] at H
            obtain ⟨rfl, rfl⟩ := H
            go_wp2
            repeat (go_quiet (fail); try go_wp2)
            go_ret2
            exact ⟨by first | rfl | (simp; done) | (simp only [← hji8, ← hji10, ← hji12, ← hji13, ← hji15, ← hji17, ← hji30] <;> (first | rfl | simp)) | (simp [*]; done), Zd⟩
           rw [if_neg c29] at H
           exact absurd H (by simp)
          rw [if_neg c28] at H
          have c28b0 : decide (4294967296 ≤ (IntKind.u64.wrap (x16_2 + ((ji10) / 4294967296)))) = J := decide_eq_false c28
          clear c28
          (try simp only [c28b0])
          have H' := Aside0.mk H
          clear H
          go_wp2
          repeat (go_quiet (fail); try go_wp2)
          go_roundg kj24
          case measure => have := HJ18.out; have := HK2.out; have := HJ24.out; omega
          case rel => exact ⟨(IntKind.u64.wrap (x16_2 + ((ji10) / 4294967296))), (IntKind.u64.wrap (x18_2 - 1)), (by first | rfl | (simp; done) | (simp only [← hji10] <;> (first | rfl | simp)) | (simp [*]; done)), (Zs), H', ⟨by have := HJ18.out; have := HK2.out; have := HJ24.out; omega⟩, Zd⟩
         replace c27 := Bool.eq_false_iff.mpr c27
         subst c27
         have H1 : (if 0 ≤ ji8 then (some (IntKind.u64.wrap ((IntKind.u64.wrap (x15_18 * 4294967296)) + x18_2), shr .u64 (IntKind.u64.wrap ((IntKind.u64.wrap ((IntKind.u64.wrap ((IntKind.u64.wrap ((IntKind.u64.wrap ((IntKind.u64.wrap ((Go.bits .or .u64 (ji12) (ji15)) * 4294967296)) + ((ji17) / 4294967296))) - (IntKind.u64.wrap (x15_18 * ji10)))) * 4294967296)) + (Go.bits .and .u64 (ji17) 4294967295))) - (IntKind.u64.wrap (x18_2 * ji10)))) ji8)) else (none)) = some (r1, r2) := by rw [if_neg (show ¬ (J = F) by decide)] at H; exact H
         clear H
         have H := H1
         clear H1
         by_cases c31 : 0 ≤ ji8
         ·rw [if_pos c31] at H
          have c31b0 := eq_true c31
          have c31b1 : decide (0 ≤ ji8) = F := decide_eq_true c31
          clear c31
          obtain ⟨ji32, hji32⟩ : ∃ j_ : Int, (shr .u64 (IntKind.u64.wrap ((IntKind.u64.wrap ((IntKind.u64.wrap ((IntKind.u64.wrap ((IntKind.u64.wrap ((IntKind.u64.wrap ((Go.bits .or .u64 (ji12) (ji15)) * 4294967296)) + ((ji17) / 4294967296))) - (IntKind.u64.wrap (x15_18 * ji10)))) * 4294967296)) + (Go.bits .and .u64 (ji17) 4294967295))) - (IntKind.u64.wrap (x18_2 * ji10)))) ji8) = j_ := ⟨_, rfl⟩
          replace H : (some (IntKind.u64.wrap ((IntKind.u64.wrap (x15_18 * 4294967296)) + x18_2), ji32)) = some (r1, r2) := by first | (rw [hji32] at H; exact H) | (simp only [hji32] at H ⊢; exact H)
          have hji32_ : ((IntKind.u64.wrap ((IntKind.u64.wrap ((IntKind.u64.wrap ((IntKind.u64.wrap ((IntKind.u64.wrap ((IntKind.u64.wrap ((Go.bits .or .u64 (ji12) (ji15)) * 4294967296)) + ((ji17) / 4294967296))) - (IntKind.u64.wrap (x15_18 * ji10)))) * 4294967296)) + (Go.bits .and .u64 (ji17) 4294967295))) - (IntKind.u64.wrap (x18_2 * ji10)))) / 2 ^ min ji8.toNat 64) = ji32 := hji32
          have hji32z : ji8 ≤ 64 → ((IntKind.u64.wrap ((IntKind.u64.wrap ((IntKind.u64.wrap ((IntKind.u64.wrap ((IntKind.u64.wrap ((IntKind.u64.wrap ((Go.bits .or .u64 (ji12) (ji15)) * 4294967296)) + ((ji17) / 4294967296))) - (IntKind.u64.wrap (x15_18 * ji10)))) * 4294967296)) + (Go.bits .and .u64 (ji17) 4294967295))) - (IntKind.u64.wrap (x18_2 * ji10)))) / 2 ^ ji8.toNat) = ji32 := QcE hji32
          simp only [Option.some.injEq, Prod.mk.injEq] at H
          obtain ⟨rfl, rfl⟩ := H
          go_wp2
          repeat (go_quiet (fail); try go_wp2)
          go_ret2
          exact ⟨by first | rfl | (simp; done) | (simp only [← hji8, ← hji10, ← hji12, ← hji13, ← hji15, ← hji17, ← hji32] <;> (first | rfl | simp)) | (simp [*]; done), Zd⟩
         rw [if_neg c31] at H
         exact absurd H (by simp)
  rw [if_neg c14] at H
  exact absurd H (by simp)
 rw [if_neg c9] at H
 exact absurd H (by simp)
theorem d64_wr (x : Int) : IntKind.u64.wrap x = x % 18446744073709551616 := IntKind.wrap_u64 x
theorem QdM (U y q1 : Int) (hy : 0 < y) (h : q1 * y ≤ U) : q1 ≤ U / y := (Int.le_ediv_iff_mul_le hy).2 h
theorem QdN (U y q1 : Int) (hy : 0 < y) (h : U < q1 * y) : U / y < q1 := (Int.ediv_lt_iff_lt_mul hy).2 h
theorem QcB (q yn1 yn0 : Int) : q * (yn1 * 4294967296 + yn0) = q * yn1 * 4294967296 + q * yn0 := by grind
structure Qce (y yn1 yn0 un32 un1 q1 rhat : Int) : Prop where
 hy : y = yn1 * 4294967296 + yn0
 h1 : 2147483648 ≤ yn1
 h1' : yn1 < 4294967296
 h0 : 0 ≤ yn0
 h0' : yn0 < 4294967296
 hu : 0 ≤ un32
 hu' : un32 < y
 hn : 0 ≤ un1
 hn' : un1 < 4294967296
 hr : 0 ≤ rhat
 hr' : rhat < 4294967296
 hq : q1 * yn1 + rhat = un32
 hle : (un32 * 4294967296 + un1) / y ≤ q1
 hub : q1 ≤ 4294967297
theorem Qdj {y un32 un1 : Int} (hy : 0 < y) (hu : un32 < y) (hn : un1 < 4294967296) : (un32 * 4294967296 + un1) / y < 4294967296 := QdN _ _ _ hy (by omega)
theorem Qcp {y un32 un1 : Int} (hy : 0 < y) (hu : 0 ≤ un32) (hn : 0 ≤ un1) : 0 ≤ (un32 * 4294967296 + un1) / y := Int.ediv_nonneg (by omega) (by omega)
theorem Qdp {a b A B : Int} (ha : 0 ≤ a) (hb : 0 ≤ b) (hA : a ≤ A) (hB : b ≤ B) : 0 ≤ a * b ∧ a * b ≤ A * B := ⟨Int.mul_nonneg ha hb, Int.mul_le_mul hA hB hb (by omega)⟩
theorem QcK {y yn1 yn0 un32 un1 q1 rhat : Int} (I : Qce y yn1 yn0 un32 un1 q1 rhat) (h : 4294967296 ≤ q1 ∨ 4294967296 * rhat + un1 < q1 * yn0) : (un32 * 4294967296 + un1) / y ≤ q1 - 1 := by
 obtain ⟨hy, h1, h1', h0, h0', hu, hu', hn, hn', hr, hr', hq, hle, hub⟩ := I
 rcases h with h | h
 ·have := Qdj (y := y) (un32 := un32) (un1 := un1) (by omega) hu' hn'
  omega
 have e := QcB q1 yn1 yn0
 have := QdN (un32 * 4294967296 + un1) y q1 (by omega) (by rw [hy, e]; omega)
 omega
theorem Qd3 {y yn1 yn0 un32 un1 q1 rhat : Int} (I : Qce y yn1 yn0 un32 un1 q1 rhat) (h : q1 * yn0 ≤ 4294967296 * rhat + un1) : (un32 * 4294967296 + un1) / y = q1 := by
 obtain ⟨hy, h1, h1', h0, h0', hu, hu', hn, hn', hr, hr', hq, hle, hub⟩ := I
 have e := QcB q1 yn1 yn0
 have := QdM (un32 * 4294967296 + un1) y q1 (by omega) (by rw [hy, e]; omega)
 omega
theorem Qel {y yn1 yn0 un32 un1 q1 rhat : Int} (I : Qce y yn1 yn0 un32 un1 q1 rhat) (h : (un32 * 4294967296 + un1) / y ≤ q1 - 1) (hb : 4294967296 ≤ rhat + yn1) : (un32 * 4294967296 + un1) / y = q1 - 1 := by
 obtain ⟨hy, h1, h1', h0, h0', hu, hu', hn, hn', hr, hr', hq, hle, hub⟩ := I
 have e := QcB (q1 - 1) yn1 yn0
 have e2 : (q1 - 1) * yn1 = q1 * yn1 - yn1 := by grind
 have hq0 := Qcp (y := y) (un32 := un32) (un1 := un1) (by omega) hu hn
 have hm := (Qdp (a := q1 - 1) (b := yn0) (A := 4294967296) (B := 4294967295) (by omega) h0 (by omega) (by omega)).2
 have := QdM (un32 * 4294967296 + un1) y (q1 - 1) (by omega) (by rw [hy, e, e2]; omega)
 omega
theorem Qd2 {y yn1 yn0 un32 un1 q1 rhat : Int} (I : Qce y yn1 yn0 un32 un1 q1 rhat) (h : (un32 * 4294967296 + un1) / y ≤ q1 - 1) (hb : rhat + yn1 < 4294967296) : Qce y yn1 yn0 un32 un1 (q1 - 1) (rhat + yn1) := by
 obtain ⟨hy, h1, h1', h0, h0', hu, hu', hn, hn', hr, hr', hq, hle, hub⟩ := I
 exact ⟨hy, h1, h1', h0, h0', hu, hu', hn, hn', by omega, hb, by grind, h, by omega⟩
theorem QdL {y yn1 yn0 un32 un1 : Int} (hy : y = yn1 * 4294967296 + yn0) (h1 : 2147483648 ≤ yn1) (h1' : yn1 < 4294967296) (h0 : 0 ≤ yn0) (h0' : yn0 < 4294967296) (hu : 0 ≤ un32) (hu' : un32 < y) (hn : 0 ≤ un1) (hn' : un1 < 4294967296) :
  Qce y yn1 yn0 un32 un1 (un32 / yn1) (un32 % yn1) := by
 have a := Int.emod_nonneg un32 (b := yn1) (by omega)
 have b := Int.emod_lt_of_pos un32 (b := yn1) (by omega)
 have c := Int.mul_ediv_add_emod un32 yn1
 have c' : un32 / yn1 * yn1 = yn1 * (un32 / yn1) := Int.mul_comm _ _
 refine ⟨hy, h1, h1', h0, h0', hu, hu', hn, hn', a, by omega, by omega, ?_, ?_⟩
 ·have hy0 : 0 < y := by omega
  have hq0 := Qcp (y := y) (un32 := un32) (un1 := un1) hy0 hu hn
  generalize hq : (un32 * 4294967296 + un1) / y = q at *
  have h := Int.ediv_mul_le (un32 * 4294967296 + un1) (b := y) (by omega)
  rw [hq, hy, QcB] at h
  have hz := Int.mul_nonneg hq0 h0
  exact (Int.le_ediv_iff_mul_le (by omega)).2 (by omega)
 have : un32 / yn1 < 4294967298 := (Int.ediv_lt_iff_lt_mul (by omega)).2 (by omega)
 omega
theorem Qcw {y yn1 yn0 un32 un1 q1 rhat : Int} (I : Qce y yn1 yn0 un32 un1 q1 rhat) (hq : ¬ 4294967296 ≤ q1) :
  IntKind.u64.wrap (q1 * yn0) = q1 * yn0 ∧ IntKind.u64.wrap (IntKind.u64.wrap (4294967296 * rhat) + un1) = 4294967296 * rhat + un1 := by
 obtain ⟨hy, h1, h1', h0, h0', hu, hu', hn, hn', hr, hr', hqq, hle, hub⟩ := I
 have hq0 := Qcp (y := y) (un32 := un32) (un1 := un1) (by omega) hu hn
 have hm := Qdp (a := q1) (b := yn0) (A := 4294967295) (B := 4294967295) (by omega) h0 (by omega) (by omega)
 simp only [d64_wr]
 omega
theorem QeR (K : Nat) (ans : Option (Int × Int)) {y s yn1 yn0 un32 un1 un0 : Int} (hans : ∀ k, K ≤ k → QaA.j2 k y s yn1 yn0 un32 un1 un0 ((un32 * 4294967296 + un1) / y) = ans) :
  ∀ (n : Nat) (q1 rhat : Int) (k : Nat), Qce y yn1 yn0 un32 un1 q1 rhat → 4294967296 - rhat ≤ n * 2147483648 → K + 2 * n + 2 ≤ k → QaA.l0 k y s yn1 yn0 un32 un1 un0 q1 rhat = ans := by
 intro n
 induction n with
 | zero => intro q1 rhat k I hm; have := I.hr'; omega
 | succ n ih =>
  intro q1 rhat k I hm hk
  obtain ⟨k, rfl⟩ : ∃ m, k = m + 2 := ⟨k - 2, by omega⟩
  have hq0 := Qcp (y := y) (un32 := un32) (un1 := un1) (by have := I.hy; have := I.h1; have := I.h0; omega) I.hu I.hn
  have hub := I.hub
  have hle := I.hle
  have hr := I.hr
  have hr' := I.hr'
  have h1 := I.h1
  have h1' := I.h1'
  have w1 : IntKind.u64.wrap (rhat + yn1) = rhat + yn1 := by rw [d64_wr]; omega
  have yes : (un32 * 4294967296 + un1) / y ≤ q1 - 1 → QaA.j1 (k + 1) y s yn1 yn0 un32 un1 un0 q1 rhat F = ans := by
   intro h
   have w2 : IntKind.u64.wrap (q1 - 1) = q1 - 1 := by rw [d64_wr]; omega
   simp only [QaA.j1, if_true]
   rw [w1, w2]
   by_cases c : rhat + yn1 ≥ 4294967296
   ·rw [if_pos c, ← Qel I h c]
    exact hans k (by omega)
   rw [if_neg c]
   exact ih (q1 - 1) (rhat + yn1) k (Qd2 I h (by omega)) (by omega) (by omega)
  simp only [QaA.l0]
  by_cases c : q1 ≥ 4294967296
  ·rw [if_pos c]
   exact yes (QcK I (.inl c))
  rw [if_neg c, (Qcw I c).1, (Qcw I c).2]
  by_cases d : q1 * yn0 > 4294967296 * rhat + un1
  ·rw [decide_eq_true d]
   exact yes (QcK I (.inr d))
  rw [decide_eq_false d]
  simp only [QaA.j1, Bool.false_eq_true, if_false]
  rw [← Qd3 I (by omega)]
  exact hans k (by omega)
theorem QeS {y s yn1 yn0 un21 un0 : Int} (q1 : Int) (hs : 0 ≤ s) (hq1 : 0 ≤ q1) (hq1' : q1 < 4294967296) (hyb : y < 18446744073709551616) :
  ∀ (n : Nat) (q0 rhat : Int) (k : Nat), Qce y yn1 yn0 un21 un0 q0 rhat → 4294967296 - rhat ≤ n * 2147483648 → 2 * n + 2 ≤ k →
   QaA.l1 k y s yn1 yn0 un0 q1 rhat un21 q0 = some (q1 * 4294967296 + (un21 * 4294967296 + un0) / y, shr .u64 ((un21 * 4294967296 + un0) % y) s) := by
 intro n
 induction n with
 | zero => intro q1 rhat k I hm; have := I.hr'; omega
 | succ n ih =>
  intro q0 rhat k I hm hk
  obtain ⟨k, rfl⟩ : ∃ m, k = m + 2 := ⟨k - 2, by omega⟩
  have hy0 : 0 < y := by have := I.hy; have := I.h1; have := I.h0; omega
  have hq0 := Qcp (y := y) (un32 := un21) (un1 := un0) hy0 I.hu I.hn
  have hql := Qdj (y := y) (un32 := un21) (un1 := un0) hy0 I.hu' I.hn'
  have hub := I.hub
  have hle := I.hle
  have hr := I.hr
  have hr' := I.hr'
  have h1 := I.h1
  have h1' := I.h1'
  have w1 : IntKind.u64.wrap (rhat + yn1) = rhat + yn1 := by rw [d64_wr]; omega
  have e1 := Int.emod_nonneg (un21 * 4294967296 + un0) (b := y) (by omega)
  have e2 := Int.emod_lt_of_pos (un21 * 4294967296 + un0) hy0
  have e3 := Int.mul_ediv_add_emod (un21 * 4294967296 + un0) y
  have e4 : (un21 * 4294967296 + un0) / y * y = y * ((un21 * 4294967296 + un0) / y) := Int.mul_comm _ _
  have fin : IntKind.u64.wrap (IntKind.u64.wrap (q1 * 4294967296) + (un21 * 4294967296 + un0) / y) = q1 * 4294967296 + (un21 * 4294967296 + un0) / y := by
   simp only [d64_wr]; omega
  have fin2 : IntKind.u64.wrap (IntKind.u64.wrap (IntKind.u64.wrap (un21 * 4294967296) + un0) - IntKind.u64.wrap ((un21 * 4294967296 + un0) / y * y)) = (un21 * 4294967296 + un0) % y := by
   simp only [d64_wr]; omega
  have yes : (un21 * 4294967296 + un0) / y ≤ q0 - 1 → QaA.j4 (k + 1) y s yn1 yn0 un0 q1 rhat un21 q0 F = some (q1 * 4294967296 + (un21 * 4294967296 + un0) / y, shr .u64 ((un21 * 4294967296 + un0) % y) s) := by
   intro h
   have w2 : IntKind.u64.wrap (q0 - 1) = q0 - 1 := by rw [d64_wr]; omega
   simp only [QaA.j4, if_true]
   rw [w1, w2]
   by_cases c : rhat + yn1 ≥ 4294967296
   ·rw [if_pos c, if_pos hs, ← Qel I h c, fin, fin2]
   rw [if_neg c]
   exact ih (q0 - 1) (rhat + yn1) k (Qd2 I h (by omega)) (by omega) (by omega)
  simp only [QaA.l1]
  by_cases c : q0 ≥ 4294967296
  ·rw [if_pos c]
   exact yes (QcK I (.inl c))
  rw [if_neg c, (Qcw I c).1, (Qcw I c).2]
  by_cases d : q0 * yn0 > 4294967296 * rhat + un0
  ·rw [decide_eq_true d]
   exact yes (QcK I (.inr d))
  rw [decide_eq_false d]
  simp only [QaA.j4, Bool.false_eq_true, if_false]
  rw [if_pos hs, ← Qd3 I (by omega), fin, fin2]
theorem QcG {a b : Int} (h : 0 ≤ a) : Int.tdiv a b = a / b := Int.tdiv_eq_ediv_of_nonneg h
theorem Qdi {y s yn1 yn0 un32 un1 un0 : Int} (hy : y = yn1 * 4294967296 + yn0) (h1 : 2147483648 ≤ yn1) (h1' : yn1 < 4294967296) (h0 : 0 ≤ yn0) (h0' : yn0 < 4294967296) (hu : 0 ≤ un32) (hu' : un32 < y) (hn : 0 ≤ un1) (hn' : un1 < 4294967296) (hm : 0 ≤ un0) (hm' : un0 < 4294967296) (hs : 0 ≤ s) (k : Nat) (hk : 20 ≤ k) :
  QaA.l0 k y s yn1 yn0 un32 un1 un0 (un32 / yn1) (un32 % yn1) = some ((un32 * 18446744073709551616 + un1 * 4294967296 + un0) / y, shr .u64 ((un32 * 18446744073709551616 + un1 * 4294967296 + un0) % y) s) := by
 have hy0 : 0 < y := by omega
 have hyb : y < 18446744073709551616 := by omega
 have f1 := Qcp (y := y) (un32 := un32) (un1 := un1) hy0 hu hn
 have f2 := Qdj (y := y) (un32 := un32) (un1 := un1) hy0 hu' hn'
 have e1 := Int.emod_nonneg (un32 * 4294967296 + un1) (b := y) (by omega)
 have e2 := Int.emod_lt_of_pos (un32 * 4294967296 + un1) hy0
 have e3 := Int.mul_ediv_add_emod (un32 * 4294967296 + un1) y
 have e4 : (un32 * 4294967296 + un1) / y * y = y * ((un32 * 4294967296 + un1) / y) := Int.mul_comm _ _
 refine QeR 12 _ ?_ 2 _ _ k (QdL hy h1 h1' h0 h0' hu hu' hn hn') (by have := Int.emod_nonneg un32 (b := yn1) (by omega); omega) (by omega)
 intro k hk
 obtain ⟨k, rfl⟩ : ∃ m, k = m + 1 := ⟨k - 1, by omega⟩
 simp only [QaA.j2]
 rw [if_neg (by omega)]
 have g1 : IntKind.u64.wrap (IntKind.u64.wrap (IntKind.u64.wrap (un32 * 4294967296) + un1) - IntKind.u64.wrap ((un32 * 4294967296 + un1) / y * y)) = (un32 * 4294967296 + un1) % y := by
  simp only [d64_wr]; omega
 rw [g1, QcG e1]
 generalize hr : (un32 * 4294967296 + un1) % y = r at *
 generalize hq : (un32 * 4294967296 + un1) / y = q at *
 have c := Int.mul_ediv_add_emod r yn1
 have c' : r / yn1 * yn1 = yn1 * (r / yn1) := Int.mul_comm _ _
 have a := Int.emod_nonneg r (b := yn1) (by omega)
 have b := Int.emod_lt_of_pos r (b := yn1) (by omega)
 have d0 : 0 ≤ r / yn1 := Int.ediv_nonneg e1 (by omega)
 have d1 : r / yn1 ≤ r := Int.ediv_le_self _ e1
 have g2 : IntKind.u64.wrap (r / yn1) = r / yn1 := by rw [d64_wr]; omega
 have g3 : IntKind.u64.wrap (r - IntKind.u64.wrap (r / yn1 * yn1)) = r % yn1 := by simp only [d64_wr]; omega
 rw [g2, g3]
 rw [QeS q hs f1 f2 hyb 2 _ _ k (QdL hy h1 h1' h0 h0' e1 e2 hm hm') (by omega) (by omega)]
 have h5 : un32 * 18446744073709551616 + un1 * 4294967296 + un0 = (r * 4294967296 + un0) + (q * 4294967296) * y := by
  have : (q * 4294967296) * y = 4294967296 * (y * q) := by grind
  omega
 rw [h5, Int.add_mul_ediv_right _ _ (by omega), Int.add_mul_emod_self_right]
 rw [Int.add_comm]
theorem Qc9 (a : Int) (h : 0 ≤ a) (h' : a < 18446744073709551616) : Go.bits .and .u64 a 4294967295 = a % 4294967296 := by
 obtain ⟨n, rfl⟩ := Int.eq_ofNat_of_zero_le h
 have h2 := bits_and_u64_nat n 4294967295 (by omega) (by omega)
 have e : n &&& 4294967295 = n % 4294967296 := Nat.and_two_pow_sub_one_eq_mod n 32
 rw [e] at h2
 rw [show ((4294967295 : Nat) : Int) = 4294967295 from rfl] at h2
 rw [h2]
 omega
theorem Qez (a b S : Nat) (hb : b < 2 ^ S) (h : a * 2 ^ S + b < 18446744073709551616) : Go.bits .or .u64 ((a * 2 ^ S : Nat) : Int) (b : Int) = ((a * 2 ^ S + b : Nat) : Int) := by
 rw [bits_or_u64_nat _ _ (by omega) (by omega)]
 have e := Nat.shiftLeft_add_eq_or_of_lt hb a
 rw [Nat.shiftLeft_eq] at e
 rw [e]
theorem Qcv (S : Nat) : (2 : Int) ^ S = ((2 ^ S : Nat) : Int) := by simp
theorem QcF (x S : Nat) (hS : S ≤ 64) : shl .u64 (x : Int) (S : Int) = ((x * 2 ^ S % 18446744073709551616 : Nat) : Int) := by
 unfold shl
 rw [Int.toNat_natCast, Nat.min_eq_left (by exact hS), Qcv, d64_wr]
 omega
theorem Qef (x S : Nat) (hS : S ≤ 64) : shr .u64 (x : Int) (S : Int) = ((x / 2 ^ S : Nat) : Int) := by
 unfold shr
 rw [Int.toNat_natCast, Nat.min_eq_left (by exact hS), Qcv]
 omega
theorem Qfk (y : Nat) (h0 : y ≠ 0) (h : y < 18446744073709551616) : 1 ≤ Lib.bitLen y ∧ Lib.bitLen y ≤ 64 ∧ 9223372036854775808 ≤ y * 2 ^ (64 - Lib.bitLen y) ∧ y * 2 ^ (64 - Lib.bitLen y) < 18446744073709551616 := by
 obtain ⟨a, b, c⟩ := Lib.bitLenAux_bounds 64 y h h0
 have d := Lib.bitLen_le y 64 (by omega) h
 change 1 ≤ Lib.bitLen y at a
 change 2 ^ (Lib.bitLen y - 1) ≤ y at b
 change y < 2 ^ Lib.bitLen y at c
 generalize Lib.bitLen y = L at *
 refine ⟨a, d, ?_, ?_⟩
 ·have := Nat.mul_le_mul_right (2 ^ (64 - L)) b
  rw [← Nat.pow_add, show L - 1 + (64 - L) = 63 by omega] at this
  omega
 have := Nat.mul_lt_mul_of_pos_right c (Nat.two_pow_pos (64 - L))
 rw [← Nat.pow_add, show L + (64 - L) = 64 by omega] at this
 omega
theorem QaA.eq (hi lo y : Int) (h0 : 0 ≤ hi) (h1 : hi < y) (hy : y < 18446744073709551616) (hl : 0 ≤ lo) (hl' : lo < 18446744073709551616) (k : Nat) (hk : 20 ≤ k) :
  QaA.f k hi lo y = some ((hi * 18446744073709551616 + lo) / y, (hi * 18446744073709551616 + lo) % y) := by
 unfold QaA.f
 rw [if_neg (by omega), if_neg (by omega)]
 by_cases c : hi = 0
 ·rw [if_pos c]
  subst c
  have a := Int.ediv_nonneg hl (show 0 ≤ y by omega)
  have b := Int.ediv_le_self y hl
  rw [QcG hl, Int.tmod_eq_emod_of_nonneg hl, d64_wr, show (0 : Int) * 18446744073709551616 + lo = lo by omega, Int.emod_eq_of_lt a (by omega)]
 rw [if_neg c]
 obtain ⟨H, rfl⟩ := Int.eq_ofNat_of_zero_le h0
 obtain ⟨Lo, rfl⟩ := Int.eq_ofNat_of_zero_le hl
 obtain ⟨Y, rfl⟩ := Int.eq_ofNat_of_zero_le (show 0 ≤ y by omega)
 obtain ⟨n1, n2, n3, n4⟩ := Qfk Y (by omega) (by omega)
 unfold QbD.f Qby.f
 rw [if_pos (by omega), Int.toNat_natCast]
 simp only [Option.bind_some]
 generalize Lib.bitLen Y = L at *
 obtain ⟨S, hS, hS63⟩ : ∃ S : Nat, S = 64 - L ∧ S ≤ 63 := ⟨64 - L, rfl, by omega⟩
 have e1 : IntKind.u64.wrap (wrap64 (64 - (L : Int))) = (S : Int) := by rw [d64_wr]; unfold wrap64; omega
 have e2 : IntKind.u64.wrap (64 - (S : Int)) = ((64 - S : Nat) : Int) := by rw [d64_wr]; omega
 rw [e1, e2, if_pos (by omega), if_pos (by omega)]
 rw [← hS] at n3 n4
 have hHS : H * 2 ^ S + 2 ^ S ≤ Y * 2 ^ S := by
  have := Nat.mul_le_mul_right (2 ^ S) (show H + 1 ≤ Y by omega)
  rw [Nat.add_mul] at this
  omega
 have hp : 2 ^ (64 - S) * 2 ^ S = 18446744073709551616 := by rw [← Nat.pow_add, show 64 - S + S = 64 by omega]
 have hd : Lo * 2 ^ S / 18446744073709551616 = Lo / 2 ^ (64 - S) := by rw [← hp, Nat.mul_div_mul_right _ _ (Nat.two_pow_pos S)]
 have hpos := Nat.two_pow_pos S
 have hlow : Lo / 2 ^ (64 - S) < 2 ^ S := by
  rw [Nat.div_lt_iff_lt_mul (Nat.two_pow_pos _), Nat.mul_comm, hp]
  omega
 rw [QcF Y S (by omega), QcF H S (by omega), QcF Lo S (by omega), Qef Lo (64 - S) (by omega)]
 rw [Nat.mod_eq_of_lt n4, Nat.mod_eq_of_lt (show H * 2 ^ S < 18446744073709551616 by omega)]
 rw [Qez H _ S hlow (by omega)]
 rw [Qc9 _ (by omega) (by omega), Qc9 _ (by omega) (by omega)]
 have hmod := Nat.div_add_mod (Lo * 2 ^ S) 18446744073709551616
 rw [hd] at hmod
 have key : (H * 2 ^ S + Lo / 2 ^ (64 - S)) * 18446744073709551616 + Lo * 2 ^ S % 18446744073709551616 = (H * 18446744073709551616 + Lo) * 2 ^ S := by
  have t1 : (H * 18446744073709551616 + Lo) * 2 ^ S = (H * 2 ^ S) * 18446744073709551616 + Lo * 2 ^ S := by grind
  omega
 generalize hP : 2 ^ S = P at *
 generalize hA : H * P + Lo / 2 ^ (64 - S) = un32 at *
 generalize hB : Lo * P % 18446744073709551616 = un10 at *
 have hun32 : un32 < Y * P := by omega
 have hun10 : un10 < 18446744073709551616 := by omega
 rw [if_neg (by omega)]
 have t0 : (0 : Int) ≤ (un32 : Int) := by omega
 rw [QcG t0]
 have q0 : (0 : Int) ≤ (un32 : Int) / (((Y * P : Nat) : Int) / 4294967296) := Int.ediv_nonneg t0 (by omega)
 have q1 := Int.ediv_le_self (((Y * P : Nat) : Int) / 4294967296) t0
 have m1 := Int.mul_ediv_add_emod (un32 : Int) (((Y * P : Nat) : Int) / 4294967296)
 have m2 := Int.emod_nonneg (un32 : Int) (b := ((Y * P : Nat) : Int) / 4294967296) (by omega)
 have m3 := Int.emod_lt_of_pos (un32 : Int) (b := ((Y * P : Nat) : Int) / 4294967296) (by omega)
 have m4 : (un32 : Int) / (((Y * P : Nat) : Int) / 4294967296) * (((Y * P : Nat) : Int) / 4294967296) = (((Y * P : Nat) : Int) / 4294967296) * ((un32 : Int) / (((Y * P : Nat) : Int) / 4294967296)) := Int.mul_comm _ _
 have g2 : IntKind.u64.wrap ((un32 : Int) / (((Y * P : Nat) : Int) / 4294967296)) = (un32 : Int) / (((Y * P : Nat) : Int) / 4294967296) := by rw [d64_wr]; omega
 have g3 : IntKind.u64.wrap ((un32 : Int) - IntKind.u64.wrap ((un32 : Int) / (((Y * P : Nat) : Int) / 4294967296) * (((Y * P : Nat) : Int) / 4294967296))) = (un32 : Int) % (((Y * P : Nat) : Int) / 4294967296) := by simp only [d64_wr]; omega
 rw [g2, g3]
 rw [Qdi (by omega) (by omega) (by omega) (by omega) (by omega) (by omega) (by omega) (by omega) (by omega) (by omega) (by omega) (by omega) k hk]
 have key2 : (un32 : Int) * 18446744073709551616 + (un10 : Int) / 4294967296 * 4294967296 + (un10 : Int) % 4294967296 = ((H : Int) * 18446744073709551616 + (Lo : Int)) * (P : Int) := by
  have := congrArg (fun z : Nat => (z : Int)) key
  simp only [Int.natCast_add, Int.natCast_mul, show ((18446744073709551616 : Nat) : Int) = 18446744073709551616 from rfl] at this
  omega
 have hP0 : (0 : Int) < (P : Int) := by omega
 have r2 : ((H : Int) * 18446744073709551616 + (Lo : Int)) * (P : Int) % ((Y : Int) * (P : Int)) = ((H : Int) * 18446744073709551616 + (Lo : Int)) % (Y : Int) * (P : Int) := by
  rw [Int.mul_comm _ (P : Int), Int.mul_comm (Y : Int) (P : Int), Int.mul_emod_mul_of_pos _ _ hP0, Int.mul_comm]
 rw [key2, Int.natCast_mul, Int.mul_ediv_mul_of_pos_left _ _ hP0, r2]
 have f1 : shr .u64 (((H : Int) * 18446744073709551616 + (Lo : Int)) % (Y : Int) * (P : Int)) (S : Int) = ((H : Int) * 18446744073709551616 + (Lo : Int)) % (Y : Int) := by
  unfold shr
  rw [Int.toNat_natCast, Nat.min_eq_left (show S ≤ IntKind.u64.bits by show S ≤ 64; omega), Qcv, hP, Int.mul_ediv_cancel _ (by omega)]
 rw [f1]
def Qbr.f (a0 : Int) (a1 : Bool) : Option (Int × Int) := if a0 > 1152921504606846976 then (some (0, 3)) else (if a1 = F then (some (wrap64 (-(wrap64 (a0))), 0)) else (some (wrap64 (a0), 0)))
set_option maxHeartbeats 8000000 in
theorem Qbr.calls (a0 : Int) (a1 : Bool) (r1 : Int) (r2 : Int) (w : World) (h : Qbr.f a0 a1 = some (r1, r2)) :
  Calls Try.prog 92 #[.int .u64 a0, .bool a1] w fun e w' => e = .returned (.tuple #[.int .i64 r1, .int .i64 r2]) ∧ Drawn0 w w' := by
 have H : (if a0 > 1152921504606846976 then (some (0, 3)) else (if a1 = F then (some (wrap64 (-(wrap64 (a0))), 0)) else (some (wrap64 (a0), 0)))) = some (r1, r2) := h
 clear h
 by_cases c3 : a0 > 1152921504606846976
 ·rw [if_pos c3] at H
  have c3b0 : decide (1152921504606846976 < a0) = F := decide_eq_true c3
  clear c3
  simp only [Option.some.injEq, Prod.mk.injEq] at H
  obtain ⟨rfl, rfl⟩ := H
  go_enter Try.func92, Try.ntmps92
  go_wp2
  go_ret2
  exact ⟨Zs, Zd⟩
 rw [if_neg c3] at H
 have c3b0 : decide (1152921504606846976 < a0) = J := decide_eq_false c3
 clear c3
 by_cases c4 : a1 = F
 ·subst c4
  have H1 : (some (wrap64 (-(wrap64 (a0))), 0)) = some (r1, r2) := by rw [if_pos rfl] at H; exact H
  clear H
  have H := H1
  clear H1
  simp only [Option.some.injEq, Prod.mk.injEq] at H
  obtain ⟨rfl, rfl⟩ := H
  go_enter Try.func92, Try.ntmps92
  go_wp2
  go_ret2
  exact ⟨Zs, Zd⟩
 replace c4 := Bool.eq_false_iff.mpr c4
 subst c4
 have H1 : (some (wrap64 (a0), 0)) = some (r1, r2) := by rw [if_neg (show ¬ (J = F) by decide)] at H; exact H
 clear H
 have H := H1
 clear H1
 simp only [Option.some.injEq, Prod.mk.injEq] at H
 obtain ⟨rfl, rfl⟩ := H
 go_enter Try.func92, Try.ntmps92
 go_wp2
 go_ret2
 exact ⟨Zs, Zd⟩
set_option maxHeartbeats 4000000 in
theorem Qa4.bad (a0 a1 a2 a3 : Int) (w : World) (h : ¬ (mdFits a0 ∧ mdFits a1 ∧ mdFits a2 ∧ 1 ≤ a3 ∧ a3 ≤ 5)) :
  Calls Try.prog 57 #[.int .i64 a0, .int .i64 a1, .int .i64 a2, .int .i64 a3] w fun e w' => e = .returned (.tuple #[.int .i64 0, .int .i64 2]) ∧ w' = w := by
 rcases QcW a0 a1 a2 a3 h with h1 | h1 | ⟨⟨h1, h2⟩, h3⟩ | ⟨⟨h1, h2⟩, h3⟩ | ⟨⟨h1, h2⟩, ⟨h3, h4⟩, h5⟩ | ⟨⟨h1, h2⟩, ⟨h3, h4⟩, h5⟩ | ⟨⟨h1, h2⟩, ⟨h3, h4⟩, ⟨h5, h6⟩, h7⟩ | ⟨⟨h1, h2⟩, ⟨h3, h4⟩, ⟨h5, h6⟩, h7⟩
 all_goals
  clear h
  go_enter Try.func57, Try.ntmps57
  go_wp2
  go_ret2
  exact ⟨rfl, rfl⟩
theorem QaA.walkp (p y : Nat) (h : p / 18446744073709551616 < y) (hy : y < 18446744073709551616) (w : World) :
  Calls Try.prog 90 #[.int .u64 ((p / 18446744073709551616 : Nat) : Int), .int .u64 ((p % 18446744073709551616 : Nat) : Int), .int .u64 (y : Int)] w fun e w' =>
   e = .returned (.tuple #[.int .u64 ((p / y : Nat) : Int), .int .u64 ((p % y : Nat) : Int)]) ∧ Drawn0 w w' := by
 have e := QaA.eq ((p / 18446744073709551616 : Nat) : Int) ((p % 18446744073709551616 : Nat) : Int) (y : Int) (by omega) (by omega) (by omega) (by omega) (by omega) 20 (by omega)
 have e2 : ((p / 18446744073709551616 : Nat) : Int) * 18446744073709551616 + ((p % 18446744073709551616 : Nat) : Int) = (p : Int) := by omega
 rw [e2] at e
 exact QaA.calls 20 _ _ _ _ _ w (by rw [e]; rfl)
def mdHalf (q r c : Int) : Bool := decide (c - r < r) || (decide (r = c - r) && decide (q % 2 = 1))
set_option maxHeartbeats 1000000 in
theorem Qee.half (q r c : Int) (b1 b2 : Nat) (w : World) (hm : w.cell? ⟨b1, 0, none⟩ = some (.int .i64 5)) (h0 : 0 ≤ q) (h1 : 0 ≤ r) (h2 : r < c) (h3 : c ≤ 1152921504606846976) :
  Calls Try.prog 118 #[.int .u64 q, .int .u64 r, .int .u64 c, .pointer (some ⟨b1, 0, none⟩), .pointer (some ⟨b2, 0, none⟩)] w fun e w' => e = .returned (.bool (mdHalf q r c)) ∧ w' = w := by
 by_cases g1 : c - r < r
 ·have e : mdHalf q r c = F := by unfold mdHalf; rw [decide_eq_true g1]; rfl
  rw [e]
  go_enter Try.func118, Try.ntmps118
  go_wp2
  go_ret
  exact ⟨rfl, rfl⟩
 by_cases g2 : r = c - r
 ·have f2 : (r == c - r) = F := beq_iff_eq.mpr g2
  by_cases g3 : q % 2 = 1
  ·have f3 : (q % 2 == 1) = F := beq_iff_eq.mpr g3
   have e : mdHalf q r c = F := by unfold mdHalf; rw [decide_eq_true g2, decide_eq_true g3, decide_eq_false g1]; rfl
   rw [e]
   clear g2 g3 e
   go_enter Try.func118, Try.ntmps118
   go_wp2
   go_ret
   exact ⟨rfl, rfl⟩
  have f3 : (q % 2 == 1) = J := beq_eq_false_iff_ne.mpr g3
  have e : mdHalf q r c = J := by unfold mdHalf; rw [decide_eq_true g2, decide_eq_false g3, decide_eq_false g1]; rfl
  rw [e]
  clear g2 g3 e
  go_enter Try.func118, Try.ntmps118
  go_wp2
  go_ret
  exact ⟨rfl, rfl⟩
 have f2 : (r == c - r) = J := beq_eq_false_iff_ne.mpr g2
 have e : mdHalf q r c = J := by unfold mdHalf; rw [decide_eq_false g2, decide_eq_false g1]; rfl
 rw [e]
 clear e
 go_enter Try.func118, Try.ntmps118
 go_wp2
 go_ret
 exact ⟨rfl, rfl⟩
def mdSgn (q : Int) (b : Bool) : Int × Int := if q > 1152921504606846976 then (0, 3) else if b = F then (wrap64 (-(wrap64 q)), 0) else (wrap64 q, 0)
theorem md_sgn (q : Int) (b : Bool) : Qbr.f q b = some ((mdSgn q b).1, (mdSgn q b).2) := by
 unfold Qbr.f mdSgn
 repeat' split
 all_goals rfl
theorem QdP (q : Int) (b : Bool) (h : 0 ≤ q) : mdSgn q b = if 1152921504606846976 < q then (0, 3) else (if b = F then -q else q, 0) := by
 unfold mdSgn
 by_cases c : q > 1152921504606846976
 ·rw [if_pos c, if_pos c]
 rw [if_neg c, if_neg c]
 cases b <;> simp [wrap64] <;> omega
set_option maxHeartbeats 4000000 in
theorem Qa4.m0 (a0 a1 a2 a3 : Int) (w : World) (h1 : -1152921504606846976 ≤ a0) (h2 : a0 ≤ 1152921504606846976) (h3 : -1152921504606846976 ≤ a1) (h4 : a1 ≤ 1152921504606846976)
  (h5 : -1152921504606846976 ≤ a2) (h6 : a2 ≤ 1152921504606846976) (hc : (a2 == 0) = J) (m1 : 1 ≤ a3) (m2 : a3 ≤ 5)
  (hh : a0.natAbs * a1.natAbs / 18446744073709551616 < a2.natAbs) (hq : (a0.natAbs : Int) * a1.natAbs / a2.natAbs ≤ 1152921504606846976) (hr : (a0.natAbs : Int) * a1.natAbs % a2.natAbs ≤ 0) :
  Calls Try.prog 57 #[.int .i64 a0, .int .i64 a1, .int .i64 a2, .int .i64 a3] w fun e w' => e = .returned (.tuple #[.int .i64 (mdSgn ((a0.natAbs : Int) * a1.natAbs / a2.natAbs) (QbK a0 a1 a2)).1, .int .i64 (mdSgn ((a0.natAbs : Int) * a1.natAbs / a2.natAbs) (QbK a0 a1 a2)).2]) ∧ Below w.heap.size w w' := by
 have hmf : ∀ (fn : Fn) (first cap : Array Value) (w : World), (Instr.makeFunc fn first cap).run Try.prog w = .ok (.func fn first cap) w := fun _ _ _ _ => rfl
 go_enter Try.func57, Try.ntmps57
 go_wp2_with (first | (go_at_call 89; refine (Qbv.walk _ _ (by omega) (by omega)).mono ?_; rintro e w' ⟨rfl, rfl⟩) | (go_at_call 88; refine (QbA.walk _ _ (by omega) (by omega) _).mono ?_; rintro e w' ⟨rfl, rfl⟩) | (go_at_call 90; refine (QaA.walkp _ _ hh (by omega) _).mono ?_; rintro e w1 ⟨rfl, hd⟩) | (go_at_call 92; refine (Qbr.calls _ _ _ _ _ (md_sgn _ _)).mono ?_; rintro e w2 ⟨rfl, hd2⟩) | (go_at_call 87; go_in) | (go_at_call 91; go_in))
 go_ret2
 exact ⟨rfl, QcH hd.below hd.below.size hd2.below⟩
set_option maxHeartbeats 4000000 in
theorem Qa4.o1 (a0 a1 a2 a3 : Int) (w : World) (h1 : -1152921504606846976 ≤ a0) (h2 : a0 ≤ 1152921504606846976) (h3 : -1152921504606846976 ≤ a1) (h4 : a1 ≤ 1152921504606846976)
  (h5 : -1152921504606846976 ≤ a2) (h6 : a2 ≤ 1152921504606846976) (hc : (a2 == 0) = J) (m1 : 1 ≤ a3) (m2 : a3 ≤ 5)
  (hh : (a2.natAbs : Int) ≤ (a0.natAbs : Int) * a1.natAbs / 18446744073709551616) :
  Calls Try.prog 57 #[.int .i64 a0, .int .i64 a1, .int .i64 a2, .int .i64 a3] w fun e w' => e = .returned (.tuple #[.int .i64 0, .int .i64 3]) ∧ Below w.heap.size w w' := by
 go_enter Try.func57, Try.ntmps57
 go_wp2_with (first | (go_at_call 89; refine (Qbv.walk _ _ (by omega) (by omega)).mono ?_; rintro e w' ⟨rfl, rfl⟩) | (go_at_call 88; refine (QbA.walk _ _ (by omega) (by omega) _).mono ?_; rintro e w' ⟨rfl, rfl⟩) | (go_at_call 90; refine (QaA.walkp _ _ hh (by omega) _).mono ?_; rintro e w1 ⟨rfl, hd⟩) | (go_at_call 92; refine (Qbr.calls _ _ _ _ _ (md_sgn _ _)).mono ?_; rintro e w2 ⟨rfl, hd2⟩) | (go_at_call 87; go_in) | (go_at_call 91; go_in))
 go_ret2
 exact ⟨rfl, Below.refl _ _⟩
set_option maxHeartbeats 4000000 in
theorem Qa4.o2 (a0 a1 a2 a3 : Int) (w : World) (h1 : -1152921504606846976 ≤ a0) (h2 : a0 ≤ 1152921504606846976) (h3 : -1152921504606846976 ≤ a1) (h4 : a1 ≤ 1152921504606846976)
  (h5 : -1152921504606846976 ≤ a2) (h6 : a2 ≤ 1152921504606846976) (hc : (a2 == 0) = J) (m1 : 1 ≤ a3) (m2 : a3 ≤ 5)
  (hh : a0.natAbs * a1.natAbs / 18446744073709551616 < a2.natAbs) (hq : 1152921504606846976 < (a0.natAbs : Int) * a1.natAbs / a2.natAbs) :
  Calls Try.prog 57 #[.int .i64 a0, .int .i64 a1, .int .i64 a2, .int .i64 a3] w fun e w' => e = .returned (.tuple #[.int .i64 0, .int .i64 3]) ∧ Below w.heap.size w w' := by
 go_enter Try.func57, Try.ntmps57
 go_wp2_with (first | (go_at_call 89; refine (Qbv.walk _ _ (by omega) (by omega)).mono ?_; rintro e w' ⟨rfl, rfl⟩) | (go_at_call 88; refine (QbA.walk _ _ (by omega) (by omega) _).mono ?_; rintro e w' ⟨rfl, rfl⟩) | (go_at_call 90; refine (QaA.walkp _ _ hh (by omega) _).mono ?_; rintro e w1 ⟨rfl, hd⟩) | (go_at_call 92; refine (Qbr.calls _ _ _ _ _ (md_sgn _ _)).mono ?_; rintro e w2 ⟨rfl, hd2⟩) | (go_at_call 87; go_in) | (go_at_call 91; go_in))
 go_ret2
 exact ⟨rfl, hd.below⟩
set_option maxHeartbeats 4000000 in
theorem Qa4.z (a0 a1 a2 a3 : Int) (w : World) (h1 : -1152921504606846976 ≤ a0) (h2 : a0 ≤ 1152921504606846976) (h3 : -1152921504606846976 ≤ a1) (h4 : a1 ≤ 1152921504606846976)
  (h5 : -1152921504606846976 ≤ a2) (h6 : a2 ≤ 1152921504606846976) (hc : (a2 == 0) = F) (m1 : 1 ≤ a3) (m2 : a3 ≤ 5) :
  Calls Try.prog 57 #[.int .i64 a0, .int .i64 a1, .int .i64 a2, .int .i64 a3] w fun e w' => e = .returned (.tuple #[.int .i64 0, .int .i64 4]) ∧ Below w.heap.size w w' := by
 go_enter Try.func57, Try.ntmps57
 go_wp2_with (go_at_call 87; go_in)
 go_ret2
 exact ⟨rfl, Below.refl _ _⟩
theorem md_end {w w1 w2 : World} {o1 o2 : Obj} (hd : Drawn0 w w1) (hd2 : Drawn0 ((w1.alloc o1).alloc o2) w2) : Below w.heap.size w w2 :=
 QcH (Qag (Qag hd.below _) _) (Nat.le_trans hd.below.size (by simp; omega)) hd2.below
set_option maxHeartbeats 4000000 in
theorem Qa4.r1 (a0 a1 a2 : Int) (w : World) (h1 : -1152921504606846976 ≤ a0) (h2 : a0 ≤ 1152921504606846976) (h3 : -1152921504606846976 ≤ a1) (h4 : a1 ≤ 1152921504606846976)
  (h5 : -1152921504606846976 ≤ a2) (h6 : a2 ≤ 1152921504606846976) (hc : (a2 == 0) = J)
  (hh : a0.natAbs * a1.natAbs / 18446744073709551616 < a2.natAbs) (hq : (a0.natAbs : Int) * a1.natAbs / a2.natAbs ≤ 1152921504606846976) (hr : 0 < (a0.natAbs : Int) * a1.natAbs % a2.natAbs) :
  Calls Try.prog 57 #[.int .i64 a0, .int .i64 a1, .int .i64 a2, .int .i64 1] w fun e w' => e = .returned (.tuple #[.int .i64 (mdSgn ((a0.natAbs : Int) * a1.natAbs / a2.natAbs) (QbK a0 a1 a2)).1, .int .i64 (mdSgn ((a0.natAbs : Int) * a1.natAbs / a2.natAbs) (QbK a0 a1 a2)).2]) ∧ Below w.heap.size w w' := by
 have hmf : ∀ (fn : Fn) (first cap : Array Value) (w : World), (Instr.makeFunc fn first cap).run Try.prog w = .ok (.func fn first cap) w := fun _ _ _ _ => rfl
 go_enter Try.func57, Try.ntmps57
 go_wp2_with (first | (go_at_call 89; refine (Qbv.walk _ _ (by omega) (by omega)).mono ?_; rintro e w' ⟨rfl, rfl⟩) | (go_at_call 88; refine (QbA.walk _ _ (by omega) (by omega) _).mono ?_; rintro e w' ⟨rfl, rfl⟩) | (go_at_call 90; refine (QaA.walkp _ _ hh (by omega) _).mono ?_; rintro e w1 ⟨rfl, hd⟩) | (go_at_call 92; refine (Qbr.calls _ _ _ _ _ (md_sgn _ _)).mono ?_; rintro e w2 ⟨rfl, hd2⟩) | (go_at_call 87; go_in) | (go_at_call 91; go_in) | (go_at_call 118; go_in))
 go_ret2
 exact ⟨rfl, md_end hd hd2⟩
set_option maxHeartbeats 4000000 in
theorem Qa4.r2 (a0 a1 a2 : Int) (w : World) (h1 : -1152921504606846976 ≤ a0) (h2 : a0 ≤ 1152921504606846976) (h3 : -1152921504606846976 ≤ a1) (h4 : a1 ≤ 1152921504606846976)
  (h5 : -1152921504606846976 ≤ a2) (h6 : a2 ≤ 1152921504606846976) (hc : (a2 == 0) = J)
  (hh : a0.natAbs * a1.natAbs / 18446744073709551616 < a2.natAbs) (hq : (a0.natAbs : Int) * a1.natAbs / a2.natAbs ≤ 1152921504606846976) (hr : 0 < (a0.natAbs : Int) * a1.natAbs % a2.natAbs) :
  Calls Try.prog 57 #[.int .i64 a0, .int .i64 a1, .int .i64 a2, .int .i64 2] w fun e w' => e = .returned (.tuple #[.int .i64 (mdSgn ((a0.natAbs : Int) * a1.natAbs / a2.natAbs + 1) (QbK a0 a1 a2)).1, .int .i64 (mdSgn ((a0.natAbs : Int) * a1.natAbs / a2.natAbs + 1) (QbK a0 a1 a2)).2]) ∧ Below w.heap.size w w' := by
 have hmf : ∀ (fn : Fn) (first cap : Array Value) (w : World), (Instr.makeFunc fn first cap).run Try.prog w = .ok (.func fn first cap) w := fun _ _ _ _ => rfl
 have hw : IntKind.u64.wrap ((a0.natAbs : Int) * a1.natAbs / a2.natAbs + 1) = (a0.natAbs : Int) * a1.natAbs / a2.natAbs + 1 := by
  have : 0 ≤ (a0.natAbs : Int) * a1.natAbs / a2.natAbs := Int.ediv_nonneg (Int.mul_nonneg (by omega) (by omega)) (by omega)
  rw [IntKind.wrap_u64]; omega
 go_enter Try.func57, Try.ntmps57
 go_wp2_with (first | (go_at_call 89; refine (Qbv.walk _ _ (by omega) (by omega)).mono ?_; rintro e w' ⟨rfl, rfl⟩) | (go_at_call 88; refine (QbA.walk _ _ (by omega) (by omega) _).mono ?_; rintro e w' ⟨rfl, rfl⟩) | (go_at_call 90; refine (QaA.walkp _ _ hh (by omega) _).mono ?_; rintro e w1 ⟨rfl, hd⟩) | (go_at_call 92; refine (Qbr.calls _ _ _ _ _ (md_sgn _ _)).mono ?_; rintro e w2 ⟨rfl, hd2⟩) | (go_at_call 87; go_in) | (go_at_call 91; go_in) | (go_at_call 118; go_in))
 go_ret2
 exact ⟨rfl, md_end hd hd2⟩
set_option maxHeartbeats 4000000 in
theorem Qa4.r3t (a0 a1 a2 : Int) (w : World) (h1 : -1152921504606846976 ≤ a0) (h2 : a0 ≤ 1152921504606846976) (h3 : -1152921504606846976 ≤ a1) (h4 : a1 ≤ 1152921504606846976)
  (h5 : -1152921504606846976 ≤ a2) (h6 : a2 ≤ 1152921504606846976) (hc : (a2 == 0) = J) (fb : (!((!(decide (a0 < 0) == decide (a1 < 0))) == decide (a2 < 0))) = F)
  (hh : a0.natAbs * a1.natAbs / 18446744073709551616 < a2.natAbs) (hq : (a0.natAbs : Int) * a1.natAbs / a2.natAbs ≤ 1152921504606846976) (hr : 0 < (a0.natAbs : Int) * a1.natAbs % a2.natAbs) :
  Calls Try.prog 57 #[.int .i64 a0, .int .i64 a1, .int .i64 a2, .int .i64 3] w fun e w' => e = .returned (.tuple #[.int .i64 (mdSgn ((a0.natAbs : Int) * a1.natAbs / a2.natAbs + 1) F).1, .int .i64 (mdSgn ((a0.natAbs : Int) * a1.natAbs / a2.natAbs + 1) F).2]) ∧ Below w.heap.size w w' := by
 have hmf : ∀ (fn : Fn) (first cap : Array Value) (w : World), (Instr.makeFunc fn first cap).run Try.prog w = .ok (.func fn first cap) w := fun _ _ _ _ => rfl
 have hw : IntKind.u64.wrap ((a0.natAbs : Int) * a1.natAbs / a2.natAbs + 1) = (a0.natAbs : Int) * a1.natAbs / a2.natAbs + 1 := by
  have : 0 ≤ (a0.natAbs : Int) * a1.natAbs / a2.natAbs := Int.ediv_nonneg (Int.mul_nonneg (by omega) (by omega)) (by omega)
  rw [IntKind.wrap_u64]; omega
 go_enter Try.func57, Try.ntmps57
 go_wp2_with (first | (go_at_call 89; refine (Qbv.walk _ _ (by omega) (by omega)).mono ?_; rintro e w' ⟨rfl, rfl⟩) | (go_at_call 88; refine (QbA.walk _ _ (by omega) (by omega) _).mono ?_; rintro e w' ⟨rfl, rfl⟩) | (go_at_call 90; refine (QaA.walkp _ _ hh (by omega) _).mono ?_; rintro e w1 ⟨rfl, hd⟩) | (go_at_call 92; refine (Qbr.calls _ _ _ _ _ (md_sgn _ _)).mono ?_; rintro e w2 ⟨rfl, hd2⟩) | (go_at_call 87; go_in) | (go_at_call 91; go_in) | (go_at_call 118; go_in))
 go_ret2
 exact ⟨rfl, md_end hd hd2⟩
set_option maxHeartbeats 4000000 in
theorem Qa4.r3f (a0 a1 a2 : Int) (w : World) (h1 : -1152921504606846976 ≤ a0) (h2 : a0 ≤ 1152921504606846976) (h3 : -1152921504606846976 ≤ a1) (h4 : a1 ≤ 1152921504606846976)
  (h5 : -1152921504606846976 ≤ a2) (h6 : a2 ≤ 1152921504606846976) (hc : (a2 == 0) = J) (fb : (!((!(decide (a0 < 0) == decide (a1 < 0))) == decide (a2 < 0))) = J)
  (hh : a0.natAbs * a1.natAbs / 18446744073709551616 < a2.natAbs) (hq : (a0.natAbs : Int) * a1.natAbs / a2.natAbs ≤ 1152921504606846976) (hr : 0 < (a0.natAbs : Int) * a1.natAbs % a2.natAbs) :
  Calls Try.prog 57 #[.int .i64 a0, .int .i64 a1, .int .i64 a2, .int .i64 3] w fun e w' => e = .returned (.tuple #[.int .i64 (mdSgn ((a0.natAbs : Int) * a1.natAbs / a2.natAbs) J).1, .int .i64 (mdSgn ((a0.natAbs : Int) * a1.natAbs / a2.natAbs) J).2]) ∧ Below w.heap.size w w' := by
 have hmf : ∀ (fn : Fn) (first cap : Array Value) (w : World), (Instr.makeFunc fn first cap).run Try.prog w = .ok (.func fn first cap) w := fun _ _ _ _ => rfl
 go_enter Try.func57, Try.ntmps57
 go_wp2_with (first | (go_at_call 89; refine (Qbv.walk _ _ (by omega) (by omega)).mono ?_; rintro e w' ⟨rfl, rfl⟩) | (go_at_call 88; refine (QbA.walk _ _ (by omega) (by omega) _).mono ?_; rintro e w' ⟨rfl, rfl⟩) | (go_at_call 90; refine (QaA.walkp _ _ hh (by omega) _).mono ?_; rintro e w1 ⟨rfl, hd⟩) | (go_at_call 92; refine (Qbr.calls _ _ _ _ _ (md_sgn _ _)).mono ?_; rintro e w2 ⟨rfl, hd2⟩) | (go_at_call 87; go_in) | (go_at_call 91; go_in) | (go_at_call 118; go_in))
 go_ret2
 exact ⟨rfl, md_end hd hd2⟩
set_option maxHeartbeats 4000000 in
theorem Qa4.r4t (a0 a1 a2 : Int) (w : World) (h1 : -1152921504606846976 ≤ a0) (h2 : a0 ≤ 1152921504606846976) (h3 : -1152921504606846976 ≤ a1) (h4 : a1 ≤ 1152921504606846976)
  (h5 : -1152921504606846976 ≤ a2) (h6 : a2 ≤ 1152921504606846976) (hc : (a2 == 0) = J) (fb : (!((!(decide (a0 < 0) == decide (a1 < 0))) == decide (a2 < 0))) = F)
  (hh : a0.natAbs * a1.natAbs / 18446744073709551616 < a2.natAbs) (hq : (a0.natAbs : Int) * a1.natAbs / a2.natAbs ≤ 1152921504606846976) (hr : 0 < (a0.natAbs : Int) * a1.natAbs % a2.natAbs) :
  Calls Try.prog 57 #[.int .i64 a0, .int .i64 a1, .int .i64 a2, .int .i64 4] w fun e w' => e = .returned (.tuple #[.int .i64 (mdSgn ((a0.natAbs : Int) * a1.natAbs / a2.natAbs) F).1, .int .i64 (mdSgn ((a0.natAbs : Int) * a1.natAbs / a2.natAbs) F).2]) ∧ Below w.heap.size w w' := by
 have hmf : ∀ (fn : Fn) (first cap : Array Value) (w : World), (Instr.makeFunc fn first cap).run Try.prog w = .ok (.func fn first cap) w := fun _ _ _ _ => rfl
 go_enter Try.func57, Try.ntmps57
 go_wp2_with (first | (go_at_call 89; refine (Qbv.walk _ _ (by omega) (by omega)).mono ?_; rintro e w' ⟨rfl, rfl⟩) | (go_at_call 88; refine (QbA.walk _ _ (by omega) (by omega) _).mono ?_; rintro e w' ⟨rfl, rfl⟩) | (go_at_call 90; refine (QaA.walkp _ _ hh (by omega) _).mono ?_; rintro e w1 ⟨rfl, hd⟩) | (go_at_call 92; refine (Qbr.calls _ _ _ _ _ (md_sgn _ _)).mono ?_; rintro e w2 ⟨rfl, hd2⟩) | (go_at_call 87; go_in) | (go_at_call 91; go_in) | (go_at_call 118; go_in))
 go_ret2
 exact ⟨rfl, md_end hd hd2⟩
set_option maxHeartbeats 4000000 in
theorem Qa4.r4f (a0 a1 a2 : Int) (w : World) (h1 : -1152921504606846976 ≤ a0) (h2 : a0 ≤ 1152921504606846976) (h3 : -1152921504606846976 ≤ a1) (h4 : a1 ≤ 1152921504606846976)
  (h5 : -1152921504606846976 ≤ a2) (h6 : a2 ≤ 1152921504606846976) (hc : (a2 == 0) = J) (fb : (!((!(decide (a0 < 0) == decide (a1 < 0))) == decide (a2 < 0))) = J)
  (hh : a0.natAbs * a1.natAbs / 18446744073709551616 < a2.natAbs) (hq : (a0.natAbs : Int) * a1.natAbs / a2.natAbs ≤ 1152921504606846976) (hr : 0 < (a0.natAbs : Int) * a1.natAbs % a2.natAbs) :
  Calls Try.prog 57 #[.int .i64 a0, .int .i64 a1, .int .i64 a2, .int .i64 4] w fun e w' => e = .returned (.tuple #[.int .i64 (mdSgn ((a0.natAbs : Int) * a1.natAbs / a2.natAbs + 1) J).1, .int .i64 (mdSgn ((a0.natAbs : Int) * a1.natAbs / a2.natAbs + 1) J).2]) ∧ Below w.heap.size w w' := by
 have hmf : ∀ (fn : Fn) (first cap : Array Value) (w : World), (Instr.makeFunc fn first cap).run Try.prog w = .ok (.func fn first cap) w := fun _ _ _ _ => rfl
 have hw : IntKind.u64.wrap ((a0.natAbs : Int) * a1.natAbs / a2.natAbs + 1) = (a0.natAbs : Int) * a1.natAbs / a2.natAbs + 1 := by
  have : 0 ≤ (a0.natAbs : Int) * a1.natAbs / a2.natAbs := Int.ediv_nonneg (Int.mul_nonneg (by omega) (by omega)) (by omega)
  rw [IntKind.wrap_u64]; omega
 go_enter Try.func57, Try.ntmps57
 go_wp2_with (first | (go_at_call 89; refine (Qbv.walk _ _ (by omega) (by omega)).mono ?_; rintro e w' ⟨rfl, rfl⟩) | (go_at_call 88; refine (QbA.walk _ _ (by omega) (by omega) _).mono ?_; rintro e w' ⟨rfl, rfl⟩) | (go_at_call 90; refine (QaA.walkp _ _ hh (by omega) _).mono ?_; rintro e w1 ⟨rfl, hd⟩) | (go_at_call 92; refine (Qbr.calls _ _ _ _ _ (md_sgn _ _)).mono ?_; rintro e w2 ⟨rfl, hd2⟩) | (go_at_call 87; go_in) | (go_at_call 91; go_in) | (go_at_call 118; go_in))
 go_ret2
 exact ⟨rfl, md_end hd hd2⟩
set_option maxHeartbeats 4000000 in
theorem Qa4.r5 (a0 a1 a2 : Int) (w : World) (h1 : -1152921504606846976 ≤ a0) (h2 : a0 ≤ 1152921504606846976) (h3 : -1152921504606846976 ≤ a1) (h4 : a1 ≤ 1152921504606846976)
  (h5 : -1152921504606846976 ≤ a2) (h6 : a2 ≤ 1152921504606846976) (hc : (a2 == 0) = J) (hb : Bool) (hhalf : Aside0 (mdHalf ((a0.natAbs : Int) * a1.natAbs / a2.natAbs) ((a0.natAbs : Int) * a1.natAbs % a2.natAbs) a2.natAbs = hb))
  (hh : a0.natAbs * a1.natAbs / 18446744073709551616 < a2.natAbs) (hq : (a0.natAbs : Int) * a1.natAbs / a2.natAbs ≤ 1152921504606846976) (hr : 0 < (a0.natAbs : Int) * a1.natAbs % a2.natAbs) :
  Calls Try.prog 57 #[.int .i64 a0, .int .i64 a1, .int .i64 a2, .int .i64 5] w fun e w' => e = .returned (.tuple #[.int .i64 (mdSgn (if hb = F then (a0.natAbs : Int) * a1.natAbs / a2.natAbs + 1 else (a0.natAbs : Int) * a1.natAbs / a2.natAbs) (QbK a0 a1 a2)).1, .int .i64 (mdSgn (if hb = F then (a0.natAbs : Int) * a1.natAbs / a2.natAbs + 1 else (a0.natAbs : Int) * a1.natAbs / a2.natAbs) (QbK a0 a1 a2)).2]) ∧ Below w.heap.size w w' := by
 have hmf : ∀ (fn : Fn) (first cap : Array Value) (w : World), (Instr.makeFunc fn first cap).run Try.prog w = .ok (.func fn first cap) w := fun _ _ _ _ => rfl
 have hw : IntKind.u64.wrap ((a0.natAbs : Int) * a1.natAbs / a2.natAbs + 1) = (a0.natAbs : Int) * a1.natAbs / a2.natAbs + 1 := by
  have : 0 ≤ (a0.natAbs : Int) * a1.natAbs / a2.natAbs := Int.ediv_nonneg (Int.mul_nonneg (by omega) (by omega)) (by omega)
  rw [IntKind.wrap_u64]; omega
 have hq0 : 0 ≤ (a0.natAbs : Int) * a1.natAbs / a2.natAbs := Int.ediv_nonneg (Int.mul_nonneg (by omega) (by omega)) (by omega)
 have hrc : (a0.natAbs : Int) * a1.natAbs % a2.natAbs < a2.natAbs := Int.emod_lt_of_pos _ (by omega)
 go_enter Try.func57, Try.ntmps57
 go_wp2_with (first | (go_at_call 89; refine (Qbv.walk _ _ (by omega) (by omega)).mono ?_; rintro e w' ⟨rfl, rfl⟩) | (go_at_call 88; refine (QbA.walk _ _ (by omega) (by omega) _).mono ?_; rintro e w' ⟨rfl, rfl⟩) | (go_at_call 90; refine (QaA.walkp _ _ hh (by omega) _).mono ?_; rintro e w1 ⟨rfl, hd⟩) | (go_at_call 92; refine (Qbr.calls _ _ _ _ _ (md_sgn _ _)).mono ?_; rintro e w2 ⟨rfl, hd2⟩) | (go_at_call 87; go_in) | (go_at_call 91; go_in))
 refine (Qee.half _ _ _ _ _ _ (by go_simp) (by omega) (by omega) (by omega) (by omega)).mono ?_
 rw [hhalf.out]
 rintro e w' ⟨rfl, rfl⟩
 cases hb
 ·go_wp2_with (go_at_call 92; refine (Qbr.calls _ _ _ _ _ (md_sgn _ _)).mono ?_; rintro e w2 ⟨rfl, hd2⟩)
  go_ret2
  exact ⟨rfl, md_end hd hd2⟩
 go_wp2_with (go_at_call 92; refine (Qbr.calls _ _ _ _ _ (md_sgn _ _)).mono ?_; rintro e w2 ⟨rfl, hd2⟩)
 go_ret2
 exact ⟨rfl, md_end hd hd2⟩
theorem Qcf {a b c mode : Int} (q : Int) (h : mdQ a b c mode = q) (h0 : 0 ≤ q) : mdSgn q (QbK a b c) = mdRes a b c mode := by
 unfold mdRes
 rw [h, QdP q _ h0]
def Qa4.f (a0 a1 a2 a3 : Int) : Option (Int × Int) :=
 if mdFits a0 ∧ mdFits a1 ∧ mdFits a2 ∧ 1 ≤ a3 ∧ a3 ≤ 5 then
  if a2 = 0 then some (0, 4) else some (mdRes a0 a1 a2 a3)
 else some (0, 2)
theorem Qa4.res (a0 a1 a2 a3 : Int) (w : World) (h1 : -1152921504606846976 ≤ a0) (h2 : a0 ≤ 1152921504606846976) (h3 : -1152921504606846976 ≤ a1) (h4 : a1 ≤ 1152921504606846976)
  (h5 : -1152921504606846976 ≤ a2) (h6 : a2 ≤ 1152921504606846976) (hc : (a2 == 0) = J) (m1 : 1 ≤ a3) (m2 : a3 ≤ 5) :
  Calls Try.prog 57 #[.int .i64 a0, .int .i64 a1, .int .i64 a2, .int .i64 a3] w fun e w' => e = .returned (.tuple #[.int .i64 (mdRes a0 a1 a2 a3).1, .int .i64 (mdRes a0 a1 a2 a3).2]) ∧ Below w.heap.size w w' := by
 have hc' : a2 ≠ 0 := by simpa using hc
 have hq0 : 0 ≤ (a0.natAbs : Int) * a1.natAbs / a2.natAbs := Int.ediv_nonneg (Int.mul_nonneg (by omega) (by omega)) (by omega)
 by_cases hh : a0.natAbs * a1.natAbs / 18446744073709551616 < a2.natAbs
 ·by_cases hq : (a0.natAbs : Int) * a1.natAbs / a2.natAbs ≤ 1152921504606846976
  ·by_cases hr : 0 < (a0.natAbs : Int) * a1.natAbs % a2.natAbs
   ·have up : mdAway a3 (QbK a0 a1 a2) ((a0.natAbs : Int) * a1.natAbs / a2.natAbs) ((a0.natAbs : Int) * a1.natAbs % a2.natAbs) a2.natAbs = F → mdQ a0 a1 a2 a3 = (a0.natAbs : Int) * a1.natAbs / a2.natAbs + 1 := fun h => by unfold mdQ; rw [if_pos ⟨hr, h⟩]
    have dn : mdAway a3 (QbK a0 a1 a2) ((a0.natAbs : Int) * a1.natAbs / a2.natAbs) ((a0.natAbs : Int) * a1.natAbs % a2.natAbs) a2.natAbs = J → mdQ a0 a1 a2 a3 = (a0.natAbs : Int) * a1.natAbs / a2.natAbs := fun h => by unfold mdQ; rw [if_neg (fun h' => by rw [h] at h'; cases h'.2)]
    obtain rfl | rfl | rfl | rfl | rfl : a3 = 1 ∨ a3 = 2 ∨ a3 = 3 ∨ a3 = 4 ∨ a3 = 5 := by omega
    ·rw [← Qcf _ (dn (by unfold mdAway; rfl)) hq0]
     exact Qa4.r1 a0 a1 a2 w h1 h2 h3 h4 h5 h6 hc hh hq hr
    ·rw [← Qcf _ (up (by unfold mdAway; rfl)) (by omega)]
     exact Qa4.r2 a0 a1 a2 w h1 h2 h3 h4 h5 h6 hc hh hq hr
    ·cases fb : QbK a0 a1 a2
     ·rw [← Qcf _ (dn (by unfold mdAway; rw [fb]; rfl)) hq0, fb]
      exact Qa4.r3f a0 a1 a2 w h1 h2 h3 h4 h5 h6 hc fb hh hq hr
     rw [← Qcf _ (up (by unfold mdAway; rw [fb]; rfl)) (by omega), fb]
     exact Qa4.r3t a0 a1 a2 w h1 h2 h3 h4 h5 h6 hc fb hh hq hr
    ·cases fb : QbK a0 a1 a2
     ·rw [← Qcf _ (up (by unfold mdAway; rw [fb]; rfl)) (by omega), fb]
      exact Qa4.r4f a0 a1 a2 w h1 h2 h3 h4 h5 h6 hc fb hh hq hr
     rw [← Qcf _ (dn (by unfold mdAway; rw [fb]; rfl)) hq0, fb]
     exact Qa4.r4t a0 a1 a2 w h1 h2 h3 h4 h5 h6 hc fb hh hq hr
    cases hb : mdHalf ((a0.natAbs : Int) * a1.natAbs / a2.natAbs) ((a0.natAbs : Int) * a1.natAbs % a2.natAbs) a2.natAbs
    ·rw [← Qcf _ (dn (by unfold mdAway; exact hb)) hq0]
     exact Qa4.r5 a0 a1 a2 w h1 h2 h3 h4 h5 h6 hc J (Aside0.mk hb) hh hq hr
    rw [← Qcf _ (up (by unfold mdAway; exact hb)) (by omega)]
    exact Qa4.r5 a0 a1 a2 w h1 h2 h3 h4 h5 h6 hc F (Aside0.mk hb) hh hq hr
   have e : mdQ a0 a1 a2 a3 = (a0.natAbs : Int) * a1.natAbs / a2.natAbs := by unfold mdQ; rw [if_neg (fun h => hr h.1)]
   rw [← Qcf _ e hq0]
   exact Qa4.m0 a0 a1 a2 a3 w h1 h2 h3 h4 h5 h6 hc m1 m2 hh hq (by omega)
  have e : mdRes a0 a1 a2 a3 = (0, 3) := by unfold mdRes; rw [if_pos (by unfold mdQ; split <;> omega)]
  rw [e]
  exact Qa4.o2 a0 a1 a2 a3 w h1 h2 h3 h4 h5 h6 hc m1 m2 hh (by omega)
 have hbig : 1152921504606846976 < (a0.natAbs : Int) * a1.natAbs / a2.natAbs := by
  have h7 : a2.natAbs * 18446744073709551616 ≤ a0.natAbs * a1.natAbs := (Nat.le_div_iff_mul_le (by omega)).1 (by omega)
  have h8 : 18446744073709551616 ≤ a0.natAbs * a1.natAbs / a2.natAbs := (Nat.le_div_iff_mul_le (by omega)).2 (by rw [Nat.mul_comm]; exact h7)
  have h9 : ((a0.natAbs * a1.natAbs / a2.natAbs : Nat) : Int) = (a0.natAbs : Int) * a1.natAbs / a2.natAbs := by simp
  omega
 have e : mdRes a0 a1 a2 a3 = (0, 3) := by unfold mdRes; rw [if_pos (by unfold mdQ; split <;> omega)]
 rw [e]
 have h9 : ((a0.natAbs * a1.natAbs : Nat) : Int) = (a0.natAbs : Int) * a1.natAbs := Int.natCast_mul _ _
 exact Qa4.o1 a0 a1 a2 a3 w h1 h2 h3 h4 h5 h6 hc m1 m2 (by omega)
theorem Qa4.calls (a0 a1 a2 a3 r1 r2 : Int) (w : World) (h : Qa4.f a0 a1 a2 a3 = some (r1, r2)) :
  Calls Try.prog 57 #[.int .i64 a0, .int .i64 a1, .int .i64 a2, .int .i64 a3] w fun e w' => e = .returned (.tuple #[.int .i64 r1, .int .i64 r2]) ∧ Below w.heap.size w w' := by
 unfold Qa4.f at h
 by_cases c : mdFits a0 ∧ mdFits a1 ∧ mdFits a2 ∧ 1 ≤ a3 ∧ a3 ≤ 5
 ·rw [if_pos c] at h
  obtain ⟨⟨c1, c2⟩, ⟨c3, c4⟩, ⟨c5, c6⟩, c7, c8⟩ := c
  by_cases d : a2 = 0
  ·rw [if_pos d] at h
   have h' := Option.some.inj h
   simp only [Prod.mk.injEq] at h'
   obtain ⟨rfl, rfl⟩ := h'
   exact Qa4.z a0 a1 a2 a3 w c1 c2 c3 c4 c5 c6 (by simpa using d) c7 c8
  rw [if_neg d] at h
  have h' := Option.some.inj h
  have e1 : (mdRes a0 a1 a2 a3).1 = r1 := by rw [h']
  have e2 : (mdRes a0 a1 a2 a3).2 = r2 := by rw [h']
  rw [← e1, ← e2]
  exact Qa4.res a0 a1 a2 a3 w c1 c2 c3 c4 c5 c6 (by simpa using d) c7 c8
 rw [if_neg c] at h
 have h' := Option.some.inj h
 simp only [Prod.mk.injEq] at h'
 obtain ⟨rfl, rfl⟩ := h'
 refine (Qa4.bad a0 a1 a2 a3 w c).mono ?_
 rintro e w' ⟨rfl, rfl⟩
 exact ⟨rfl, Below.refl _ _⟩
def QaB.l0 : Nat → Int → Int → Int → Int → Int → Int → Option (Int × Int)
 | 0, _, _, _, _, _, _ => none
 | k + 1, x0, x1, x2, x8, x9, x10 => if x10 ≥ 0 then (if 0 ≤ (IntKind.u64.wrap (x10)) then (if (Int.tmod (shr .i64 x0 (IntKind.u64.wrap (x10))) 2) = 1 then (if x2 = 0 then (none) else (if (wrap64 ((wrap64 (2 * x8)) + (wrap64 (Int.tdiv (wrap64 ((wrap64 (2 * x9)) + x1)) x2)))) > 2305843009213693952 then (QaB.l0 k x0 x1 x2 2305843009213693952 (Int.tmod (wrap64 ((wrap64 (2 * x9)) + x1)) x2) (wrap64 (x10 - 1))) else (QaB.l0 k x0 x1 x2 (wrap64 ((wrap64 (2 * x8)) + (wrap64 (Int.tdiv (wrap64 ((wrap64 (2 * x9)) + x1)) x2)))) (Int.tmod (wrap64 ((wrap64 (2 * x9)) + x1)) x2) (wrap64 (x10 - 1))))) else (if x2 = 0 then (none) else (if (wrap64 ((wrap64 (2 * x8)) + (wrap64 (Int.tdiv (wrap64 (2 * x9)) x2)))) > 2305843009213693952 then (QaB.l0 k x0 x1 x2 2305843009213693952 (Int.tmod (wrap64 (2 * x9)) x2) (wrap64 (x10 - 1))) else (QaB.l0 k x0 x1 x2 (wrap64 ((wrap64 (2 * x8)) + (wrap64 (Int.tdiv (wrap64 (2 * x9)) x2)))) (Int.tmod (wrap64 (2 * x9)) x2) (wrap64 (x10 - 1)))))) else (none)) else (some (x8, x9))
def QaB.f (k : Nat) (a0 : Int) (a1 : Int) (a2 : Int) : Option (Int × Int) := QaB.l0 k a0 a1 a2 0 0 60
theorem QaB.mono_l : ∀ k, (∀ y0 y1 y2 y3 y4 y5, LeO (QaB.l0 k y0 y1 y2 y3 y4 y5) (QaB.l0 (k + 1) y0 y1 y2 y3 y4 y5))
 | 0 => fun _ _ _ _ _ _ r h => by simp [QaB.l0] at h
 | k + 1 => by
  have ih0 := QaB.mono_l k
  intro y0 y1 y2 y3 y4 y5
  unfold QaB.l0
  exact ZM1 ih0
theorem QaB.mono : ∀ a0 a1 a2 k, LeO (QaB.f k a0 a1 a2) (QaB.f (k + 1) a0 a1 a2) := by
 intro a0 a1 a2 k
 have ih0 := QaB.mono_l k
 unfold QaB.f
 exact ZM1 ih0
set_option maxHeartbeats 8000000 in
theorem QaB.calls (k : Nat) (a0 : Int) (a1 : Int) (a2 : Int) (r1 : Int) (r2 : Int) (w : World) (h : QaB.f k a0 a1 a2 = some (r1, r2)) :
  Calls Try.prog 94 #[.int .i64 a0, .int .i64 a1, .int .i64 a2] w fun e w' => e = .returned (.tuple #[.int .i64 r1, .int .i64 r2]) ∧ Drawn0 w w' := by
 have H : (QaB.l0 k a0 a1 a2 0 0 60) = some (r1, r2) := h
 clear h
 have H' := Aside0.mk H
 clear H
 go_enter Try.func94, Try.ntmps94
 go_wp2
 go_loopg [8, 9, 10] k (fun kq v8 v9 v10 w' => ∃ (x8_1 : Int) (x9_1 : Int) (x10_1 : Int), v8 = .int .i64 x8_1 ∧ v9 = .int .i64 x9_1 ∧ v10 = .int .i64 x10_1 ∧ Aside0 (QaB.l0 kq a0 a1 a2 x8_1 x9_1 x10_1 = some (r1, r2)) ∧ Aside0 (kq ≤ k) ∧ Drawn0 w w')
 case atStart => exact ⟨(0), (0), (60), (Zs), (Zs), (Zs), H', ⟨Nat.le_refl _⟩, Zd⟩
 case round =>
  clear H'
  try clear p2
  obtain ⟨x8_1, x9_1, x10_1, rfl, rfl, rfl, HA, HK1, ⟨m1, rfl⟩⟩ := hrel
  cases gk with
  | zero => exact absurd HA.out (by simp [QaB.l0])
  | succ k1 =>
   have H := HA.out
   clear HA
   simp only [QaB.l0] at H
   by_cases c4 : x10_1 ≥ 0
   ·rw [if_pos c4] at H
    have c4b0 : decide (0 ≤ x10_1) = F := decide_eq_true c4
    clear c4
    (try simp only [c4b0])
    obtain ⟨ji5, hji5⟩ : ∃ j_ : Int, (IntKind.u64.wrap (x10_1)) = j_ := ⟨_, rfl⟩
    replace H : (if 0 ≤ (ji5) then (if (Int.tmod (shr .i64 a0 (ji5)) 2) = 1 then (if a2 = 0 then (none) else (if (wrap64 ((wrap64 (2 * x8_1)) + (wrap64 (Int.tdiv (wrap64 ((wrap64 (2 * x9_1)) + a1)) a2)))) > 2305843009213693952 then (QaB.l0 k1 a0 a1 a2 2305843009213693952 (Int.tmod (wrap64 ((wrap64 (2 * x9_1)) + a1)) a2) (wrap64 (x10_1 - 1))) else (QaB.l0 k1 a0 a1 a2 (wrap64 ((wrap64 (2 * x8_1)) + (wrap64 (Int.tdiv (wrap64 ((wrap64 (2 * x9_1)) + a1)) a2)))) (Int.tmod (wrap64 ((wrap64 (2 * x9_1)) + a1)) a2) (wrap64 (x10_1 - 1))))) else (if a2 = 0 then (none) else (if (wrap64 ((wrap64 (2 * x8_1)) + (wrap64 (Int.tdiv (wrap64 (2 * x9_1)) a2)))) > 2305843009213693952 then (QaB.l0 k1 a0 a1 a2 2305843009213693952 (Int.tmod (wrap64 (2 * x9_1)) a2) (wrap64 (x10_1 - 1))) else (QaB.l0 k1 a0 a1 a2 (wrap64 ((wrap64 (2 * x8_1)) + (wrap64 (Int.tdiv (wrap64 (2 * x9_1)) a2)))) (Int.tmod (wrap64 (2 * x9_1)) a2) (wrap64 (x10_1 - 1)))))) else (none)) = some (r1, r2) := by first | (rw [hji5] at H; exact H) | (simp only [hji5] at H ⊢; exact H)
    by_cases c6 : 0 ≤ (ji5)
    ·rw [if_pos c6] at H
     have c6b0 := eq_true c6
     have c6b1 : decide (0 ≤ (ji5)) = F := decide_eq_true c6
     clear c6
     obtain ⟨ji7, hji7⟩ : ∃ j_ : Int, (shr .i64 a0 (ji5)) = j_ := ⟨_, rfl⟩
     replace H : (if (Int.tmod (ji7) 2) = 1 then (if a2 = 0 then (none) else (if (wrap64 ((wrap64 (2 * x8_1)) + (wrap64 (Int.tdiv (wrap64 ((wrap64 (2 * x9_1)) + a1)) a2)))) > 2305843009213693952 then (QaB.l0 k1 a0 a1 a2 2305843009213693952 (Int.tmod (wrap64 ((wrap64 (2 * x9_1)) + a1)) a2) (wrap64 (x10_1 - 1))) else (QaB.l0 k1 a0 a1 a2 (wrap64 ((wrap64 (2 * x8_1)) + (wrap64 (Int.tdiv (wrap64 ((wrap64 (2 * x9_1)) + a1)) a2)))) (Int.tmod (wrap64 ((wrap64 (2 * x9_1)) + a1)) a2) (wrap64 (x10_1 - 1))))) else (if a2 = 0 then (none) else (if (wrap64 ((wrap64 (2 * x8_1)) + (wrap64 (Int.tdiv (wrap64 (2 * x9_1)) a2)))) > 2305843009213693952 then (QaB.l0 k1 a0 a1 a2 2305843009213693952 (Int.tmod (wrap64 (2 * x9_1)) a2) (wrap64 (x10_1 - 1))) else (QaB.l0 k1 a0 a1 a2 (wrap64 ((wrap64 (2 * x8_1)) + (wrap64 (Int.tdiv (wrap64 (2 * x9_1)) a2)))) (Int.tmod (wrap64 (2 * x9_1)) a2) (wrap64 (x10_1 - 1)))))) = some (r1, r2) := by first | (rw [hji7] at H; exact H) | (simp only [hji7] at H ⊢; exact H)
     have hji7_ : (a0 / 2 ^ min (ji5).toNat 64) = ji7 := hji7
     have hji7z : (ji5) ≤ 64 → (a0 / 2 ^ (ji5).toNat) = ji7 := QcE hji7
     by_cases c8 : (Int.tmod (ji7) 2) = 1
     ·rw [if_pos c8] at H
      have c8b0 : ((Int.tmod (ji7) 2) == 1) = F := beq_iff_eq.mpr c8
      have c8b1 : ((Int.tmod (ji7) 2) != 1) = J := bne_eq_false_iff_eq.mpr c8
      clear c8
      (try simp only [c8b0, c8b1])
      by_cases c9 : a2 = 0
      ·rw [if_pos c9] at H
       exact absurd H (by simp)
      rw [if_neg c9] at H
      have c9b0 : (a2 == 0) = J := beq_eq_false_iff_ne.mpr c9
      have c9b1 : (a2 != 0) = F := bne_iff_ne.mpr c9
      by_cases c10 : (wrap64 ((wrap64 (2 * x8_1)) + (wrap64 (Int.tdiv (wrap64 ((wrap64 (2 * x9_1)) + a1)) a2)))) > 2305843009213693952
      ·rw [if_pos c10] at H
       have c10b0 : decide (2305843009213693952 < (wrap64 ((wrap64 (2 * x8_1)) + (wrap64 (Int.tdiv (wrap64 ((wrap64 (2 * x9_1)) + a1)) a2))))) = F := decide_eq_true c10
       clear c10
       (try simp only [c10b0])
       have H' := Aside0.mk H
       clear H
       go_wp2
       go_roundg k1
       case measure => have := HK1.out; omega
       case rel => exact ⟨(2305843009213693952), (Int.tmod (wrap64 ((wrap64 (2 * x9_1)) + a1)) a2), (wrap64 (x10_1 - 1)), (Zs), (Zs), (Zs), H', ⟨by have := HK1.out; omega⟩, Zd⟩
      rw [if_neg c10] at H
      have c10b0 : decide (2305843009213693952 < (wrap64 ((wrap64 (2 * x8_1)) + (wrap64 (Int.tdiv (wrap64 ((wrap64 (2 * x9_1)) + a1)) a2))))) = J := decide_eq_false c10
      clear c10
      (try simp only [c10b0])
      have H' := Aside0.mk H
      clear H
      go_wp2
      go_roundg k1
      case measure => have := HK1.out; omega
      case rel => exact ⟨(wrap64 ((wrap64 (2 * x8_1)) + (wrap64 (Int.tdiv (wrap64 ((wrap64 (2 * x9_1)) + a1)) a2)))), (Int.tmod (wrap64 ((wrap64 (2 * x9_1)) + a1)) a2), (wrap64 (x10_1 - 1)), (Zs), (Zs), (Zs), H', ⟨by have := HK1.out; omega⟩, Zd⟩
     rw [if_neg c8] at H
     have c8b0 : ((Int.tmod (ji7) 2) == 1) = J := beq_eq_false_iff_ne.mpr c8
     have c8b1 : ((Int.tmod (ji7) 2) != 1) = F := bne_iff_ne.mpr c8
     (try simp only [c8b0, c8b1])
     by_cases c11 : a2 = 0
     ·rw [if_pos c11] at H
      exact absurd H (by simp)
     rw [if_neg c11] at H
     have c11b0 : (a2 == 0) = J := beq_eq_false_iff_ne.mpr c11
     have c11b1 : (a2 != 0) = F := bne_iff_ne.mpr c11
     by_cases c12 : (wrap64 ((wrap64 (2 * x8_1)) + (wrap64 (Int.tdiv (wrap64 (2 * x9_1)) a2)))) > 2305843009213693952
     ·rw [if_pos c12] at H
      have c12b0 : decide (2305843009213693952 < (wrap64 ((wrap64 (2 * x8_1)) + (wrap64 (Int.tdiv (wrap64 (2 * x9_1)) a2))))) = F := decide_eq_true c12
      clear c12
      (try simp only [c12b0])
      have H' := Aside0.mk H
      clear H
      go_wp2
      go_roundg k1
      case measure => have := HK1.out; omega
      case rel => exact ⟨(2305843009213693952), (Int.tmod (wrap64 (2 * x9_1)) a2), (wrap64 (x10_1 - 1)), (Zs), (Zs), (Zs), H', ⟨by have := HK1.out; omega⟩, Zd⟩
     rw [if_neg c12] at H
     have c12b0 : decide (2305843009213693952 < (wrap64 ((wrap64 (2 * x8_1)) + (wrap64 (Int.tdiv (wrap64 (2 * x9_1)) a2))))) = J := decide_eq_false c12
     clear c12
     (try simp only [c12b0])
     have H' := Aside0.mk H
     clear H
     go_wp2
     go_roundg k1
     case measure => have := HK1.out; omega
     case rel => exact ⟨(wrap64 ((wrap64 (2 * x8_1)) + (wrap64 (Int.tdiv (wrap64 (2 * x9_1)) a2)))), (Int.tmod (wrap64 (2 * x9_1)) a2), (wrap64 (x10_1 - 1)), (Zs), (Zs), (Zs), H', ⟨by have := HK1.out; omega⟩, Zd⟩
    rw [if_neg c6] at H
    exact absurd H (by simp)
   rw [if_neg c4] at H
   have c4b0 : decide (0 ≤ x10_1) = J := decide_eq_false c4
   clear c4
   (try simp only [c4b0])
   simp only [Option.some.injEq, Prod.mk.injEq] at H
   obtain ⟨rfl, rfl⟩ := H
   go_wp2
   go_ret2
   exact ⟨Zs, Zd⟩
theorem Qga (N c x : Int) (hc : 0 < c) : (2 * N + x) / c = 2 * (N / c) + (2 * (N % c) + x) / c ∧ (2 * N + x) % c = (2 * (N % c) + x) % c := by
 have h := Int.mul_ediv_add_emod N c
 have e : 2 * N + x = (2 * (N % c) + x) + c * (2 * (N / c)) := by grind
 rw [e]
 exact ⟨by rw [Int.add_mul_ediv_left _ _ (by omega)]; omega, by rw [Int.add_mul_emod_self_left]⟩
theorem Qf9 (Q s q : Int) (hQ : 0 ≤ Q) (hs : 0 ≤ s) (hs' : s ≤ 2305843009213693952) (hq : q = if Q ≤ 2305843009213693952 then Q else 2305843009213693952) :
  (if wrap64 (wrap64 (2 * q) + wrap64 s) > 2305843009213693952 then 2305843009213693952 else wrap64 (wrap64 (2 * q) + wrap64 s)) = if 2 * Q + s ≤ 2305843009213693952 then 2 * Q + s else 2305843009213693952 := by
 unfold wrap64
 subst hq
 split <;> split <;> split <;> omega
theorem QfC (a b c : Int) (ha : 0 ≤ a) (ha' : a ≤ 1152921504606846976) (hb : 0 ≤ b) (hb' : b ≤ 1152921504606846976) (hc : 0 < c) (hc' : c ≤ 1152921504606846976) :
    ∀ (n : Nat) (k : Nat) (q r : Int), n ≤ 61 → n < k → q = (if a / 2 ^ n * b / c ≤ 2305843009213693952 then a / 2 ^ n * b / c else 2305843009213693952) → r = a / 2 ^ n * b % c →
      QaB.l0 k a b c q r ((n : Int) - 1) = some (if a * b / c ≤ 2305843009213693952 then a * b / c else 2305843009213693952, a * b % c) := by
  intro n
  induction n with
  | zero =>
    intro k q r _ hk hq hr
    obtain ⟨k, rfl⟩ : ∃ m, k = m + 1 := ⟨k - 1, by omega⟩
    simp only [QaB.l0]
    rw [if_neg (by omega), hq, hr]
    simp
  | succ n ih =>
    intro k q r hn hk hq hr
    obtain ⟨k, rfl⟩ : ∃ m, k = m + 1 := ⟨k - 1, by omega⟩
    have e0 : ((n + 1 : Nat) : Int) - 1 = (n : Int) := by omega
    have w0 : IntKind.u64.wrap (n : Int) = (n : Int) := by rw [IntKind.wrap_u64]; omega
    have hp : (0 : Int) < 2 ^ n := Int.pow_pos (by omega)
    have hA : 0 ≤ a / 2 ^ n := Int.ediv_nonneg ha (by omega)
    have hA2 : a / 2 ^ (n + 1) = a / 2 ^ n / 2 := by
      rw [Int.pow_succ, Int.ediv_ediv_of_nonneg (by omega)]
    have hAle : a / 2 ^ n ≤ a := Int.ediv_le_self _ ha
    have esh : shr .i64 a (n : Int) = a / 2 ^ n := by
      unfold shr
      rw [Int.toNat_natCast, Nat.min_eq_left (show n ≤ IntKind.i64.bits by show n ≤ 64; omega)]
    have hr0 := Int.emod_nonneg (a / 2 ^ (n + 1) * b) (b := c) (by omega)
    have hr1 := Int.emod_lt_of_pos (a / 2 ^ (n + 1) * b) hc
    have hQ0 : 0 ≤ a / 2 ^ (n + 1) * b / c := Int.ediv_nonneg (Int.mul_nonneg (by rw [hA2]; omega) hb) (by omega)
    generalize hA' : a / 2 ^ n = A at *
    generalize hN : a / 2 ^ (n + 1) * b = N at *
    have wr : wrap64 (2 * r) = 2 * r := by unfold wrap64; omega
    have wrb : wrap64 (wrap64 (2 * r) + b) = 2 * r + b := by unfold wrap64; omega
    have wn : wrap64 ((n : Int) - 1) = (n : Int) - 1 := by unfold wrap64; omega
    have step : ∀ x : Int, 0 ≤ x → x ≤ 1152921504606846976 → A * b = 2 * N + x → 
        (if wrap64 (wrap64 (2 * q) + wrap64 ((2 * r + x) / c)) > 2305843009213693952 then QaB.l0 k a b c 2305843009213693952 ((2 * r + x) % c) ((n : Int) - 1)
         else QaB.l0 k a b c (wrap64 (wrap64 (2 * q) + wrap64 ((2 * r + x) / c))) ((2 * r + x) % c) ((n : Int) - 1)) = some (if a * b / c ≤ 2305843009213693952 then a * b / c else 2305843009213693952, a * b % c) := by
      intro x hx0 hx1 hx
      obtain ⟨d1, d2⟩ := Qga N c x hc
      rw [← hr] at d1 d2
      have s0 : 0 ≤ (2 * r + x) / c := Int.ediv_nonneg (by omega) (by omega)
      have s1 : (2 * r + x) / c ≤ 2305843009213693952 := by
        have : (2 * r + x) / c < 2305843009213693953 := (Int.ediv_lt_iff_lt_mul hc).2 (by omega)
        omega
      have cap := Qf9 (N / c) ((2 * r + x) / c) q hQ0 s0 s1 hq
      rw [← d1, ← hx] at cap
      rw [← hx] at d2
      have := ih k (if wrap64 (wrap64 (2 * q) + wrap64 ((2 * r + x) / c)) > 2305843009213693952 then 2305843009213693952 else wrap64 (wrap64 (2 * q) + wrap64 ((2 * r + x) / c))) ((2 * r + x) % c) (by omega) (by omega) cap d2.symm
      split at this
      · rw [if_pos (by assumption)]; exact this
      · rw [if_neg (by assumption)]; exact this
    simp only [QaB.l0]
    rw [e0, if_pos (by omega), w0, if_pos (by omega), esh, Int.tmod_eq_emod_of_nonneg hA, if_neg (show ¬ c = 0 by omega), if_neg (show ¬ c = 0 by omega), wrb, wr, wn]
    rw [Int.tdiv_eq_ediv_of_nonneg (show 0 ≤ 2 * r + b by omega), Int.tmod_eq_emod_of_nonneg (show 0 ≤ 2 * r + b by omega), Int.tdiv_eq_ediv_of_nonneg (show 0 ≤ 2 * r by omega), Int.tmod_eq_emod_of_nonneg (show 0 ≤ 2 * r by omega)]
    by_cases hbit : A % 2 = 1
    · rw [if_pos hbit]
      refine step b hb hb' ?_
      rw [← hN, hA2]
      have : A = 2 * (A / 2) + 1 := by omega
      grind
    · rw [if_neg hbit]
      have := step 0 (by omega) (by omega) (by
        rw [← hN, hA2]
        have : A = 2 * (A / 2) := by omega
        grind)
      rw [Int.add_zero] at this
      exact this
theorem QaB.eq (a b c : Int) (ha : 0 ≤ a) (ha' : a ≤ 1152921504606846976) (hb : 0 ≤ b) (hb' : b ≤ 1152921504606846976) (hc : 0 < c) (hc' : c ≤ 1152921504606846976) (k : Nat) (hk : 70 ≤ k) :
  QaB.f k a b c = some (if a * b / c ≤ 2305843009213693952 then a * b / c else 2305843009213693952, a * b % c) := by
 unfold QaB.f
 have h0 : a / 2 ^ 61 = 0 := Int.ediv_eq_zero_of_lt ha (by omega)
 exact QfC a b c ha ha' hb hb' hc hc' 61 k 0 0 (by omega) (by omega) (by rw [h0]; simp) (by rw [h0]; simp)
def Qbq.f (a0 : Int) : Option (Int) := if a0 < 0 then (some (wrap64 (-a0))) else (some a0)
set_option maxHeartbeats 8000000 in
theorem Qbq.calls (a0 : Int) (r : Int) (w : World) (h : Qbq.f a0 = some r) :
  Calls Try.prog 95 #[.int .i64 a0] w fun e w' => e = .returned (.int .i64 r) ∧ Drawn0 w w' := by
 have H : (if a0 < 0 then (some (wrap64 (-a0))) else (some a0)) = some r := h
 clear h
 by_cases c2 : a0 < 0
 ·rw [if_pos c2] at H
  have c2b0 : decide (a0 < 0) = F := decide_eq_true c2
  clear c2
  obtain rfl := Option.some.inj H
  go_enter Try.func95, Try.ntmps95
  go_wp2
  go_ret
  exact ⟨Zs, Zd⟩
 rw [if_neg c2] at H
 have c2b0 : decide (a0 < 0) = J := decide_eq_false c2
 clear c2
 obtain rfl := Option.some.inj H
 go_enter Try.func95, Try.ntmps95
 go_wp2
 go_ret
 exact ⟨Zs, Zd⟩
def QbH.f (a0 : Int) (a1 : Int) (a2 : Int) (a3 : Int) (a4 : Bool) : Option (Bool) := if a3 = 2 then (some F) else (if a3 = 3 then (some a4) else (if a3 = 4 then (some (!a4)) else (if a3 = 5 then (if a1 > (wrap64 (a2 - a1)) then (some F) else (if a1 = (wrap64 (a2 - a1)) then (some ((Int.tmod a0 2) == 1)) else (some J))) else (some J))))
set_option maxHeartbeats 8000000 in
theorem QbH.calls (a0 : Int) (a1 : Int) (a2 : Int) (a3 : Int) (a4 : Bool) (r : Bool) (w : World) (h : QbH.f a0 a1 a2 a3 a4 = some r) :
  Calls Try.prog 96 #[.int .i64 a0, .int .i64 a1, .int .i64 a2, .int .i64 a3, .bool a4] w fun e w' => e = .returned (.bool r) ∧ Drawn0 w w' := by
 have H : (if a3 = 2 then (some F) else (if a3 = 3 then (some a4) else (if a3 = 4 then (some (!a4)) else (if a3 = 5 then (if a1 > (wrap64 (a2 - a1)) then (some F) else (if a1 = (wrap64 (a2 - a1)) then (some ((Int.tmod a0 2) == 1)) else (some J))) else (some J))))) = some r := h
 clear h
 by_cases c6 : a3 = 2
 ·rw [if_pos c6] at H
  have c6b0 : (a3 == 2) = F := beq_iff_eq.mpr c6
  have c6b1 : (a3 != 2) = J := bne_eq_false_iff_eq.mpr c6
  clear c6
  obtain rfl := Option.some.inj H
  go_enter Try.func96, Try.ntmps96
  go_wp2
  go_ret
  exact ⟨Zs, Zd⟩
 rw [if_neg c6] at H
 have c6b0 : (a3 == 2) = J := beq_eq_false_iff_ne.mpr c6
 have c6b1 : (a3 != 2) = F := bne_iff_ne.mpr c6
 by_cases c7 : a3 = 3
 ·rw [if_pos c7] at H
  have c7b0 : (a3 == 3) = F := beq_iff_eq.mpr c7
  have c7b1 : (a3 != 3) = J := bne_eq_false_iff_eq.mpr c7
  clear c7
  obtain rfl := Option.some.inj H
  go_enter Try.func96, Try.ntmps96
  go_wp2
  go_ret
  exact ⟨Zs, Zd⟩
 rw [if_neg c7] at H
 have c7b0 : (a3 == 3) = J := beq_eq_false_iff_ne.mpr c7
 have c7b1 : (a3 != 3) = F := bne_iff_ne.mpr c7
 by_cases c8 : a3 = 4
 ·rw [if_pos c8] at H
  have c8b0 : (a3 == 4) = F := beq_iff_eq.mpr c8
  have c8b1 : (a3 != 4) = J := bne_eq_false_iff_eq.mpr c8
  clear c8
  obtain rfl := Option.some.inj H
  go_enter Try.func96, Try.ntmps96
  go_wp2
  go_ret
  exact ⟨Zs, Zd⟩
 rw [if_neg c8] at H
 have c8b0 : (a3 == 4) = J := beq_eq_false_iff_ne.mpr c8
 have c8b1 : (a3 != 4) = F := bne_iff_ne.mpr c8
 by_cases c9 : a3 = 5
 ·rw [if_pos c9] at H
  have c9b0 : (a3 == 5) = F := beq_iff_eq.mpr c9
  have c9b1 : (a3 != 5) = J := bne_eq_false_iff_eq.mpr c9
  clear c9
  by_cases c10 : a1 > (wrap64 (a2 - a1))
  ·rw [if_pos c10] at H
   have c10b0 : decide ((wrap64 (a2 - a1)) < a1) = F := decide_eq_true c10
   clear c10
   obtain rfl := Option.some.inj H
   go_enter Try.func96, Try.ntmps96
   go_wp2
   go_ret
   exact ⟨Zs, Zd⟩
  rw [if_neg c10] at H
  have c10b0 : decide ((wrap64 (a2 - a1)) < a1) = J := decide_eq_false c10
  clear c10
  by_cases c11 : a1 = (wrap64 (a2 - a1))
  ·rw [if_pos c11] at H
   have c11b0 : (a1 == (wrap64 (a2 - a1))) = F := beq_iff_eq.mpr c11
   have c11b1 : (a1 != (wrap64 (a2 - a1))) = J := bne_eq_false_iff_eq.mpr c11
   clear c11
   obtain rfl := Option.some.inj H
   go_enter Try.func96, Try.ntmps96
   go_wp2
   go_ret
   exact ⟨Zs, Zd⟩
  rw [if_neg c11] at H
  have c11b0 : (a1 == (wrap64 (a2 - a1))) = J := beq_eq_false_iff_ne.mpr c11
  have c11b1 : (a1 != (wrap64 (a2 - a1))) = F := bne_iff_ne.mpr c11
  obtain rfl := Option.some.inj H
  go_enter Try.func96, Try.ntmps96
  go_wp2
  go_ret
  exact ⟨Zs, Zd⟩
 rw [if_neg c9] at H
 have c9b0 : (a3 == 5) = J := beq_eq_false_iff_ne.mpr c9
 have c9b1 : (a3 != 5) = F := bne_iff_ne.mpr c9
 obtain rfl := Option.some.inj H
 go_enter Try.func96, Try.ntmps96
 go_wp2
 go_ret
 exact ⟨Zs, Zd⟩
set_option maxHeartbeats 4000000 in
theorem Qbd.bad (a0 a1 a2 a3 : Int) (w : World) (h : ¬ (mdFits a0 ∧ mdFits a1 ∧ mdFits a2 ∧ 1 ≤ a3 ∧ a3 ≤ 5)) :
  Calls Try.prog 58 #[.int .i64 a0, .int .i64 a1, .int .i64 a2, .int .i64 a3] w fun e w' => e = .returned (.tuple #[.int .i64 0, .int .i64 2]) ∧ w' = w := by
 rcases QcW a0 a1 a2 a3 h with h1 | h1 | ⟨⟨h1, h2⟩, h3⟩ | ⟨⟨h1, h2⟩, h3⟩ | ⟨⟨h1, h2⟩, ⟨h3, h4⟩, h5⟩ | ⟨⟨h1, h2⟩, ⟨h3, h4⟩, h5⟩ | ⟨⟨h1, h2⟩, ⟨h3, h4⟩, ⟨h5, h6⟩, h7⟩ | ⟨⟨h1, h2⟩, ⟨h3, h4⟩, ⟨h5, h6⟩, h7⟩
 all_goals
  clear h
  go_enter Try.func58, Try.ntmps58
  go_wp2
  go_ret2
  exact ⟨rfl, rfl⟩
set_option maxHeartbeats 4000000 in
theorem Qbd.z (a0 a1 a2 a3 : Int) (w : World) (h1 : -1152921504606846976 ≤ a0) (h2 : a0 ≤ 1152921504606846976) (h3 : -1152921504606846976 ≤ a1) (h4 : a1 ≤ 1152921504606846976)
  (h5 : -1152921504606846976 ≤ a2) (h6 : a2 ≤ 1152921504606846976) (hc : (a2 == 0) = F) (m1 : 1 ≤ a3) (m2 : a3 ≤ 5) :
  Calls Try.prog 58 #[.int .i64 a0, .int .i64 a1, .int .i64 a2, .int .i64 a3] w fun e w' => e = .returned (.tuple #[.int .i64 0, .int .i64 4]) ∧ Below w.heap.size w w' := by
 go_enter Try.func58, Try.ntmps58
 go_wp2_with (go_at_call 93; go_in)
 go_ret2
 exact ⟨rfl, Below.refl _ _⟩
theorem QcP (a : Int) (h1 : -1152921504606846976 ≤ a) : Qbq.f a = some (a.natAbs : Int) := by
 unfold Qbq.f wrap64
 split <;> (congr 1; omega)
def rmQ (Q R : Int) (av : Bool) : Int := if 0 < R ∧ av = F then Q + 1 else Q
def rmRes (q : Int) (bl : Bool) : Int × Int := if 1152921504606846976 < q then (0, 3) else (if bl = F then -q else q, 0)
theorem rm_end {q n er : Int} {bl : Bool} (h : rmRes q bl = (n, er)) : Ending.returned (.tuple #[.int .i64 n, .int .i64 er]) = .returned (.tuple #[.int .i64 (rmRes q bl).1, .int .i64 (rmRes q bl).2]) := by rw [h]
set_option maxHeartbeats 4000000 in
theorem Qbd.main (a0 a1 a2 a3 : Int) (w : World) (h1 : -1152921504606846976 ≤ a0) (h2 : a0 ≤ 1152921504606846976) (h3 : -1152921504606846976 ≤ a1) (h4 : a1 ≤ 1152921504606846976)
  (h5 : -1152921504606846976 ≤ a2) (h6 : a2 ≤ 1152921504606846976) (hc : (a2 == 0) = J) (m1 : 1 ≤ a3) (m2 : a3 ≤ 5) (Q R : Int) (bl av : Bool)
  (fb : (!((!(decide (a0 < 0) == decide (a1 < 0))) == decide (a2 < 0))) = bl) (hQ : Aside0 (QaB.f 70 a0.natAbs a1.natAbs a2.natAbs = some (Q, R)))
  (hav : Aside0 (QbH.f Q R a2.natAbs a3 bl = some av)) (hQ0 : 0 ≤ Q) (hQ1 : Q ≤ 2305843009213693952) :
  Calls Try.prog 58 #[.int .i64 a0, .int .i64 a1, .int .i64 a2, .int .i64 a3] w fun e w' => e = .returned (.tuple #[.int .i64 (rmRes (rmQ Q R av) bl).1, .int .i64 (rmRes (rmQ Q R av) bl).2]) ∧ Below w.heap.size w w' := by
 by_cases hR : 0 < R
 ·cases av
  ·have eq : rmQ Q R J = Q := by unfold rmQ; rw [if_neg (by simp)]
   rw [eq]; clear eq
   go_enter Try.func58, Try.ntmps58
   go_wp2_with (first | (go_at_call 93; go_in) | (go_at_call 95; refine (Qbq.calls _ _ _ (QcP _ (by omega))).mono ?_; rintro e w1 ⟨rfl, ⟨nd, rfl⟩⟩) | (go_at_call 94; refine (QaB.calls 70 _ _ _ _ _ _ hQ.out).mono ?_; rintro e w1 ⟨rfl, ⟨nd, rfl⟩⟩) | (go_at_call 96; refine (QbH.calls _ _ _ _ _ _ _ hav.out).mono ?_; rintro e w1 ⟨rfl, ⟨nd, rfl⟩⟩))
   all_goals go_ret2
   all_goals refine ⟨rm_end ?_, by repeat (first | exact Below.refl _ _ | apply Qae | apply Qb6)⟩
   all_goals go_light
   ·exact if_pos (by omega)
   ·exact (if_neg (by omega)).trans (by rw [if_pos (by first | rfl | assumption)])
   exact (if_neg (by omega)).trans (by rw [if_neg (by first | (simp; done) | (simp; assumption))])
  have eq : rmQ Q R F = Q + 1 := by unfold rmQ; rw [if_pos ⟨hR, rfl⟩]
  rw [eq]; clear eq
  go_enter Try.func58, Try.ntmps58
  go_wp2_with (first | (go_at_call 93; go_in) | (go_at_call 95; refine (Qbq.calls _ _ _ (QcP _ (by omega))).mono ?_; rintro e w1 ⟨rfl, ⟨nd, rfl⟩⟩) | (go_at_call 94; refine (QaB.calls 70 _ _ _ _ _ _ hQ.out).mono ?_; rintro e w1 ⟨rfl, ⟨nd, rfl⟩⟩) | (go_at_call 96; refine (QbH.calls _ _ _ _ _ _ _ hav.out).mono ?_; rintro e w1 ⟨rfl, ⟨nd, rfl⟩⟩))
  all_goals go_ret2
  all_goals refine ⟨rm_end ?_, by repeat (first | exact Below.refl _ _ | apply Qae | apply Qb6)⟩
  all_goals go_light
  ·exact if_pos (by omega)
  ·exact (if_neg (by omega)).trans (by rw [if_pos (by first | rfl | assumption)])
  exact (if_neg (by omega)).trans (by rw [if_neg (by first | (simp; done) | (simp; assumption))])
 have eq : rmQ Q R av = Q := by unfold rmQ; rw [if_neg (fun h => hR h.1)]
 rw [eq]; clear eq
 have hR' : R ≤ 0 := by omega
 clear hR
 go_enter Try.func58, Try.ntmps58
 go_wp2_with (first | (go_at_call 93; go_in) | (go_at_call 95; refine (Qbq.calls _ _ _ (QcP _ (by omega))).mono ?_; rintro e w1 ⟨rfl, ⟨nd, rfl⟩⟩) | (go_at_call 94; refine (QaB.calls 70 _ _ _ _ _ _ hQ.out).mono ?_; rintro e w1 ⟨rfl, ⟨nd, rfl⟩⟩) | (go_at_call 96; refine (QbH.calls _ _ _ _ _ _ _ hav.out).mono ?_; rintro e w1 ⟨rfl, ⟨nd, rfl⟩⟩))
 all_goals go_ret2
 all_goals refine ⟨rm_end ?_, by repeat (first | exact Below.refl _ _ | apply Qae | apply Qb6)⟩
 all_goals go_light
 ·exact if_pos (by omega)
 ·exact (if_neg (by omega)).trans (by rw [if_pos (by first | rfl | assumption)])
 exact (if_neg (by omega)).trans (by rw [if_neg (by first | (simp; done) | (simp; assumption))])
theorem QfD (Q R c mode : Int) (bl : Bool) (h0 : 0 ≤ Q) (hR : 0 ≤ R) (hc : R < c) (hc' : c ≤ 1152921504606846976) (m1 : 1 ≤ mode) (m2 : mode ≤ 5) : QbH.f Q R c mode bl = some (mdAway mode bl Q R c) := by
 have hw : wrap64 (c - R) = c - R := by unfold wrap64; omega
 have ht : Int.tmod Q 2 = Q % 2 := Int.tmod_eq_emod_of_nonneg h0
 unfold QbH.f mdAway
 rw [hw, ht]
 obtain rfl | rfl | rfl | rfl | rfl : mode = 1 ∨ mode = 2 ∨ mode = 3 ∨ mode = 4 ∨ mode = 5 := by omega
 ·rfl
 ·rfl
 ·cases bl <;> rfl
 ·cases bl <;> rfl
 by_cases g1 : R > c - R
 ·rw [if_neg (by omega), if_neg (by omega), if_neg (by omega), if_pos rfl, if_pos g1, decide_eq_true (show c - R < R from g1)]; rfl
 rw [if_neg (by omega), if_neg (by omega), if_neg (by omega), if_pos rfl, if_neg g1, decide_eq_false (show ¬ c - R < R from g1)]
 by_cases g2 : R = c - R
 ·rw [if_pos g2, decide_eq_true g2]
  by_cases g3 : Q % 2 = 1
  ·rw [g3]; rfl
  rw [decide_eq_false g3, beq_eq_false_iff_ne.mpr g3]; rfl
 rw [if_neg g2, decide_eq_false g2]; rfl
def Qbd.f (a0 a1 a2 a3 : Int) : Option (Int × Int) := Qa4.f a0 a1 a2 a3
theorem Qbd.calls (a0 a1 a2 a3 r1 r2 : Int) (w : World) (h : Qbd.f a0 a1 a2 a3 = some (r1, r2)) :
  Calls Try.prog 58 #[.int .i64 a0, .int .i64 a1, .int .i64 a2, .int .i64 a3] w fun e w' => e = .returned (.tuple #[.int .i64 r1, .int .i64 r2]) ∧ Below w.heap.size w w' := by
 unfold Qbd.f Qa4.f at h
 by_cases c : mdFits a0 ∧ mdFits a1 ∧ mdFits a2 ∧ 1 ≤ a3 ∧ a3 ≤ 5
 ·rw [if_pos c] at h
  obtain ⟨⟨c1, c2⟩, ⟨c3, c4⟩, ⟨c5, c6⟩, c7, c8⟩ := c
  by_cases d : a2 = 0
  ·rw [if_pos d] at h
   have h' := Option.some.inj h
   simp only [Prod.mk.injEq] at h'
   obtain ⟨rfl, rfl⟩ := h'
   exact Qbd.z a0 a1 a2 a3 w c1 c2 c3 c4 c5 c6 (by simpa using d) c7 c8
  rw [if_neg d] at h
  have h' := Option.some.inj h
  have e1 : (mdRes a0 a1 a2 a3).1 = r1 := by rw [h']
  have e2 : (mdRes a0 a1 a2 a3).2 = r2 := by rw [h']
  rw [← e1, ← e2]
  have hq0 : 0 ≤ (a0.natAbs : Int) * a1.natAbs / a2.natAbs := Int.ediv_nonneg (Int.mul_nonneg (by omega) (by omega)) (by omega)
  have hr0 := Int.emod_nonneg ((a0.natAbs : Int) * a1.natAbs) (b := (a2.natAbs : Int)) (by omega)
  have hr1 := Int.emod_lt_of_pos ((a0.natAbs : Int) * a1.natAbs) (b := (a2.natAbs : Int)) (by omega)
  have eq := QaB.eq a0.natAbs a1.natAbs a2.natAbs (by omega) (by omega) (by omega) (by omega) (by omega) (by omega) 70 (by omega)
  have em : rmRes (rmQ (if (a0.natAbs : Int) * a1.natAbs / a2.natAbs ≤ 2305843009213693952 then (a0.natAbs : Int) * a1.natAbs / a2.natAbs else 2305843009213693952) ((a0.natAbs : Int) * a1.natAbs % a2.natAbs)
    (mdAway a3 (QbK a0 a1 a2) (if (a0.natAbs : Int) * a1.natAbs / a2.natAbs ≤ 2305843009213693952 then (a0.natAbs : Int) * a1.natAbs / a2.natAbs else 2305843009213693952) ((a0.natAbs : Int) * a1.natAbs % a2.natAbs) a2.natAbs)) (QbK a0 a1 a2) = mdRes a0 a1 a2 a3 := by
   by_cases g : (a0.natAbs : Int) * a1.natAbs / a2.natAbs ≤ 2305843009213693952
   ·rw [if_pos g]; rfl
   rw [if_neg g]
   unfold rmRes mdRes
   rw [if_pos (by unfold rmQ; split <;> omega), if_pos (by unfold mdQ; split <;> omega)]
  rw [← em]
  refine Qbd.main a0 a1 a2 a3 w c1 c2 c3 c4 c5 c6 (by simpa using d) c7 c8 _ _ _ _ rfl (Aside0.mk eq) (Aside0.mk (QfD _ _ _ _ _ ?_ hr0 hr1 (by omega) c7 c8)) ?_ ?_
  ·split <;> omega
  ·split <;> omega
  split <;> omega
 rw [if_neg c] at h
 have h' := Option.some.inj h
 simp only [Prod.mk.injEq] at h'
 obtain ⟨rfl, rfl⟩ := h'
 refine (Qbd.bad a0 a1 a2 a3 w c).mono ?_
 rintro e w' ⟨rfl, rfl⟩
 exact ⟨rfl, Below.refl _ _⟩
def Qap.f (a0 : Int) (a1 : Int) (a2 : Int) : Option (Bool) := if a0 ≥ a1 then (some (decide (a0 ≤ a2))) else (some J)
set_option maxHeartbeats 8000000 in
theorem Qap.calls (a0 : Int) (a1 : Int) (a2 : Int) (r : Bool) (w : World) (h : Qap.f a0 a1 a2 = some r) :
  Calls Try.prog 104 #[.int .i64 a0, .int .i64 a1, .int .i64 a2] w fun e w' => e = .returned (.bool r) ∧ Drawn0 w w' := by
 have H : (if a0 ≥ a1 then (some (decide (a0 ≤ a2))) else (some J)) = some r := h
 clear h
 by_cases c4 : a0 ≥ a1
 ·rw [if_pos c4] at H
  have c4b0 : decide (a1 ≤ a0) = F := decide_eq_true c4
  clear c4
  obtain rfl := Option.some.inj H
  go_enter Try.func104, Try.ntmps104
  go_wp2
  go_ret
  exact ⟨Zs, Zd⟩
 rw [if_neg c4] at H
 have c4b0 : decide (a1 ≤ a0) = J := decide_eq_false c4
 clear c4
 obtain rfl := Option.some.inj H
 go_enter Try.func104, Try.ntmps104
 go_wp2
 go_ret
 exact ⟨Zs, Zd⟩
def Qaw.l0 : Nat → ByteArray → Int → Option (Bool)
 | 0, _, _ => none
 | k + 1, x0, x3 => if x3 < (x0.size : Int) then (if 0 ≤ x3 then (if (bt x0 x3) ≥ 97 then (if ((bt x0 x3) ≤ 122) then (Qaw.l0 k x0 (wrap64 (x3 + 1))) else (if x3 = 0 then (some J) else (if (bt x0 x3) < 48 then (some J) else (if (bt x0 x3) > 57 then (some J) else (Qaw.l0 k x0 (wrap64 (x3 + 1))))))) else (if x3 = 0 then (some J) else (if (bt x0 x3) < 48 then (some J) else (if (bt x0 x3) > 57 then (some J) else (Qaw.l0 k x0 (wrap64 (x3 + 1))))))) else (none)) else (if (x0.size : Int) > 0 then (some (decide ((x0.size : Int) ≤ 12))) else (some J))
def Qaw.f (k : Nat) (a0 : ByteArray) : Option (Bool) := Qaw.l0 k a0 0
theorem Qaw.mono_l : ∀ k, (∀ y0 y1, LeO (Qaw.l0 k y0 y1) (Qaw.l0 (k + 1) y0 y1))
 | 0 => fun _ _ r h => by simp [Qaw.l0] at h
 | k + 1 => by
  have ih0 := Qaw.mono_l k
  intro y0 y1
  unfold Qaw.l0
  exact ZM1 ih0
theorem Qaw.mono : ∀ a0 k, LeO (Qaw.f k a0) (Qaw.f (k + 1) a0) := by
 intro a0 k
 have ih0 := Qaw.mono_l k
 unfold Qaw.f
 exact ZM1 ih0
set_option maxHeartbeats 8000000 in
theorem Qaw.calls (k : Nat) (a0 : ByteArray) (r : Bool) (w : World) (h : Qaw.f k a0 = some r) :
  Calls Try.prog 99 #[.string a0] w fun e w' => e = .returned (.bool r) ∧ Drawn0 w w' := by
 have H : (Qaw.l0 k a0 0) = some r := h
 clear h
 have H' := Aside0.mk H
 clear H
 go_enter Try.func99, Try.ntmps99
 go_wp2
 go_loopg [3] k (fun kq v3 w' => ∃ (x3_1 : Int), v3 = .int .i64 x3_1 ∧ Aside0 (Qaw.l0 kq a0 x3_1 = some r) ∧ Aside0 (kq ≤ k) ∧ Drawn0 w w')
 case atStart => exact ⟨(0), (Zs), H', ⟨Nat.le_refl _⟩, Zd⟩
 case round =>
  clear H'
  obtain ⟨x3_1, rfl, HA, HK1, ⟨m1, rfl⟩⟩ := hrel
  cases gk with
  | zero => exact absurd HA.out (by simp [Qaw.l0])
  | succ k1 =>
   have H := HA.out
   clear HA
   simp only [Qaw.l0] at H
   by_cases c2 : x3_1 < (a0.size : Int)
   ·rw [if_pos c2] at H
    have c2b0 : decide (x3_1 < (a0.size : Int)) = F := decide_eq_true c2
    clear c2
    (try simp only [c2b0])
    by_cases c3 : 0 ≤ x3_1
    ·rw [if_pos c3] at H
     have c3b0 : decide (0 ≤ x3_1) = F := decide_eq_true c3
     clear c3
     by_cases c5 : (bt a0 x3_1) ≥ 97
     ·rw [if_pos c5] at H
      have c5b0 : decide (97 ≤ (bt a0 x3_1)) = F := decide_eq_true c5
      clear c5
      have p4 : 0 ≤ (x3_1 : Int) := Ze
      have q4 : x3_1 < (a0.size : Int) := Ze
      have hx4 := bt_at a0 x3_1
      replace p4 := eq_true p4
      replace q4 := eq_true q4
      have p6 : 0 ≤ (x3_1 : Int) := Ze
      have q6 : x3_1 < (a0.size : Int) := Ze
      have hx6 := bt_at a0 x3_1
      replace p6 := eq_true p6
      replace q6 := eq_true q6
      go_upto_region 5 with (fail)
      by_cases c7 : ((bt a0 x3_1) ≤ 122)
      ·rw [if_pos c7] at H
       have c7b0 : decide ((bt a0 x3_1) ≤ 122) = F := decide_eq_true c7
       clear c7
       (try simp only [c7b0])
       have H' := Aside0.mk H
       clear H
       go_wp2
       go_roundg k1
       case measure => have := HK1.out; omega
       case rel => exact ⟨(wrap64 (x3_1 + 1)), (Zs), H', ⟨by have := HK1.out; omega⟩, Zd⟩
      rw [if_neg c7] at H
      have c7b0 : decide ((bt a0 x3_1) ≤ 122) = J := decide_eq_false c7
      clear c7
      (try simp only [c7b0])
      by_cases c8 : x3_1 = 0
      ·rw [if_pos c8] at H
       have c8b0 : (x3_1 == 0) = F := beq_iff_eq.mpr c8
       have c8b1 : (x3_1 != 0) = J := bne_eq_false_iff_eq.mpr c8
       clear c8
       obtain rfl := Option.some.inj H
       go_wp2
       go_ret
       exact ⟨Zs, Zd⟩
      rw [if_neg c8] at H
      have c8b0 : (x3_1 == 0) = J := beq_eq_false_iff_ne.mpr c8
      have c8b1 : (x3_1 != 0) = F := bne_iff_ne.mpr c8
      by_cases c10 : (bt a0 x3_1) < 48
      ·rw [if_pos c10] at H
       have c10b0 : decide ((bt a0 x3_1) < 48) = F := decide_eq_true c10
       clear c10
       obtain rfl := Option.some.inj H
       have p9 : 0 ≤ (x3_1 : Int) := Ze
       have q9 : x3_1 < (a0.size : Int) := Ze
       have hx9 := bt_at a0 x3_1
       replace p9 := eq_true p9
       replace q9 := eq_true q9
       go_wp2
       go_ret
       exact ⟨Zs, Zd⟩
      rw [if_neg c10] at H
      have c10b0 : decide ((bt a0 x3_1) < 48) = J := decide_eq_false c10
      clear c10
      have p9 : 0 ≤ (x3_1 : Int) := Ze
      have q9 : x3_1 < (a0.size : Int) := Ze
      have hx9 := bt_at a0 x3_1
      replace p9 := eq_true p9
      replace q9 := eq_true q9
      have p11 : 0 ≤ (x3_1 : Int) := Ze
      have q11 : x3_1 < (a0.size : Int) := Ze
      have hx11 := bt_at a0 x3_1
      replace p11 := eq_true p11
      replace q11 := eq_true q11
      go_upto_if 38 with (fail)
      by_cases c12 : (bt a0 x3_1) > 57
      ·rw [if_pos c12] at H
       have c12b0 : decide (57 < (bt a0 x3_1)) = F := decide_eq_true c12
       clear c12
       (try simp only [c12b0])
       obtain rfl := Option.some.inj H
       go_wp2
       go_ret
       exact ⟨Zs, Zd⟩
      rw [if_neg c12] at H
      have c12b0 : decide (57 < (bt a0 x3_1)) = J := decide_eq_false c12
      clear c12
      (try simp only [c12b0])
      have H' := Aside0.mk H
      clear H
      go_wp2
      go_roundg k1
      case measure => have := HK1.out; omega
      case rel => exact ⟨(wrap64 (x3_1 + 1)), (Zs), H', ⟨by have := HK1.out; omega⟩, Zd⟩
     rw [if_neg c5] at H
     have c5b0 : decide (97 ≤ (bt a0 x3_1)) = J := decide_eq_false c5
     clear c5
     have p4 : 0 ≤ (x3_1 : Int) := Ze
     have q4 : x3_1 < (a0.size : Int) := Ze
     have hx4 := bt_at a0 x3_1
     replace p4 := eq_true p4
     replace q4 := eq_true q4
     go_upto_region 5 with (fail)
     by_cases c13 : x3_1 = 0
     ·rw [if_pos c13] at H
      have c13b0 : (x3_1 == 0) = F := beq_iff_eq.mpr c13
      have c13b1 : (x3_1 != 0) = J := bne_eq_false_iff_eq.mpr c13
      clear c13
      (try simp only [c13b0, c13b1])
      obtain rfl := Option.some.inj H
      go_wp2
      go_ret
      exact ⟨Zs, Zd⟩
     rw [if_neg c13] at H
     have c13b0 : (x3_1 == 0) = J := beq_eq_false_iff_ne.mpr c13
     have c13b1 : (x3_1 != 0) = F := bne_iff_ne.mpr c13
     (try simp only [c13b0, c13b1])
     by_cases c15 : (bt a0 x3_1) < 48
     ·rw [if_pos c15] at H
      have c15b0 : decide ((bt a0 x3_1) < 48) = F := decide_eq_true c15
      clear c15
      obtain rfl := Option.some.inj H
      have p14 : 0 ≤ (x3_1 : Int) := Ze
      have q14 : x3_1 < (a0.size : Int) := Ze
      have hx14 := bt_at a0 x3_1
      replace p14 := eq_true p14
      replace q14 := eq_true q14
      go_wp2
      go_ret
      exact ⟨Zs, Zd⟩
     rw [if_neg c15] at H
     have c15b0 : decide ((bt a0 x3_1) < 48) = J := decide_eq_false c15
     clear c15
     have p14 : 0 ≤ (x3_1 : Int) := Ze
     have q14 : x3_1 < (a0.size : Int) := Ze
     have hx14 := bt_at a0 x3_1
     replace p14 := eq_true p14
     replace q14 := eq_true q14
     have p16 : 0 ≤ (x3_1 : Int) := Ze
     have q16 : x3_1 < (a0.size : Int) := Ze
     have hx16 := bt_at a0 x3_1
     replace p16 := eq_true p16
     replace q16 := eq_true q16
     go_upto_if 38 with (fail)
     by_cases c17 : (bt a0 x3_1) > 57
     ·rw [if_pos c17] at H
      have c17b0 : decide (57 < (bt a0 x3_1)) = F := decide_eq_true c17
      clear c17
      (try simp only [c17b0])
      obtain rfl := Option.some.inj H
      go_wp2
      go_ret
      exact ⟨Zs, Zd⟩
     rw [if_neg c17] at H
     have c17b0 : decide (57 < (bt a0 x3_1)) = J := decide_eq_false c17
     clear c17
     (try simp only [c17b0])
     have H' := Aside0.mk H
     clear H
     go_wp2
     go_roundg k1
     case measure => have := HK1.out; omega
     case rel => exact ⟨(wrap64 (x3_1 + 1)), (Zs), H', ⟨by have := HK1.out; omega⟩, Zd⟩
    rw [if_neg c3] at H
    exact absurd H (by simp)
   rw [if_neg c2] at H
   have c2b0 : decide (x3_1 < (a0.size : Int)) = J := decide_eq_false c2
   clear c2
   (try simp only [c2b0])
   by_cases c18 : (a0.size : Int) > 0
   ·rw [if_pos c18] at H
    have c18b0 : decide (0 < (a0.size : Int)) = F := decide_eq_true c18
    have c18b1 : decide (0 < a0.size) = F := decide_eq_true (by omega)
    clear c18
    obtain rfl := Option.some.inj H
    go_wp2
    go_ret
    exact ⟨Zs, Zd⟩
   rw [if_neg c18] at H
   have c18b0 : decide (0 < (a0.size : Int)) = J := decide_eq_false c18
   have c18b1 : decide (0 < a0.size) = J := decide_eq_false (by omega)
   clear c18
   obtain rfl := Option.some.inj H
   go_wp2
   go_ret
   exact ⟨Zs, Zd⟩
def Qbb.f (k : Nat) (a0_0 : ByteArray) (a0_1 : Int) (a0_2 : Int) (a0_3 : Int) (a0_4 : Int) (a0_5 : Int) : Option (Int) := (Qaw.f k a0_0).bind fun t342 => (if t342 = F then ((Qap.f a0_1 1 3).bind fun t343 => (if t343 = F then ((Qap.f a0_2 0 7).bind fun t344 => (if t344 = F then ((Qap.f a0_3 1 68719476736).bind fun t345 => (if t345 = F then (if a0_1 = 1 then (if a0_3 = 1 then ((Qap.f a0_4 0 1000).bind fun t346 => (if t346 = F then ((Qap.f a0_5 0 1000).bind fun t347 => (if t347 = F then (some 0) else (some 2))) else (some 2))) else (some 2)) else ((Qap.f a0_4 0 1000).bind fun t348 => (if t348 = F then ((Qap.f a0_5 0 1000).bind fun t349 => (if t349 = F then (some 0) else (some 2))) else (some 2)))) else (some 2))) else (some 25))) else (some 2))) else (some 10))
theorem Qbb.mono : ∀ a0 a1 a2 a3 a4 a5 k, LeO (Qbb.f k a0 a1 a2 a3 a4 a5) (Qbb.f (k + 1) a0 a1 a2 a3 a4 a5) := by
 intro a0 a1 a2 a3 a4 a5 k
 unfold Qbb.f
 exact ZM1 Qaw.mono
set_option maxHeartbeats 8000000 in
theorem Qbb.calls (k : Nat) (a0_0 : ByteArray) (a0_1 : Int) (a0_2 : Int) (a0_3 : Int) (a0_4 : Int) (a0_5 : Int) (r : Int) (w : World) (h : Qbb.f k a0_0 a0_1 a0_2 a0_3 a0_4 a0_5 = some r) :
  Calls Try.prog 102 #[.agg #[.string a0_0, .int .i64 a0_1, .int .i64 a0_2, .int .i64 a0_3, .int .i64 a0_4, .int .i64 a0_5]] w fun e w' => e = .returned (.int .i64 r) ∧ Below w.heap.size w w' := by
 have hu84 := Try.underlying84
 have HB := Aside0.mk (Below.refl w.heap.size w)
 have H : ((Qaw.f k a0_0).bind fun t342 => (if t342 = F then ((Qap.f a0_1 1 3).bind fun t343 => (if t343 = F then ((Qap.f a0_2 0 7).bind fun t344 => (if t344 = F then ((Qap.f a0_3 1 68719476736).bind fun t345 => (if t345 = F then (if a0_1 = 1 then (if a0_3 = 1 then ((Qap.f a0_4 0 1000).bind fun t346 => (if t346 = F then ((Qap.f a0_5 0 1000).bind fun t347 => (if t347 = F then (some 0) else (some 2))) else (some 2))) else (some 2)) else ((Qap.f a0_4 0 1000).bind fun t348 => (if t348 = F then ((Qap.f a0_5 0 1000).bind fun t349 => (if t349 = F then (some 0) else (some 2))) else (some 2)))) else (some 2))) else (some 25))) else (some 2))) else (some 10))) = some r := h
 clear h
 replace H := Option.bind_eq_some_iff.mp H
 obtain ⟨t342, A20, H⟩ := H
 replace H : (if t342 = F then ((Qap.f a0_1 1 3).bind fun t343 => (if t343 = F then ((Qap.f a0_2 0 7).bind fun t344 => (if t344 = F then ((Qap.f a0_3 1 68719476736).bind fun t345 => (if t345 = F then (if a0_1 = 1 then (if a0_3 = 1 then ((Qap.f a0_4 0 1000).bind fun t346 => (if t346 = F then ((Qap.f a0_5 0 1000).bind fun t347 => (if t347 = F then (some 0) else (some 2))) else (some 2))) else (some 2)) else ((Qap.f a0_4 0 1000).bind fun t348 => (if t348 = F then ((Qap.f a0_5 0 1000).bind fun t349 => (if t349 = F then (some 0) else (some 2))) else (some 2)))) else (some 2))) else (some 25))) else (some 2))) else (some 10)) = some r := H
 have A2 := Aside0.mk A20
 clear A20
 go_enter Try.func102, Try.ntmps102
 go_upto_if 3 with (first | ((with_reducible refine QaJ (N := 1) rfl ?_); refine Zbx (N := 1) (cs := #[.string a0_0, .int .i64 a0_1, .int .i64 a0_2, .int .i64 a0_3, .int .i64 a0_4, .int .i64 a0_5]) (t := 84) ?_; intro gb341 hg w3 hbox hb; have BK341 := Aside0.mk (hbox); have GW341 := Aside0.mk (Zt w hg (Zb)); have GE341 := GW341; replace HB := Aside0.mk (Qao (Zb) hb); clear hb hbox hg; obtain ⟨hcz4_0, hfz4_0⟩ := Zy (v := (.string a0_0)) BK341.out 0; obtain ⟨hcz4_1, hfz4_1⟩ := Zy (v := (.int .i64 a0_1)) BK341.out 1; obtain ⟨hcz4_2, hfz4_2⟩ := Zy (v := (.int .i64 a0_2)) BK341.out 2; obtain ⟨hcz4_3, hfz4_3⟩ := Zy (v := (.int .i64 a0_3)) BK341.out 3; obtain ⟨hcz4_4, hfz4_4⟩ := Zy (v := (.int .i64 a0_4)) BK341.out 4; obtain ⟨hcz4_5, hfz4_5⟩ := Zy (v := (.int .i64 a0_5)) BK341.out 5) | ((with_reducible refine Qax (f := 99) rfl ?_); refine goesL_ (some 6) rfl rfl Try.func99 (by kernel_rfl) rfl #[.string a0_0] rfl (Zl) ?_; (with_reducible refine (Qaw.calls k a0_0 t342 _ A2.out).mono ?_); rintro e w' ⟨rfl, ⟨nd, rfl⟩⟩; refine ⟨_, rfl, ?_⟩))
 (try simp only [Act.put, Zj, Zk, Zm])
 by_cases c5 : t342 = F
 ·subst c5
  have H1 : ((Qap.f a0_1 1 3).bind fun t343 => (if t343 = F then ((Qap.f a0_2 0 7).bind fun t344 => (if t344 = F then ((Qap.f a0_3 1 68719476736).bind fun t345 => (if t345 = F then (if a0_1 = 1 then (if a0_3 = 1 then ((Qap.f a0_4 0 1000).bind fun t346 => (if t346 = F then ((Qap.f a0_5 0 1000).bind fun t347 => (if t347 = F then (some 0) else (some 2))) else (some 2))) else (some 2)) else ((Qap.f a0_4 0 1000).bind fun t348 => (if t348 = F then ((Qap.f a0_5 0 1000).bind fun t349 => (if t349 = F then (some 0) else (some 2))) else (some 2)))) else (some 2))) else (some 25))) else (some 2))) = some r := by rw [if_pos rfl] at H; exact H
  clear H
  have H := H1
  clear H1
  replace H := Option.bind_eq_some_iff.mp H
  obtain ⟨t343, A60, H⟩ := H
  replace H : (if t343 = F then ((Qap.f a0_2 0 7).bind fun t344 => (if t344 = F then ((Qap.f a0_3 1 68719476736).bind fun t345 => (if t345 = F then (if a0_1 = 1 then (if a0_3 = 1 then ((Qap.f a0_4 0 1000).bind fun t346 => (if t346 = F then ((Qap.f a0_5 0 1000).bind fun t347 => (if t347 = F then (some 0) else (some 2))) else (some 2))) else (some 2)) else ((Qap.f a0_4 0 1000).bind fun t348 => (if t348 = F then ((Qap.f a0_5 0 1000).bind fun t349 => (if t349 = F then (some 0) else (some 2))) else (some 2)))) else (some 2))) else (some 25))) else (some 2)) = some r := H
  have A6 := Aside0.mk A60
  clear A60
  obtain ⟨hcz7_0, hfz7_0⟩ := Zy (v := (.string a0_0)) BK341.out 0
  obtain ⟨hcz7_1, hfz7_1⟩ := Zy (v := (.int .i64 a0_1)) BK341.out 1
  obtain ⟨hcz7_2, hfz7_2⟩ := Zy (v := (.int .i64 a0_2)) BK341.out 2
  obtain ⟨hcz7_3, hfz7_3⟩ := Zy (v := (.int .i64 a0_3)) BK341.out 3
  obtain ⟨hcz7_4, hfz7_4⟩ := Zy (v := (.int .i64 a0_4)) BK341.out 4
  obtain ⟨hcz7_5, hfz7_5⟩ := Zy (v := (.int .i64 a0_5)) BK341.out 5
  go_upto_if 8 with (first | ((with_reducible refine Qax (f := 104) rfl ?_); refine goesL_ (some 11) rfl rfl Try.func104 (by kernel_rfl) rfl #[.int .i64 a0_1, .int .i64 1, .int .i64 3] rfl (Zl) ?_; (with_reducible refine (Qap.calls a0_1 1 3 t343 _ A6.out).mono ?_); rintro e w' ⟨rfl, ⟨nd, rfl⟩⟩; refine ⟨_, rfl, ?_⟩))
  (try simp only [Act.put, Zj, Zk, Zm])
  by_cases c8 : t343 = F
  ·subst c8
   have H1 : ((Qap.f a0_2 0 7).bind fun t344 => (if t344 = F then ((Qap.f a0_3 1 68719476736).bind fun t345 => (if t345 = F then (if a0_1 = 1 then (if a0_3 = 1 then ((Qap.f a0_4 0 1000).bind fun t346 => (if t346 = F then ((Qap.f a0_5 0 1000).bind fun t347 => (if t347 = F then (some 0) else (some 2))) else (some 2))) else (some 2)) else ((Qap.f a0_4 0 1000).bind fun t348 => (if t348 = F then ((Qap.f a0_5 0 1000).bind fun t349 => (if t349 = F then (some 0) else (some 2))) else (some 2)))) else (some 2))) else (some 25))) = some r := by rw [if_pos rfl] at H; exact H
   clear H
   have H := H1
   clear H1
   replace H := Option.bind_eq_some_iff.mp H
   obtain ⟨t344, A90, H⟩ := H
   replace H : (if t344 = F then ((Qap.f a0_3 1 68719476736).bind fun t345 => (if t345 = F then (if a0_1 = 1 then (if a0_3 = 1 then ((Qap.f a0_4 0 1000).bind fun t346 => (if t346 = F then ((Qap.f a0_5 0 1000).bind fun t347 => (if t347 = F then (some 0) else (some 2))) else (some 2))) else (some 2)) else ((Qap.f a0_4 0 1000).bind fun t348 => (if t348 = F then ((Qap.f a0_5 0 1000).bind fun t349 => (if t349 = F then (some 0) else (some 2))) else (some 2)))) else (some 2))) else (some 25)) = some r := H
   have A9 := Aside0.mk A90
   clear A90
   obtain ⟨hcz10_0, hfz10_0⟩ := Zy (v := (.string a0_0)) BK341.out 0
   obtain ⟨hcz10_1, hfz10_1⟩ := Zy (v := (.int .i64 a0_1)) BK341.out 1
   obtain ⟨hcz10_2, hfz10_2⟩ := Zy (v := (.int .i64 a0_2)) BK341.out 2
   obtain ⟨hcz10_3, hfz10_3⟩ := Zy (v := (.int .i64 a0_3)) BK341.out 3
   obtain ⟨hcz10_4, hfz10_4⟩ := Zy (v := (.int .i64 a0_4)) BK341.out 4
   obtain ⟨hcz10_5, hfz10_5⟩ := Zy (v := (.int .i64 a0_5)) BK341.out 5
   go_upto_if 13 with (first | ((with_reducible refine Qax (f := 104) rfl ?_); refine goesL_ (some 16) rfl rfl Try.func104 (by kernel_rfl) rfl #[.int .i64 a0_2, .int .i64 0, .int .i64 7] rfl (Zl) ?_; (with_reducible refine (Qap.calls a0_2 0 7 t344 _ A9.out).mono ?_); rintro e w' ⟨rfl, ⟨nd, rfl⟩⟩; refine ⟨_, rfl, ?_⟩))
   (try simp only [Act.put, Zj, Zk, Zm])
   by_cases c11 : t344 = F
   ·subst c11
    have H1 : ((Qap.f a0_3 1 68719476736).bind fun t345 => (if t345 = F then (if a0_1 = 1 then (if a0_3 = 1 then ((Qap.f a0_4 0 1000).bind fun t346 => (if t346 = F then ((Qap.f a0_5 0 1000).bind fun t347 => (if t347 = F then (some 0) else (some 2))) else (some 2))) else (some 2)) else ((Qap.f a0_4 0 1000).bind fun t348 => (if t348 = F then ((Qap.f a0_5 0 1000).bind fun t349 => (if t349 = F then (some 0) else (some 2))) else (some 2)))) else (some 2))) = some r := by rw [if_pos rfl] at H; exact H
    clear H
    have H := H1
    clear H1
    replace H := Option.bind_eq_some_iff.mp H
    obtain ⟨t345, A120, H⟩ := H
    replace H : (if t345 = F then (if a0_1 = 1 then (if a0_3 = 1 then ((Qap.f a0_4 0 1000).bind fun t346 => (if t346 = F then ((Qap.f a0_5 0 1000).bind fun t347 => (if t347 = F then (some 0) else (some 2))) else (some 2))) else (some 2)) else ((Qap.f a0_4 0 1000).bind fun t348 => (if t348 = F then ((Qap.f a0_5 0 1000).bind fun t349 => (if t349 = F then (some 0) else (some 2))) else (some 2)))) else (some 2)) = some r := H
    have A12 := Aside0.mk A120
    clear A120
    by_cases c13 : t345 = F
    ·subst c13
     have H1 : (if a0_1 = 1 then (if a0_3 = 1 then ((Qap.f a0_4 0 1000).bind fun t346 => (if t346 = F then ((Qap.f a0_5 0 1000).bind fun t347 => (if t347 = F then (some 0) else (some 2))) else (some 2))) else (some 2)) else ((Qap.f a0_4 0 1000).bind fun t348 => (if t348 = F then ((Qap.f a0_5 0 1000).bind fun t349 => (if t349 = F then (some 0) else (some 2))) else (some 2)))) = some r := by rw [if_pos rfl] at H; exact H
     clear H
     have H := H1
     clear H1
     by_cases c14 : a0_1 = 1
     ·rw [if_pos c14] at H
      have c14b0 : (a0_1 == 1) = F := beq_iff_eq.mpr c14
      have c14b1 : (a0_1 != 1) = J := bne_eq_false_iff_eq.mpr c14
      clear c14
      by_cases c15 : a0_3 = 1
      ·rw [if_pos c15] at H
       have c15b0 : (a0_3 == 1) = F := beq_iff_eq.mpr c15
       have c15b1 : (a0_3 != 1) = J := bne_eq_false_iff_eq.mpr c15
       clear c15
       replace H := Option.bind_eq_some_iff.mp H
       obtain ⟨t346, A160, H⟩ := H
       replace H : (if t346 = F then ((Qap.f a0_5 0 1000).bind fun t347 => (if t347 = F then (some 0) else (some 2))) else (some 2)) = some r := H
       have A16 := Aside0.mk A160
       clear A160
       by_cases c17 : t346 = F
       ·subst c17
        have H1 : ((Qap.f a0_5 0 1000).bind fun t347 => (if t347 = F then (some 0) else (some 2))) = some r := by rw [if_pos rfl] at H; exact H
        clear H
        have H := H1
        clear H1
        replace H := Option.bind_eq_some_iff.mp H
        obtain ⟨t347, A180, H⟩ := H
        replace H : (if t347 = F then (some 0) else (some 2)) = some r := H
        have A18 := Aside0.mk A180
        clear A180
        obtain ⟨hcz19_0, hfz19_0⟩ := Zy (v := (.string a0_0)) BK341.out 0
        obtain ⟨hcz19_1, hfz19_1⟩ := Zy (v := (.int .i64 a0_1)) BK341.out 1
        obtain ⟨hcz19_2, hfz19_2⟩ := Zy (v := (.int .i64 a0_2)) BK341.out 2
        obtain ⟨hcz19_3, hfz19_3⟩ := Zy (v := (.int .i64 a0_3)) BK341.out 3
        obtain ⟨hcz19_4, hfz19_4⟩ := Zy (v := (.int .i64 a0_4)) BK341.out 4
        obtain ⟨hcz19_5, hfz19_5⟩ := Zy (v := (.int .i64 a0_5)) BK341.out 5
        go_upto_if 18 with (first | ((with_reducible refine Qax (f := 104) rfl ?_); refine goesL_ (some 21) rfl rfl Try.func104 (by kernel_rfl) rfl #[.int .i64 a0_3, .int .i64 1, .int .i64 68719476736] rfl (Zl) ?_; (with_reducible refine (Qap.calls a0_3 1 68719476736 F _ A12.out).mono ?_); rintro e w' ⟨rfl, ⟨nd, rfl⟩⟩; refine ⟨_, rfl, ?_⟩) | (go_at_call 104; (with_reducible refine (Qap.calls a0_4 0 1000 F _ A16.out).mono ?_); rintro e w' ⟨rfl, ⟨nd, rfl⟩⟩) | (go_at_call 104; (with_reducible refine (Qap.calls a0_5 0 1000 t347 _ A18.out).mono ?_); rintro e w' ⟨rfl, ⟨nd, rfl⟩⟩))
        (try simp only [Act.put, Zj, Zk, Zm])
        by_cases c20 : t347 = F
        ·subst c20
         have H1 : (some 0) = some r := by rw [if_pos rfl] at H; exact H
         clear H
         have H := H1
         clear H1
         obtain rfl := Option.some.inj H
         go_wp2
         go_ret
         exact ⟨Zq, Zc1 GE341.out⟩
        replace c20 := Bool.eq_false_iff.mpr c20
        subst c20
        have H1 : (some 2) = some r := by rw [if_neg (show ¬ (J = F) by decide)] at H; exact H
        clear H
        have H := H1
        clear H1
        obtain rfl := Option.some.inj H
        go_wp2
        go_ret
        exact ⟨Zq, Zc1 GE341.out⟩
       replace c17 := Bool.eq_false_iff.mpr c17
       subst c17
       have H1 : (some 2) = some r := by rw [if_neg (show ¬ (J = F) by decide)] at H; exact H
       clear H
       have H := H1
       clear H1
       obtain rfl := Option.some.inj H
       obtain ⟨hcz21_0, hfz21_0⟩ := Zy (v := (.string a0_0)) BK341.out 0
       obtain ⟨hcz21_1, hfz21_1⟩ := Zy (v := (.int .i64 a0_1)) BK341.out 1
       obtain ⟨hcz21_2, hfz21_2⟩ := Zy (v := (.int .i64 a0_2)) BK341.out 2
       obtain ⟨hcz21_3, hfz21_3⟩ := Zy (v := (.int .i64 a0_3)) BK341.out 3
       obtain ⟨hcz21_4, hfz21_4⟩ := Zy (v := (.int .i64 a0_4)) BK341.out 4
       obtain ⟨hcz21_5, hfz21_5⟩ := Zy (v := (.int .i64 a0_5)) BK341.out 5
       go_wp2_with (first | ((with_reducible refine Qax (f := 104) rfl ?_); refine goesL_ (some 21) rfl rfl Try.func104 (by kernel_rfl) rfl #[.int .i64 a0_3, .int .i64 1, .int .i64 68719476736] rfl (Zl) ?_; (with_reducible refine (Qap.calls a0_3 1 68719476736 F _ A12.out).mono ?_); rintro e w' ⟨rfl, ⟨nd, rfl⟩⟩; refine ⟨_, rfl, ?_⟩) | (go_at_call 104; (with_reducible refine (Qap.calls a0_4 0 1000 J _ A16.out).mono ?_); rintro e w' ⟨rfl, ⟨nd, rfl⟩⟩))
       go_ret
       exact ⟨Zq, Zc1 GE341.out⟩
      rw [if_neg c15] at H
      have c15b0 : (a0_3 == 1) = J := beq_eq_false_iff_ne.mpr c15
      have c15b1 : (a0_3 != 1) = F := bne_iff_ne.mpr c15
      obtain rfl := Option.some.inj H
      obtain ⟨hcz22_0, hfz22_0⟩ := Zy (v := (.string a0_0)) BK341.out 0
      obtain ⟨hcz22_1, hfz22_1⟩ := Zy (v := (.int .i64 a0_1)) BK341.out 1
      obtain ⟨hcz22_2, hfz22_2⟩ := Zy (v := (.int .i64 a0_2)) BK341.out 2
      obtain ⟨hcz22_3, hfz22_3⟩ := Zy (v := (.int .i64 a0_3)) BK341.out 3
      obtain ⟨hcz22_4, hfz22_4⟩ := Zy (v := (.int .i64 a0_4)) BK341.out 4
      obtain ⟨hcz22_5, hfz22_5⟩ := Zy (v := (.int .i64 a0_5)) BK341.out 5
      go_wp2_with (first | ((with_reducible refine Qax (f := 104) rfl ?_); refine goesL_ (some 21) rfl rfl Try.func104 (by kernel_rfl) rfl #[.int .i64 a0_3, .int .i64 1, .int .i64 68719476736] rfl (Zl) ?_; (with_reducible refine (Qap.calls a0_3 1 68719476736 F _ A12.out).mono ?_); rintro e w' ⟨rfl, ⟨nd, rfl⟩⟩; refine ⟨_, rfl, ?_⟩))
      go_ret
      exact ⟨Zq, Zc1 GE341.out⟩
     rw [if_neg c14] at H
     have c14b0 : (a0_1 == 1) = J := beq_eq_false_iff_ne.mpr c14
     have c14b1 : (a0_1 != 1) = F := bne_iff_ne.mpr c14
     replace H := Option.bind_eq_some_iff.mp H
     obtain ⟨t348, A230, H⟩ := H
     replace H : (if t348 = F then ((Qap.f a0_5 0 1000).bind fun t349 => (if t349 = F then (some 0) else (some 2))) else (some 2)) = some r := H
     have A23 := Aside0.mk A230
     clear A230
     by_cases c24 : t348 = F
     ·subst c24
      have H1 : ((Qap.f a0_5 0 1000).bind fun t349 => (if t349 = F then (some 0) else (some 2))) = some r := by rw [if_pos rfl] at H; exact H
      clear H
      have H := H1
      clear H1
      replace H := Option.bind_eq_some_iff.mp H
      obtain ⟨t349, A250, H⟩ := H
      replace H : (if t349 = F then (some 0) else (some 2)) = some r := H
      have A25 := Aside0.mk A250
      clear A250
      obtain ⟨hcz26_0, hfz26_0⟩ := Zy (v := (.string a0_0)) BK341.out 0
      obtain ⟨hcz26_1, hfz26_1⟩ := Zy (v := (.int .i64 a0_1)) BK341.out 1
      obtain ⟨hcz26_2, hfz26_2⟩ := Zy (v := (.int .i64 a0_2)) BK341.out 2
      obtain ⟨hcz26_3, hfz26_3⟩ := Zy (v := (.int .i64 a0_3)) BK341.out 3
      obtain ⟨hcz26_4, hfz26_4⟩ := Zy (v := (.int .i64 a0_4)) BK341.out 4
      obtain ⟨hcz26_5, hfz26_5⟩ := Zy (v := (.int .i64 a0_5)) BK341.out 5
      go_upto_if 18 with (first | ((with_reducible refine Qax (f := 104) rfl ?_); refine goesL_ (some 21) rfl rfl Try.func104 (by kernel_rfl) rfl #[.int .i64 a0_3, .int .i64 1, .int .i64 68719476736] rfl (Zl) ?_; (with_reducible refine (Qap.calls a0_3 1 68719476736 F _ A12.out).mono ?_); rintro e w' ⟨rfl, ⟨nd, rfl⟩⟩; refine ⟨_, rfl, ?_⟩) | (go_at_call 104; (with_reducible refine (Qap.calls a0_4 0 1000 F _ A23.out).mono ?_); rintro e w' ⟨rfl, ⟨nd, rfl⟩⟩) | (go_at_call 104; (with_reducible refine (Qap.calls a0_5 0 1000 t349 _ A25.out).mono ?_); rintro e w' ⟨rfl, ⟨nd, rfl⟩⟩))
      (try simp only [Act.put, Zj, Zk, Zm])
      by_cases c27 : t349 = F
      ·subst c27
       have H1 : (some 0) = some r := by rw [if_pos rfl] at H; exact H
       clear H
       have H := H1
       clear H1
       obtain rfl := Option.some.inj H
       go_wp2
       go_ret
       exact ⟨Zq, Zc1 GE341.out⟩
      replace c27 := Bool.eq_false_iff.mpr c27
      subst c27
      have H1 : (some 2) = some r := by rw [if_neg (show ¬ (J = F) by decide)] at H; exact H
      clear H
      have H := H1
      clear H1
      obtain rfl := Option.some.inj H
      go_wp2
      go_ret
      exact ⟨Zq, Zc1 GE341.out⟩
     replace c24 := Bool.eq_false_iff.mpr c24
     subst c24
     have H1 : (some 2) = some r := by rw [if_neg (show ¬ (J = F) by decide)] at H; exact H
     clear H
     have H := H1
     clear H1
     obtain rfl := Option.some.inj H
     obtain ⟨hcz28_0, hfz28_0⟩ := Zy (v := (.string a0_0)) BK341.out 0
     obtain ⟨hcz28_1, hfz28_1⟩ := Zy (v := (.int .i64 a0_1)) BK341.out 1
     obtain ⟨hcz28_2, hfz28_2⟩ := Zy (v := (.int .i64 a0_2)) BK341.out 2
     obtain ⟨hcz28_3, hfz28_3⟩ := Zy (v := (.int .i64 a0_3)) BK341.out 3
     obtain ⟨hcz28_4, hfz28_4⟩ := Zy (v := (.int .i64 a0_4)) BK341.out 4
     obtain ⟨hcz28_5, hfz28_5⟩ := Zy (v := (.int .i64 a0_5)) BK341.out 5
     go_wp2_with (first | ((with_reducible refine Qax (f := 104) rfl ?_); refine goesL_ (some 21) rfl rfl Try.func104 (by kernel_rfl) rfl #[.int .i64 a0_3, .int .i64 1, .int .i64 68719476736] rfl (Zl) ?_; (with_reducible refine (Qap.calls a0_3 1 68719476736 F _ A12.out).mono ?_); rintro e w' ⟨rfl, ⟨nd, rfl⟩⟩; refine ⟨_, rfl, ?_⟩) | (go_at_call 104; (with_reducible refine (Qap.calls a0_4 0 1000 J _ A23.out).mono ?_); rintro e w' ⟨rfl, ⟨nd, rfl⟩⟩))
     go_ret
     exact ⟨Zq, Zc1 GE341.out⟩
    replace c13 := Bool.eq_false_iff.mpr c13
    subst c13
    have H1 : (some 2) = some r := by rw [if_neg (show ¬ (J = F) by decide)] at H; exact H
    clear H
    have H := H1
    clear H1
    obtain rfl := Option.some.inj H
    obtain ⟨hcz29_0, hfz29_0⟩ := Zy (v := (.string a0_0)) BK341.out 0
    obtain ⟨hcz29_1, hfz29_1⟩ := Zy (v := (.int .i64 a0_1)) BK341.out 1
    obtain ⟨hcz29_2, hfz29_2⟩ := Zy (v := (.int .i64 a0_2)) BK341.out 2
    obtain ⟨hcz29_3, hfz29_3⟩ := Zy (v := (.int .i64 a0_3)) BK341.out 3
    obtain ⟨hcz29_4, hfz29_4⟩ := Zy (v := (.int .i64 a0_4)) BK341.out 4
    obtain ⟨hcz29_5, hfz29_5⟩ := Zy (v := (.int .i64 a0_5)) BK341.out 5
    go_wp2_with (first | ((with_reducible refine Qax (f := 104) rfl ?_); refine goesL_ (some 21) rfl rfl Try.func104 (by kernel_rfl) rfl #[.int .i64 a0_3, .int .i64 1, .int .i64 68719476736] rfl (Zl) ?_; (with_reducible refine (Qap.calls a0_3 1 68719476736 J _ A12.out).mono ?_); rintro e w' ⟨rfl, ⟨nd, rfl⟩⟩; refine ⟨_, rfl, ?_⟩))
    go_ret
    exact ⟨Zq, Zc1 GE341.out⟩
   replace c11 := Bool.eq_false_iff.mpr c11
   subst c11
   have H1 : (some 25) = some r := by rw [if_neg (show ¬ (J = F) by decide)] at H; exact H
   clear H
   have H := H1
   clear H1
   obtain rfl := Option.some.inj H
   go_wp2
   go_ret
   exact ⟨Zq, Zc1 GE341.out⟩
  replace c8 := Bool.eq_false_iff.mpr c8
  subst c8
  have H1 : (some 2) = some r := by rw [if_neg (show ¬ (J = F) by decide)] at H; exact H
  clear H
  have H := H1
  clear H1
  obtain rfl := Option.some.inj H
  go_wp2
  go_ret
  exact ⟨Zq, Zc1 GE341.out⟩
 replace c5 := Bool.eq_false_iff.mpr c5
 subst c5
 have H1 : (some 10) = some r := by rw [if_neg (show ¬ (J = F) by decide)] at H; exact H
 clear H
 have H := H1
 clear H1
 obtain rfl := Option.some.inj H
 go_wp2
 go_ret
 exact ⟨Zq, Zc1 GE341.out⟩
def Qbm.f (a0 : Int) : Option (Bool) := if a0 ≥ (-1152921504606846976) then (some (decide (a0 ≤ 1152921504606846976))) else (some J)
set_option maxHeartbeats 8000000 in
theorem Qbm.calls (a0 : Int) (r : Bool) (w : World) (h : Qbm.f a0 = some r) :
  Calls Try.prog 93 #[.int .i64 a0] w fun e w' => e = .returned (.bool r) ∧ Drawn0 w w' := by
 have H : (if a0 ≥ (-1152921504606846976) then (some (decide (a0 ≤ 1152921504606846976))) else (some J)) = some r := h
 clear h
 by_cases c2 : a0 ≥ (-1152921504606846976)
 ·rw [if_pos c2] at H
  have c2b0 : decide ((-1152921504606846976) ≤ a0) = F := decide_eq_true c2
  clear c2
  obtain rfl := Option.some.inj H
  go_enter Try.func93, Try.ntmps93
  go_wp2
  go_ret
  exact ⟨Zs, Zd⟩
 rw [if_neg c2] at H
 have c2b0 : decide ((-1152921504606846976) ≤ a0) = J := decide_eq_false c2
 clear c2
 obtain rfl := Option.some.inj H
 go_enter Try.func93, Try.ntmps93
 go_wp2
 go_ret
 exact ⟨Zs, Zd⟩
end Go.Proofs.Ytfcaaefdmabkhaa.Pr
