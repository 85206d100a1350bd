/- Functions' values and contracts, as the print wrote them. -/
import Derived.Test.YtfcaaefdmabkhaaProg
import Derived.Below
import Derived.Deep.Draws
import Derived.Deep.AppendLies
import Derived.Maps.AppendAt
import Derived.OwnWalk
import Derived.Laws.BytesArg
import Derived.Laws.MakeOwn
import Derived.Laws.OwnMore
import Derived.Deep.OwnRows
import Derived.Tactics
import Derived.Lib.ConvBytes
import Derived.Laws.Slices
import Derived.WalkKit
import Derived.KernelRfl
import Derived.RowKit3
import Derived.Deep.LoopGhost
import Derived.Deep.QuietTactic
import Derived.BigQuiet
import Derived.WideLaws
import Derived.Deep.DeepCutAuto
import Derived.Deep.CutBlock
import Derived.Deep.RegionHeld3
import Derived.Laws.Rows
import Derived.Lib.AppendStr
import Derived.ArgAppend
import Derived.Laws.IdiomCopy
import Derived.OrdersHeld
import Derived.Laws.BitsLemmas
import Derived.RowKit
import Derived.Laws.Cover1
import Derived.Lib.BitFns
import Derived.Lib.ItoaNum
import Derived.Deep.Light
import Derived.Lib.LazyBuf
import Derived.Lib.Mul64
import Derived.Laws.Bits64b
import Derived.Lib.Small
import Derived.Lib.Walk
import Derived.Lib.Strings
import Derived.Lib.Slices
import Derived.Maps.OwnSet
import Derived.Test.YtfcaaefdmabkhaaQEB3WWords
import Derived.Test.YtfcaaefdmabkhaaQEB3WLast
import Derived.Test.YtfcaaefdmabkhaaQEB3WTab
import Derived.Test.YtfcaaefdmabkhaaQEB3WApart
import Derived.Test.YtfcaaefdmabkhaaQEB3WFoot
import Derived.Test.YtfcaaefdmabkhaaQEB3WKept
import Derived.Test.YtfcaaefdmabkhaaQEB3WShare
import Derived.Test.YtfcaaefdmabkhaaQEB3WN
import Derived.Test.YtfcaaefdmabkhaaQEB3WEqStruct
import Derived.Test.YtfcaaefdmabkhaaQEB3WRepsOne
import Derived.Test.YtfcaaefdmabkhaaQEB3WInv
import Derived.Test.YtfcaaefdmabkhaaQEB3WGuard
import Derived.Test.YtfcaaefdmabkhaaQEB3WMore
namespace Go.Proofs.Ytfcaaefdmabkhaa.Pr
open Bool renaming true → T
open Bool renaming false → F
open Go.RowKit Go.Proofs.YtfcaaefdmabkhaaW.PrintWords Go.Proofs.YtfcaaefdmabkhaaW.PrintLast Go.Proofs.YtfcaaefdmabkhaaW.PrintMore
attribute [local go_sem] QaN QaP QaT QaU QaH QaI QaO QaQ   -- for this text's walks alone
set_option linter.unusedVariables false
set_option linter.unusedSimpArgs false
set_option maxRecDepth 100000
def errW : Option Int → Value
 | none => .nilIface
 | some c => .iface 0 (.int .i64 c)
theorem Qaj : errW none = .nilIface := rfl
theorem Qak (c : Int) : errW (some c) = .iface 0 (.int .i64 c) := rfl
theorem gate_n {P : Program} {ops : Array Oper} {rest : List Oper} {o : Oper} {a : Act} {Q : Exit → Act → World → Prop} {W : World} {n : Nat} (_h : a.tmps.size = n) (h : wpList P ops Q (o :: rest) a W) : wpList P ops Q (o :: rest) a W := h
theorem QcK {P : Program} (w : World) (g : Nat) (t ty : TypeId) (v : Value) (fr : Nat × Nat) (d : TypeDesc) (hg : w.heap[g]? = some (.cells #[v] t fr))
  (hu : P.underlying ty = some d) (hd : (match d with | .struct _ | .array _ _ => T | _ => F) = F) (hi : (P.info? ty).map (·.size) = some 1) : (loadVar ty ⟨g, 0, none⟩).run P w = .ok v w := by
 have hc : w.cell? ⟨g, 0, none⟩ = some v := cell_of_row w g 0 #[v] t fr hg
 have hagg : (isAgg ty).run P w = .ok F w := by
  unfold isAgg
  simp [run_underlying hu]
  cases d <;> first | rfl | (simp at hd)
 cases hq : P.info? ty with
 | none => simp [hq] at hi
 | some i =>
  have hs : i.size = 1 := by simpa [hq] using hi
  simp [loadVar, sizeOf, typeInfo, hq, hs, hagg, hc]
theorem QbO {P : Program} {fn : Func} {p u : Tmp} {ty : TypeId} (h : fn.results = #[.cell p ty, .tmp u]) (tmps : Array Value) (w : World) (g : Nat) (t : TypeId) (v : Value) (fr : Nat × Nat) (d : TypeDesc)
  (hp : tmps.getD p undef = .pointer (some ⟨g, 0, none⟩)) (hg : w.heap[g]? = some (.cells #[v] t fr))
  (hu : P.underlying ty = some d) (hd : (match d with | .struct _ | .array _ _ => T | _ => F) = F) (hi : (P.info? ty).map (·.size) = some 1) :
  (results fn tmps).run P w = .ok (.tuple #[v, tmps.getD u undef]) w := by
 have hp' : tmps[p]?.getD undef = .pointer (some ⟨g, 0, none⟩) := by simpa using hp
 simp [results, h, hp', asAddr, QcK w g t ty v fr d hg hu hd hi]
def MapI (P : Program) (K E : TypeId) (w : World) (B n : Nat) (f : Int → Int) : Prop :=
 ∃ D : DataW Unit, w.ownsMap P K (plainElem P E) B n D ∧ ∀ x, (Lit.int .i64 x).wf = T → D.atKey (.int .i64 x) (.lit (.int .i64 0)) = .lit (.int .i64 (f x))
theorem MapI.blk {P : Program} {K E : TypeId} {w : World} {B n : Nat} {f : Int → Int} (h : MapI P K E w B n f) : ∃ es c, w.heap[B]? = some (.map es c) := by
 obtain ⟨D, ⟨es, c, hb, _⟩, _⟩ := h
 exact ⟨es, c, hb⟩
theorem MapI.move {P : Program} {K E : TypeId} {w w' : World} {B n : Nat} {f : Int → Int} (h : MapI P K E w B n f) (hm : B < w.heap.size → w'.heap[B]? = w.heap[B]?) : MapI P K E w' B n f := by
 obtain ⟨D, ⟨es, c, hb, r⟩, hf⟩ := h
 exact ⟨D, ⟨es, c, (hm (blk_lt hb)).trans hb, r⟩, hf⟩
theorem MapI.below {P : Program} {K E : TypeId} {w w' : World} {B n : Nat} {f : Int → Int} (h : MapI P K E w B n f) (hb : Below w.heap.size w w') : MapI P K E w' B n f := h.move (fun hl => hb.block B hl)
theorem MapI.grown {P : Program} {K E : TypeId} {w w' : World} {B n : Nat} {f : Int → Int} (h : MapI P K E w B n f) {row : Option Nat} (hg : w.grownBy w' row) (hne : some B ≠ row) : MapI P K E w' B n f := h.move (fun hl => hg.block B hl hne)
theorem MapI.set {P : Program} {K E : TypeId} {w : World} {B n : Nat} {f : Int → Int} (h : MapI P K E w B n f) {p : Addr} (hp : B ≠ p.block) (u : Value) : MapI P K E (w.setCell p u) B n f := h.move (fun _ => Below.heap_setCell w p u B hp)
theorem MapI.drewN {P : Program} {K E : TypeId} {w : World} {B n : Nat} {f : Int → Int} (h : MapI P K E w B n f) (m : Nat) : MapI P K E (w.drewN m) B n f := h.move (fun _ => rfl)
theorem MapI.drew {P : Program} {K E : TypeId} {w : World} {B n : Nat} {f : Int → Int} (h : MapI P K E w B n f) : MapI P K E w.drew B n f := h.move (fun _ => rfl)
theorem MapI.alloc {P : Program} {K E : TypeId} {w : World} {B n : Nat} {f : Int → Int} (h : MapI P K E w B n f) (o : Obj) : MapI P K E (w.alloc o) B n f := h.below (Qaf (Below.refl _ _) o)
theorem MapI.apart {P : Program} {K E : TypeId} {w : World} {B n : Nat} {f : Int → Int} (h : MapI P K E w B n f) {α : Type} {d : Kd α} {e base : Nat} {ok : Nat → Prop} {v : Value} {xs : List α} (hr : d.R e w base ok v xs) : d.R e w base (fun k => ok k ∧ k ≠ B) v xs :=
 Kd.R_mono (Kd.R_bound hr) (fun k hk => ⟨hk.1, by
  obtain ⟨_, _, _, q, _, cells, hc⟩ := hk
  obtain ⟨es, c, hb⟩ := h.blk
  rintro rfl
  rw [hb] at hc
  cases hc⟩)
def mdFits (n : Int) : Prop := -1152921504606846976 ≤ n ∧ n ≤ 1152921504606846976
def mdAway (mode : Int) (below : Bool) (q r c : Int) : Bool :=
 decide (mode = 2) || (decide (mode = 3) && below) || (decide (mode = 4) && !below) || (decide (mode = 5) && (decide (c - r < r) || (decide (r = c - r) && decide (q % 2 = 1))))
def Qbm (a b c : Int) : Bool := !((!(decide (a < 0) == decide (b < 0))) == decide (c < 0))
def mdQ (a b c mode : Int) : Int :=
 if 0 < (a.natAbs : Int) * b.natAbs % c.natAbs ∧ mdAway mode (Qbm a b c) ((a.natAbs : Int) * b.natAbs / c.natAbs) ((a.natAbs : Int) * b.natAbs % c.natAbs) c.natAbs = T then (a.natAbs : Int) * b.natAbs / c.natAbs + 1
 else (a.natAbs : Int) * b.natAbs / c.natAbs
def mdRes (a b c mode : Int) : Int × Int :=
 if 1152921504606846976 < mdQ a b c mode then (0, 3) else (if Qbm a b c = T then -mdQ a b c mode else mdQ a b c mode, 0)
instance (n : Int) : Decidable (mdFits n) := inferInstanceAs (Decidable (_ ∧ _))
theorem Qdo (a0 a1 a2 a3 : Int) (h : ¬ (mdFits a0 ∧ mdFits a1 ∧ mdFits a2 ∧ 1 ≤ a3 ∧ a3 ≤ 5)) :
  (a0 < -1152921504606846976) ∨ (1152921504606846976 < a0) ∨
  ((-1152921504606846976 ≤ a0 ∧ a0 ≤ 1152921504606846976) ∧ (a1 < -1152921504606846976)) ∨ ((-1152921504606846976 ≤ a0 ∧ a0 ≤ 1152921504606846976) ∧ (1152921504606846976 < a1)) ∨
  ((-1152921504606846976 ≤ a0 ∧ a0 ≤ 1152921504606846976) ∧ (-1152921504606846976 ≤ a1 ∧ a1 ≤ 1152921504606846976) ∧ (a2 < -1152921504606846976)) ∨
  ((-1152921504606846976 ≤ a0 ∧ a0 ≤ 1152921504606846976) ∧ (-1152921504606846976 ≤ a1 ∧ a1 ≤ 1152921504606846976) ∧ (1152921504606846976 < a2)) ∨
  ((-1152921504606846976 ≤ a0 ∧ a0 ≤ 1152921504606846976) ∧ (-1152921504606846976 ≤ a1 ∧ a1 ≤ 1152921504606846976) ∧ (-1152921504606846976 ≤ a2 ∧ a2 ≤ 1152921504606846976) ∧ a3 < 1) ∨
  ((-1152921504606846976 ≤ a0 ∧ a0 ≤ 1152921504606846976) ∧ (-1152921504606846976 ≤ a1 ∧ a1 ≤ 1152921504606846976) ∧ (-1152921504606846976 ≤ a2 ∧ a2 ≤ 1152921504606846976) ∧ 5 < a3) := by
 unfold mdFits at h; omega
theorem info3 : (Try.prog.info? 3).map (fun i => (i.zero, i.size, i.bytes)) = some (some (.int .i64 0), 1, 8) := by kernel_rfl
theorem info46 : (Try.prog.info? 46).map (fun i => (i.zero, i.size, i.bytes)) = some (some (.agg #[(.string ⟨#[]⟩), (.string ⟨#[]⟩), (.string ⟨#[]⟩), (.int .i64 0)]), 4, 56) := by kernel_rfl
theorem info50 : (Try.prog.info? 50).map (fun i => (i.zero, i.size, i.bytes)) = some (some (.agg #[(.string ⟨#[]⟩), (.string ⟨#[]⟩), (.int .i64 0), (.int .i64 0), (.int .i64 0)]), 5, 56) := by kernel_rfl
structure S84 where
 f0 : ByteArray
 f1 : Int
 f2 : Int
 f3 : Int
 f4 : Int
 f5 : Int
def z84 : S84 := ⟨(⟨#[]⟩ : ByteArray), (0 : Int), (0 : Int), (0 : Int), (0 : Int), (0 : Int)⟩
def k84 : Kd S84 := Kd.iso (Kd.pair Kd.string (Kd.pair (Kd.int .i64) (Kd.pair (Kd.int .i64) (Kd.pair (Kd.int .i64) (Kd.pair (Kd.int .i64) (Kd.int .i64)))))) (fun x : S84 => (x.f0, x.f1, x.f2, x.f3, x.f4, x.f5))
theorem QeF {w : World} {x : S84} {cs : List Value} (h : k84.K w x cs) : cs = [.string x.f0, .int .i64 x.f1, .int .i64 x.f2, .int .i64 x.f3, .int .i64 x.f4, .int .i64 x.f5] := by
 obtain ⟨_, _, rfl, rfl, ⟨_, _, rfl, rfl, ⟨_, _, rfl, rfl, ⟨_, _, rfl, rfl, ⟨_, _, rfl, rfl, rfl⟩⟩⟩⟩⟩ := h
 exact rfl
theorem QcT (w : World) (base : Nat) (ok : Nat → Prop) (x : S84)  : k84.M w base ok x [.string x.f0, .int .i64 x.f1, .int .i64 x.f2, .int .i64 x.f3, .int .i64 x.f4, .int .i64 x.f5] := ⟨[.string x.f0], [.int .i64 x.f1, .int .i64 x.f2, .int .i64 x.f3, .int .i64 x.f4, .int .i64 x.f5], rfl, rfl, ⟨[.int .i64 x.f1], [.int .i64 x.f2, .int .i64 x.f3, .int .i64 x.f4, .int .i64 x.f5], rfl, rfl, ⟨[.int .i64 x.f2], [.int .i64 x.f3, .int .i64 x.f4, .int .i64 x.f5], rfl, rfl, ⟨[.int .i64 x.f3], [.int .i64 x.f4, .int .i64 x.f5], rfl, rfl, ⟨[.int .i64 x.f4], [.int .i64 x.f5], rfl, rfl, rfl⟩⟩⟩⟩⟩
def rd_T84 (xs : List S84) (i : Int) : S84 := xs.getD i.toNat z84
theorem at_T84 {w : World} {A : Option Addr} {n : Nat} {xs : List S84} (h : Kd.C k84 w A n xs) (i : Int) (h0 : 0 ≤ i) (h1 : i < n) : ∃ ad , A = some ad ∧ w.cell? (ad.add (i.toNat * 6)) = some (.string (rd_T84 xs i).f0) ∧ w.cell? ⟨(ad.add (i.toNat * 6)).block, (ad.add (i.toNat * 6)).off + 1, none⟩ = some (.int .i64 (rd_T84 xs i).f1) ∧ w.cell? ⟨(ad.add (i.toNat * 6)).block, (ad.add (i.toNat * 6)).off + 2, none⟩ = some (.int .i64 (rd_T84 xs i).f2) ∧ w.cell? ⟨(ad.add (i.toNat * 6)).block, (ad.add (i.toNat * 6)).off + 3, none⟩ = some (.int .i64 (rd_T84 xs i).f3) ∧ w.cell? ⟨(ad.add (i.toNat * 6)).block, (ad.add (i.toNat * 6)).off + 4, none⟩ = some (.int .i64 (rd_T84 xs i).f4) ∧ w.cell? ⟨(ad.add (i.toNat * 6)).block, (ad.add (i.toNat * 6)).off + 5, none⟩ = some (.int .i64 (rd_T84 xs i).f5) := by
 obtain ⟨ad, c, e, _, hK, hc0⟩ := Kd.C_get h z84 i h0 h1
 have hc : ∀ j u, c[j]? = some u → w.cell? (ad.add (i.toNat * 6 + j)) = some u := hc0
 obtain rfl := QeF hK
 exact ⟨ad, e, hc 0 _ rfl, by rw [← Qba _ _ 1 (by omega)]; exact hc 1 _ rfl, by rw [← Qba _ _ 2 (by omega)]; exact hc 2 _ rfl, by rw [← Qba _ _ 3 (by omega)]; exact hc 3 _ rfl, by rw [← Qba _ _ 4 (by omega)]; exact hc 4 _ rfl, by rw [← Qba _ _ 5 (by omega)]; exact hc 5 _ rfl⟩
structure S98 where
 f0 : ByteArray
 f1 : Int
def z98 : S98 := ⟨(⟨#[]⟩ : ByteArray), (0 : Int)⟩
def k98 : Kd S98 := Kd.iso (Kd.pair Kd.string (Kd.int .i64)) (fun x : S98 => (x.f0, x.f1))
theorem QeG {w : World} {x : S98} {cs : List Value} (h : k98.K w x cs) : cs = [.string x.f0, .int .i64 x.f1] := by
 obtain ⟨_, _, rfl, rfl, rfl⟩ := h
 exact rfl
theorem QcU (w : World) (base : Nat) (ok : Nat → Prop) (x : S98)  : k98.M w base ok x [.string x.f0, .int .i64 x.f1] := ⟨[.string x.f0], [.int .i64 x.f1], rfl, rfl, rfl⟩
def rd_T98 (xs : List S98) (i : Int) : S98 := xs.getD i.toNat z98
theorem at_T98 {w : World} {A : Option Addr} {n : Nat} {xs : List S98} (h : Kd.C k98 w A n xs) (i : Int) (h0 : 0 ≤ i) (h1 : i < n) : ∃ ad , A = some ad ∧ w.cell? (ad.add (i.toNat * 2)) = some (.string (rd_T98 xs i).f0) ∧ w.cell? ⟨(ad.add (i.toNat * 2)).block, (ad.add (i.toNat * 2)).off + 1, none⟩ = some (.int .i64 (rd_T98 xs i).f1) := by
 obtain ⟨ad, c, e, _, hK, hc0⟩ := Kd.C_get h z98 i h0 h1
 have hc : ∀ j u, c[j]? = some u → w.cell? (ad.add (i.toNat * 2 + j)) = some u := hc0
 obtain rfl := QeG hK
 exact ⟨ad, e, hc 0 _ rfl, by rw [← Qba _ _ 1 (by omega)]; exact hc 1 _ rfl⟩
structure S44 where
 f0 : ByteArray
 f1 : ByteArray
def z44 : S44 := ⟨(⟨#[]⟩ : ByteArray), (⟨#[]⟩ : ByteArray)⟩
def k44 : Kd S44 := Kd.iso (Kd.pair Kd.string Kd.string) (fun x : S44 => (x.f0, x.f1))
theorem QcA {w : World} {x : S44} {cs : List Value} (h : k44.K w x cs) : cs = [.string x.f0, .string x.f1] := by
 obtain ⟨_, _, rfl, rfl, rfl⟩ := h
 exact rfl
theorem QcR (w : World) (base : Nat) (ok : Nat → Prop) (x : S44)  : k44.M w base ok x [.string x.f0, .string x.f1] := ⟨[.string x.f0], [.string x.f1], rfl, rfl, rfl⟩
structure S46 where
 f0 : S44
 f1 : ByteArray
 f2 : Int
def z46 : S46 := ⟨z44, (⟨#[]⟩ : ByteArray), (0 : Int)⟩
def k46 : Kd S46 := Kd.iso (Kd.pair k44 (Kd.pair Kd.string (Kd.int .i64))) (fun x : S46 => (x.f0, x.f1, x.f2))
theorem QeC {w : World} {x : S46} {cs : List Value} (h : k46.K w x cs) : cs = [.string x.f0.f0, .string x.f0.f1, .string x.f1, .int .i64 x.f2] := by
 obtain ⟨_, _, rfl, s0, ⟨_, _, rfl, rfl, rfl⟩⟩ := h
 obtain rfl := QcA s0
 exact rfl
theorem Qcn (w : World) (base : Nat) (ok : Nat → Prop) (x : S46)  : k46.M w base ok x [.string x.f0.f0, .string x.f0.f1, .string x.f1, .int .i64 x.f2] := ⟨[.string x.f0.f0, .string x.f0.f1], [.string x.f1, .int .i64 x.f2], rfl, (QcR w base ok x.f0 ), ⟨[.string x.f1], [.int .i64 x.f2], rfl, rfl, rfl⟩⟩
def rd_T46 (xs : List S46) (i : Int) : S46 := xs.getD i.toNat z46
theorem at_T46 {w : World} {A : Option Addr} {n : Nat} {xs : List S46} (h : Kd.C k46 w A n xs) (i : Int) (h0 : 0 ≤ i) (h1 : i < n) : ∃ ad , A = some ad ∧ w.cell? (ad.add (i.toNat * 4)) = some (.string (rd_T46 xs i).f0.f0) ∧ w.cell? ⟨(ad.add (i.toNat * 4)).block, (ad.add (i.toNat * 4)).off + 1, none⟩ = some (.string (rd_T46 xs i).f0.f1) ∧ w.cell? ⟨(ad.add (i.toNat * 4)).block, (ad.add (i.toNat * 4)).off + 2, none⟩ = some (.string (rd_T46 xs i).f1) ∧ w.cell? ⟨(ad.add (i.toNat * 4)).block, (ad.add (i.toNat * 4)).off + 3, none⟩ = some (.int .i64 (rd_T46 xs i).f2) := by
 obtain ⟨ad, c, e, _, hK, hc0⟩ := Kd.C_get h z46 i h0 h1
 have hc : ∀ j u, c[j]? = some u → w.cell? (ad.add (i.toNat * 4 + j)) = some u := hc0
 obtain rfl := QeC hK
 exact ⟨ad, e, hc 0 _ rfl, by rw [← Qba _ _ 1 (by omega)]; exact hc 1 _ rfl, by rw [← Qba _ _ 2 (by omega)]; exact hc 2 _ rfl, by rw [← Qba _ _ 3 (by omega)]; exact hc 3 _ rfl⟩
structure S48 where
 f0 : S44
 f1 : Int
 f2 : Int
 f3 : Int
 f4 : Int
 f5 : Int
 f6 : Int
 f7 : Int
def z48 : S48 := ⟨z44, (0 : Int), (0 : Int), (0 : Int), (0 : Int), (0 : Int), (0 : Int), (0 : Int)⟩
def k48 : Kd S48 := Kd.iso (Kd.pair k44 (Kd.pair (Kd.int .i64) (Kd.pair (Kd.int .i64) (Kd.pair (Kd.int .i64) (Kd.pair (Kd.int .i64) (Kd.pair (Kd.int .i64) (Kd.pair (Kd.int .i64) (Kd.int .i64)))))))) (fun x : S48 => (x.f0, x.f1, x.f2, x.f3, x.f4, x.f5, x.f6, x.f7))
theorem QeD {w : World} {x : S48} {cs : List Value} (h : k48.K w x cs) : cs = [.string x.f0.f0, .string x.f0.f1, .int .i64 x.f1, .int .i64 x.f2, .int .i64 x.f3, .int .i64 x.f4, .int .i64 x.f5, .int .i64 x.f6, .int .i64 x.f7] := by
 obtain ⟨_, _, rfl, s0, ⟨_, _, rfl, rfl, ⟨_, _, rfl, rfl, ⟨_, _, rfl, rfl, ⟨_, _, rfl, rfl, ⟨_, _, rfl, rfl, ⟨_, _, rfl, rfl, rfl⟩⟩⟩⟩⟩⟩⟩ := h
 obtain rfl := QcA s0
 exact rfl
theorem QcS (w : World) (base : Nat) (ok : Nat → Prop) (x : S48)  : k48.M w base ok x [.string x.f0.f0, .string x.f0.f1, .int .i64 x.f1, .int .i64 x.f2, .int .i64 x.f3, .int .i64 x.f4, .int .i64 x.f5, .int .i64 x.f6, .int .i64 x.f7] := ⟨[.string x.f0.f0, .string x.f0.f1], [.int .i64 x.f1, .int .i64 x.f2, .int .i64 x.f3, .int .i64 x.f4, .int .i64 x.f5, .int .i64 x.f6, .int .i64 x.f7], rfl, (QcR w base ok x.f0 ), ⟨[.int .i64 x.f1], [.int .i64 x.f2, .int .i64 x.f3, .int .i64 x.f4, .int .i64 x.f5, .int .i64 x.f6, .int .i64 x.f7], rfl, rfl, ⟨[.int .i64 x.f2], [.int .i64 x.f3, .int .i64 x.f4, .int .i64 x.f5, .int .i64 x.f6, .int .i64 x.f7], rfl, rfl, ⟨[.int .i64 x.f3], [.int .i64 x.f4, .int .i64 x.f5, .int .i64 x.f6, .int .i64 x.f7], rfl, rfl, ⟨[.int .i64 x.f4], [.int .i64 x.f5, .int .i64 x.f6, .int .i64 x.f7], rfl, rfl, ⟨[.int .i64 x.f5], [.int .i64 x.f6, .int .i64 x.f7], rfl, rfl, ⟨[.int .i64 x.f6], [.int .i64 x.f7], rfl, rfl, rfl⟩⟩⟩⟩⟩⟩⟩
def rd_T48 (xs : List S48) (i : Int) : S48 := xs.getD i.toNat z48
theorem at_T48 {w : World} {A : Option Addr} {n : Nat} {xs : List S48} (h : Kd.C k48 w A n xs) (i : Int) (h0 : 0 ≤ i) (h1 : i < n) : ∃ ad , A = some ad ∧ w.cell? (ad.add (i.toNat * 9)) = some (.string (rd_T48 xs i).f0.f0) ∧ w.cell? ⟨(ad.add (i.toNat * 9)).block, (ad.add (i.toNat * 9)).off + 1, none⟩ = some (.string (rd_T48 xs i).f0.f1) ∧ w.cell? ⟨(ad.add (i.toNat * 9)).block, (ad.add (i.toNat * 9)).off + 2, none⟩ = some (.int .i64 (rd_T48 xs i).f1) ∧ w.cell? ⟨(ad.add (i.toNat * 9)).block, (ad.add (i.toNat * 9)).off + 3, none⟩ = some (.int .i64 (rd_T48 xs i).f2) ∧ w.cell? ⟨(ad.add (i.toNat * 9)).block, (ad.add (i.toNat * 9)).off + 4, none⟩ = some (.int .i64 (rd_T48 xs i).f3) ∧ w.cell? ⟨(ad.add (i.toNat * 9)).block, (ad.add (i.toNat * 9)).off + 5, none⟩ = some (.int .i64 (rd_T48 xs i).f4) ∧ w.cell? ⟨(ad.add (i.toNat * 9)).block, (ad.add (i.toNat * 9)).off + 6, none⟩ = some (.int .i64 (rd_T48 xs i).f5) ∧ w.cell? ⟨(ad.add (i.toNat * 9)).block, (ad.add (i.toNat * 9)).off + 7, none⟩ = some (.int .i64 (rd_T48 xs i).f6) ∧ w.cell? ⟨(ad.add (i.toNat * 9)).block, (ad.add (i.toNat * 9)).off + 8, none⟩ = some (.int .i64 (rd_T48 xs i).f7) := by
 obtain ⟨ad, c, e, _, hK, hc0⟩ := Kd.C_get h z48 i h0 h1
 have hc : ∀ j u, c[j]? = some u → w.cell? (ad.add (i.toNat * 9 + j)) = some u := hc0
 obtain rfl := QeD hK
 exact ⟨ad, e, hc 0 _ rfl, by rw [← Qba _ _ 1 (by omega)]; exact hc 1 _ rfl, by rw [← Qba _ _ 2 (by omega)]; exact hc 2 _ rfl, by rw [← Qba _ _ 3 (by omega)]; exact hc 3 _ rfl, by rw [← Qba _ _ 4 (by omega)]; exact hc 4 _ rfl, by rw [← Qba _ _ 5 (by omega)]; exact hc 5 _ rfl, by rw [← Qba _ _ 6 (by omega)]; exact hc 6 _ rfl, by rw [← Qba _ _ 7 (by omega)]; exact hc 7 _ rfl, by rw [← Qba _ _ 8 (by omega)]; exact hc 8 _ rfl⟩
structure S50 where
 f0 : S44
 f1 : Int
 f2 : Int
 f3 : Int
def z50 : S50 := ⟨z44, (0 : Int), (0 : Int), (0 : Int)⟩
def k50 : Kd S50 := Kd.iso (Kd.pair k44 (Kd.pair (Kd.int .i64) (Kd.pair (Kd.int .i64) (Kd.int .i64)))) (fun x : S50 => (x.f0, x.f1, x.f2, x.f3))
theorem QeE {w : World} {x : S50} {cs : List Value} (h : k50.K w x cs) : cs = [.string x.f0.f0, .string x.f0.f1, .int .i64 x.f1, .int .i64 x.f2, .int .i64 x.f3] := by
 obtain ⟨_, _, rfl, s0, ⟨_, _, rfl, rfl, ⟨_, _, rfl, rfl, rfl⟩⟩⟩ := h
 obtain rfl := QcA s0
 exact rfl
theorem Qbz (w : World) (base : Nat) (ok : Nat → Prop) (x : S50)  : k50.M w base ok x [.string x.f0.f0, .string x.f0.f1, .int .i64 x.f1, .int .i64 x.f2, .int .i64 x.f3] := ⟨[.string x.f0.f0, .string x.f0.f1], [.int .i64 x.f1, .int .i64 x.f2, .int .i64 x.f3], rfl, (QcR w base ok x.f0 ), ⟨[.int .i64 x.f1], [.int .i64 x.f2, .int .i64 x.f3], rfl, rfl, ⟨[.int .i64 x.f2], [.int .i64 x.f3], rfl, rfl, rfl⟩⟩⟩
def rd_T50 (xs : List S50) (i : Int) : S50 := xs.getD i.toNat z50
theorem at_T50 {w : World} {A : Option Addr} {n : Nat} {xs : List S50} (h : Kd.C k50 w A n xs) (i : Int) (h0 : 0 ≤ i) (h1 : i < n) : ∃ ad , A = some ad ∧ w.cell? (ad.add (i.toNat * 5)) = some (.string (rd_T50 xs i).f0.f0) ∧ w.cell? ⟨(ad.add (i.toNat * 5)).block, (ad.add (i.toNat * 5)).off + 1, none⟩ = some (.string (rd_T50 xs i).f0.f1) ∧ w.cell? ⟨(ad.add (i.toNat * 5)).block, (ad.add (i.toNat * 5)).off + 2, none⟩ = some (.int .i64 (rd_T50 xs i).f1) ∧ w.cell? ⟨(ad.add (i.toNat * 5)).block, (ad.add (i.toNat * 5)).off + 3, none⟩ = some (.int .i64 (rd_T50 xs i).f2) ∧ w.cell? ⟨(ad.add (i.toNat * 5)).block, (ad.add (i.toNat * 5)).off + 4, none⟩ = some (.int .i64 (rd_T50 xs i).f3) := by
 obtain ⟨ad, c, e, _, hK, hc0⟩ := Kd.C_get h z50 i h0 h1
 have hc : ∀ j u, c[j]? = some u → w.cell? (ad.add (i.toNat * 5 + j)) = some u := hc0
 obtain rfl := QeE hK
 exact ⟨ad, e, hc 0 _ rfl, by rw [← Qba _ _ 1 (by omega)]; exact hc 1 _ rfl, by rw [← Qba _ _ 2 (by omega)]; exact hc 2 _ rfl, by rw [← Qba _ _ 3 (by omega)]; exact hc 3 _ rfl, by rw [← Qba _ _ 4 (by omega)]; exact hc 4 _ rfl⟩
structure S34 where
 f0 : (List S46)
 f1 : (List S84)
 f2 : (List S98)
def k34 : Kd S34 := Kd.iso (Kd.pair (Kd.slice 46 k46) (Kd.pair (Kd.slice 84 k84) (Kd.slice 98 k98))) (fun x : S34 => (x.f0, x.f1, x.f2))
theorem QeB {w : World} {x : S34} {cs : List Value} (h : k34.K w x cs) : ∃ A0 c0 A1 c1 A2 c2, cs = [.slice A0 x.f0.length c0, .slice A1 x.f1.length c1, .slice A2 x.f2.length c2] ∧ x.f0.length ≤ c0 ∧ k46.C w A0 x.f0.length x.f0 ∧ x.f1.length ≤ c1 ∧ k84.C w A1 x.f1.length x.f1 ∧ x.f2.length ≤ c2 ∧ k98.C w A2 x.f2.length x.f2 := by
 obtain ⟨_, _, rfl, ⟨A0, c0, rfl, l0, g0⟩, ⟨_, _, rfl, ⟨A1, c1, rfl, l1, g1⟩, ⟨A2, c2, rfl, l2, g2⟩⟩⟩ := h
 exact ⟨A0, c0, A1, c1, A2, c2, rfl, l0, g0, l1, g1, l2, g2⟩
theorem eqA44 (d : Nat) (w : World) (x0 y0 : ByteArray) (x1 y1 : ByteArray) :
  (Op.equalIn (d + 2) 44 (.agg #[.string x0, .string x1]) (.agg #[.string y0, .string y1])).run Try.prog w = .ok (x0.toList == y0.toList && (x1.toList == y1.toList)) w := by
 refine eqA_of Try.underlying44 (by kernel_rfl) ?_
 refine Qcb (by rfl) (by go_simp; rfl) (by go_simp; rfl) (by go_simp) ?_
 exact Qdn (by rfl) (by go_simp; rfl) (by go_simp; rfl) (by go_simp)
def Qbe.f (a0 : Int) : Option (Bool) := if a0 ≥ 0 then (some (decide (a0 ≤ 1152921504606846976))) else (some F)
set_option maxHeartbeats 8000000 in
theorem Qbe.calls (a0 : Int) (r : Bool) (w : World) (h : Qbe.f a0 = some r) :
  Calls Try.prog 51 #[.int .i64 a0] w fun e w' => e = .returned (.bool r) ∧ Drawn0 w w' := by
 have H : (if a0 ≥ 0 then (some (decide (a0 ≤ 1152921504606846976))) else (some F)) = some r := h
 clear h
 by_cases c2 : a0 ≥ 0
 ·rw [if_pos c2] at H
  have c2b0 : decide (0 ≤ a0) = T := decide_eq_true c2
  clear c2
  obtain rfl := Option.some.inj H
  go_enter Try.func51, Try.ntmps51
  go_wp2
  go_ret
  exact ⟨Zs, Zd⟩
 rw [if_neg c2] at H
 have c2b0 : decide (0 ≤ a0) = F := decide_eq_false c2
 clear c2
 obtain rfl := Option.some.inj H
 go_enter Try.func51, Try.ntmps51
 go_wp2
 go_ret
 exact ⟨Zs, Zd⟩
def Qbl.f (a0 : Int) (a1 : Int) : Option (Int × Int) := (Qbe.f a0).bind fun t101 => (if t101 = T then ((Qbe.f a1).bind fun t102 => (if t102 = T then (some (mx (wrap64 (a0 - a1)) 0, 0)) else (some (0, 2)))) else (some (0, 2)))
set_option maxHeartbeats 8000000 in
theorem Qbl.calls (a0 : Int) (a1 : Int) (r1 : Int) (r2 : Int) (w : World) (h : Qbl.f a0 a1 = some (r1, r2)) :
  Calls Try.prog 15 #[.int .i64 a0, .int .i64 a1] w fun e w' => e = .returned (.tuple #[.int .i64 r1, .int .i64 r2]) ∧ Below w.heap.size w w' := by
 have HB := Aside0.mk (Below.refl w.heap.size w)
 have H : ((Qbe.f a0).bind fun t101 => (if t101 = T then ((Qbe.f a1).bind fun t102 => (if t102 = T then (some (mx (wrap64 (a0 - a1)) 0, 0)) else (some (0, 2)))) else (some (0, 2)))) = some (r1, r2) := h
 clear h
 replace H := Option.bind_eq_some_iff.mp H
 obtain ⟨t101, A30, H⟩ := H
 replace H : (if t101 = T then ((Qbe.f a1).bind fun t102 => (if t102 = T then (some (mx (wrap64 (a0 - a1)) 0, 0)) else (some (0, 2)))) else (some (0, 2))) = some (r1, r2) := H
 have A3 := Aside0.mk A30
 clear A30
 by_cases c4 : t101 = T
 ·subst c4
  have H1 : ((Qbe.f a1).bind fun t102 => (if t102 = T then (some (mx (wrap64 (a0 - a1)) 0, 0)) else (some (0, 2)))) = some (r1, r2) := by rw [if_pos rfl] at H; exact H
  clear H
  have H := H1
  clear H1
  replace H := Option.bind_eq_some_iff.mp H
  obtain ⟨t102, A50, H⟩ := H
  replace H : (if t102 = T then (some (mx (wrap64 (a0 - a1)) 0, 0)) else (some (0, 2))) = some (r1, r2) := H
  have A5 := Aside0.mk A50
  clear A50
  go_enter Try.func15, Try.ntmps15
  go_upto_if 13 with (first | ((with_reducible refine QaA (f := 51) rfl ?_); refine goesL_ (some 7) rfl rfl Try.func51 (by kernel_rfl) rfl #[.int .i64 a0] rfl (Zl) ?_; (with_reducible refine (Qbe.calls a0 T _ A3.out).mono ?_); rintro e w' ⟨rfl, ⟨nd, rfl⟩⟩; refine ⟨_, rfl, ?_⟩) | (go_at_call 51; (with_reducible refine (Qbe.calls a1 t102 _ A5.out).mono ?_); rintro e w' ⟨rfl, ⟨nd, rfl⟩⟩))
  (try simp only [Act.put, Zj, Zk, Zm])
  by_cases c6 : t102 = T
  ·subst c6
   have H1 : (some (mx (wrap64 (a0 - a1)) 0, 0)) = some (r1, r2) := by rw [if_pos rfl] at H; exact H
   clear H
   have H := H1
   clear H1
   obtain ⟨ji7, hji7⟩ : ∃ j_ : Int, (mx (wrap64 (a0 - a1)) 0) = j_ := ⟨_, rfl⟩
   replace H : (some (ji7, 0)) = some (r1, r2) := by first | (rw [hji7] at H; exact H) | (simp only [hji7] at H ⊢; exact H)
   (try (have hji7l : 0 ≤ ji7 := by (rw [← hji7]; unfold mx; (repeat' split) <;> omega)))
   (try (have hji7m : 0 ≤ ji7 := by omega))
   have hji7_ : (if (wrap64 (a0 - a1)) < 0 then 0 else (wrap64 (a0 - a1))) = ji7 := hji7
   simp only [Option.some.injEq, Prod.mk.injEq] at H
   obtain ⟨rfl, rfl⟩ := H
   go_wp2
   go_ret2
   exact ⟨by first | rfl | (simp [Qaj, Qak] <;> rfl) | (simp only [← hji7]; first | rfl | (simp [Qaj, Qak] <;> rfl)) | (simp [*, Qaj, Qak] <;> rfl), Zb⟩
  replace c6 := Bool.eq_false_iff.mpr c6
  subst c6
  have H1 : (some (0, 2)) = some (r1, r2) := by rw [if_neg (show ¬ (F = T) by decide)] at H; exact H
  clear H
  have H := H1
  clear H1
  simp only [Option.some.injEq, Prod.mk.injEq] at H
  obtain ⟨rfl, rfl⟩ := H
  go_wp2
  go_ret2
  exact ⟨Zq, Zb⟩
 replace c4 := Bool.eq_false_iff.mpr c4
 subst c4
 have H1 : (some (0, 2)) = some (r1, r2) := by rw [if_neg (show ¬ (F = T) by decide)] at H; exact H
 clear H
 have H := H1
 clear H1
 simp only [Option.some.injEq, Prod.mk.injEq] at H
 obtain ⟨rfl, rfl⟩ := H
 go_enter Try.func15, Try.ntmps15
 go_wp2_with (first | ((with_reducible refine QaA (f := 51) rfl ?_); refine goesL_ (some 7) rfl rfl Try.func51 (by kernel_rfl) rfl #[.int .i64 a0] rfl (Zl) ?_; (with_reducible refine (Qbe.calls a0 F _ A3.out).mono ?_); rintro e w' ⟨rfl, ⟨nd, rfl⟩⟩; refine ⟨_, rfl, ?_⟩))
 go_ret2
 exact ⟨Zq, Zb⟩
def Qbb.f (a0 : Int) : Option (Bool) := if a0 ≥ (-1152921504606846976) then (some (decide (a0 ≤ 1152921504606846976))) else (some F)
set_option maxHeartbeats 8000000 in
theorem Qbb.calls (a0 : Int) (r : Bool) (w : World) (h : Qbb.f a0 = some r) :
  Calls Try.prog 87 #[.int .i64 a0] w fun e w' => e = .returned (.bool r) ∧ Drawn0 w w' := by
 have H : (if a0 ≥ (-1152921504606846976) then (some (decide (a0 ≤ 1152921504606846976))) else (some F)) = some r := h
 clear h
 by_cases c2 : a0 ≥ (-1152921504606846976)
 ·rw [if_pos c2] at H
  have c2b0 : decide ((-1152921504606846976) ≤ a0) = T := decide_eq_true c2
  clear c2
  obtain rfl := Option.some.inj H
  go_enter Try.func87, Try.ntmps87
  go_wp2
  go_ret
  exact ⟨Zs, Zd⟩
 rw [if_neg c2] at H
 have c2b0 : decide ((-1152921504606846976) ≤ a0) = F := decide_eq_false c2
 clear c2
 obtain rfl := Option.some.inj H
 go_enter Try.func87, Try.ntmps87
 go_wp2
 go_ret
 exact ⟨Zs, Zd⟩
def Qbx.f (a0 : Int) : Option (Int × Int) := (Qbb.f a0).bind fun t172 => (if t172 = T then (some (a0, 0)) else (some (0, 3)))
set_option maxHeartbeats 8000000 in
theorem Qbx.calls (a0 : Int) (r1 : Int) (r2 : Int) (w : World) (h : Qbx.f a0 = some (r1, r2)) :
  Calls Try.prog 97 #[.int .i64 a0] w fun e w' => e = .returned (.tuple #[.int .i64 r1, .int .i64 r2]) ∧ Drawn0 w w' := by
 have H : ((Qbb.f a0).bind fun t172 => (if t172 = T then (some (a0, 0)) else (some (0, 3)))) = some (r1, r2) := h
 clear h
 replace H := Option.bind_eq_some_iff.mp H
 obtain ⟨t172, A20, H⟩ := H
 replace H : (if t172 = T then (some (a0, 0)) else (some (0, 3))) = some (r1, r2) := H
 have A2 := Aside0.mk A20
 clear A20
 go_enter Try.func97, Try.ntmps97
 go_upto_if 6 with (first | ((with_reducible refine QaA (f := 87) rfl ?_); refine goesL_ (some 5) rfl rfl Try.func87 (by kernel_rfl) rfl #[.int .i64 a0] rfl (Zl) ?_; (with_reducible refine (Qbb.calls a0 t172 _ A2.out).mono ?_); rintro e w' ⟨rfl, ⟨nd, rfl⟩⟩; refine ⟨_, rfl, ?_⟩))
 (try simp only [Act.put, Zj, Zk, Zm])
 by_cases c3 : t172 = T
 ·subst c3
  have H1 : (some (a0, 0)) = some (r1, r2) := by rw [if_pos rfl] at H; exact H
  clear H
  have H := H1
  clear H1
  simp only [Option.some.injEq, Prod.mk.injEq] at H
  obtain ⟨rfl, rfl⟩ := H
  go_wp2
  go_ret2
  exact ⟨Zs, Zd⟩
 replace c3 := Bool.eq_false_iff.mpr c3
 subst c3
 have H1 : (some (0, 3)) = some (r1, r2) := by rw [if_neg (show ¬ (F = T) by decide)] at H; exact H
 clear H
 have H := H1
 clear H1
 simp only [Option.some.injEq, Prod.mk.injEq] at H
 obtain ⟨rfl, rfl⟩ := H
 go_wp2
 go_ret2
 exact ⟨Zs, Zd⟩
def QaX.l0 : Nat → List Int → Int → Int → Int → Int → Option (Int × Int)
 | 0, _, _, _, _, _ => none
 | k + 1, x0, x4, x5, x9, x10 => if x10 < x9 then (if 0 ≤ x10 then (if x10 < (x0.length : Int) then ((Qbb.f (rd x0 x10)).bind fun t174 => (if t174 = T then (QaX.l0 k x0 (wrap64 (x4 + ((rd x0 x10) / 4294967296))) (wrap64 (x5 + (Go.bits .and .i64 (rd x0 x10) 4294967295))) x9 (wrap64 (x10 + 1))) else (some (0, 2)))) else (none)) else (none)) else (if (wrap64 (x4 + (x5 / 4294967296))) < (-268435456) then (some (0, 3)) else (if (wrap64 (x4 + (x5 / 4294967296))) > 268435456 then (some (0, 3)) else ((Qbx.f (wrap64 ((wrap64 ((wrap64 (x4 + (x5 / 4294967296))) * 4294967296)) + (Go.bits .and .i64 x5 4294967295)))).bind fun bt177 => (some (bt177.1, bt177.2)))))
def QaX.f (k : Nat) (l0 : List Int) : Option (Int × Int) := QaX.l0 k l0 0 0 (l0.length : Int) 0
theorem QaX.mono_l : ∀ k, (∀ y0 y1 y2 y3 y4, LeO (QaX.l0 k y0 y1 y2 y3 y4) (QaX.l0 (k + 1) y0 y1 y2 y3 y4))
 | 0 => fun _ _ _ _ _ r h => by simp [QaX.l0] at h
 | k + 1 => by
  have ih0 := QaX.mono_l k
  intro y0 y1 y2 y3 y4
  unfold QaX.l0
  exact ZM1 ih0
theorem QaX.mono : ∀ a0 k, LeO (QaX.f k a0) (QaX.f (k + 1) a0) := by
 intro a0 k
 have ih0 := QaX.mono_l k
 unfold QaX.f
 exact ZM1 ih0
set_option maxHeartbeats 8000000 in
theorem QaX.calls (k : Nat) (A0 : Option Addr) (c0 : Nat) (l0 : List Int) (r1 : Int) (r2 : Int) (w : World) (hr0 : Kd.C (Kd.int .i64) w A0 l0.length l0) (hc0 : l0.length ≤ c0) (h : QaX.f k l0 = some (r1, r2)) :
  Calls Try.prog 59 #[.slice A0 l0.length c0] w fun e w' => e = .returned (.tuple #[.int .i64 r1, .int .i64 r2]) ∧ Drawn0 w w' := by
 have HR0 := Aside0.mk hr0
 have HC0 := Aside0.mk hc0
 clear hr0 hc0
 have H : (QaX.l0 k l0 0 0 (l0.length : Int) 0) = some (r1, r2) := h
 clear h
 have H' := Aside0.mk H
 clear H
 go_enter Try.func59, Try.ntmps59
 go_wp2
 go_loopg [4, 5, 10] k (fun kq v4 v5 v10 w' => ∃ (x4_1 : Int) (x5_1 : Int) (x10_1 : Int), v4 = .int .i64 x4_1 ∧ v5 = .int .i64 x5_1 ∧ v10 = .int .i64 x10_1 ∧ Aside0 (QaX.l0 kq l0 x4_1 x5_1 (l0.length : Int) x10_1 = some (r1, r2)) ∧ Aside0 (kq ≤ k) ∧ Drawn0 w w')
 case atStart => exact ⟨(0), (0), (0), (Zs), (Zs), (Zs), H', ⟨Nat.le_refl _⟩, Zd⟩
 case round =>
  clear H'
  obtain ⟨x4_1, x5_1, x10_1, rfl, rfl, rfl, HA, HK1, ⟨m1, rfl⟩⟩ := hrel
  cases gk with
  | zero => exact absurd HA.out (by simp [QaX.l0])
  | succ k1 =>
   have H := HA.out
   clear HA
   simp only [QaX.l0] at H
   by_cases c2 : x10_1 < (l0.length : Int)
   ·rw [if_pos c2] at H
    have c2b0 : decide (x10_1 < (l0.length : Int)) = T := decide_eq_true c2
    clear c2
    (try simp only [c2b0])
    by_cases c3 : 0 ≤ x10_1
    ·rw [if_pos c3] at H
     have c3b0 : decide (0 ≤ x10_1) = T := decide_eq_true c3
     clear c3
     by_cases c4 : x10_1 < (l0.length : Int)
     ·rw [if_pos c4] at H
      have c4b0 : decide (x10_1 < (l0.length : Int)) = T := decide_eq_true c4
      clear c4
      replace H := Option.bind_eq_some_iff.mp H
      obtain ⟨t174, A50, H⟩ := H
      replace H : (if t174 = T then (QaX.l0 k1 l0 (wrap64 (x4_1 + ((rd l0 x10_1) / 4294967296))) (wrap64 (x5_1 + (Go.bits .and .i64 (rd l0 x10_1) 4294967295))) (l0.length : Int) (wrap64 (x10_1 + 1))) else (some (0, 2))) = some (r1, r2) := H
      have A5 := Aside0.mk A50
      clear A50
      have p173 : 0 ≤ (x10_1 : Int) := Ze
      have q173 : x10_1 < (l0.length : Int) := Ze
      obtain ⟨ad173, e173, hx173_0⟩ := Kd.at_int HR0.out x10_1 p173 q173
      cases e173
      replace p173 := eq_true p173
      replace q173 := eq_true q173
      go_upto_if 18 with (first | ((with_reducible refine QaA (f := 87) rfl ?_); refine goesL_ (some 17) rfl rfl Try.func87 (by kernel_rfl) rfl #[.int .i64 (rd l0 x10_1)] rfl (Zl) ?_; (with_reducible refine (Qbb.calls (rd l0 x10_1) t174 _ A5.out).mono ?_); rintro e w' ⟨rfl, ⟨nd, rfl⟩⟩; refine ⟨_, rfl, ?_⟩))
      (try simp only [Act.put, Zj, Zk, Zm])
      by_cases c6 : t174 = T
      ·subst c6
       have H1 : (QaX.l0 k1 l0 (wrap64 (x4_1 + ((rd l0 x10_1) / 4294967296))) (wrap64 (x5_1 + (Go.bits .and .i64 (rd l0 x10_1) 4294967295))) (l0.length : Int) (wrap64 (x10_1 + 1))) = some (r1, r2) := by rw [if_pos rfl] at H; exact H
       clear H
       have H := H1
       clear H1
       have H' := Aside0.mk H
       clear H
       have p175 : 0 ≤ (x10_1 : Int) := Ze
       have q175 : x10_1 < (l0.length : Int) := Ze
       obtain ⟨ad175, e175, hx175_0⟩ := Kd.at_int HR0.out x10_1 p175 q175
       obtain rfl : ad173 = ad175 := (by injection e175)
       replace p175 := eq_true p175
       replace q175 := eq_true q175
       have p176 : 0 ≤ (x10_1 : Int) := Ze
       have q176 : x10_1 < (l0.length : Int) := Ze
       obtain ⟨ad176, e176, hx176_0⟩ := Kd.at_int HR0.out x10_1 p176 q176
       obtain rfl : ad173 = ad176 := (by injection e176)
       replace p176 := eq_true p176
       replace q176 := eq_true q176
       go_wp2
       go_roundg k1
       case measure => have := HK1.out; omega
       case rel => exact ⟨(wrap64 (x4_1 + ((rd l0 x10_1) / 4294967296))), (wrap64 (x5_1 + (Go.bits .and .i64 (rd l0 x10_1) 4294967295))), (wrap64 (x10_1 + 1)), (Zs), (Zs), (Zs), H', ⟨by have := HK1.out; omega⟩, Zd⟩
      replace c6 := Bool.eq_false_iff.mpr c6
      subst c6
      have H1 : (some (0, 2)) = some (r1, r2) := by rw [if_neg (show ¬ (F = T) by decide)] at H; exact H
      clear H
      have H := H1
      clear H1
      simp only [Option.some.injEq, Prod.mk.injEq] at H
      obtain ⟨rfl, rfl⟩ := H
      go_wp2
      go_ret2
      exact ⟨Zs, Zd⟩
     rw [if_neg c4] at H
     exact absurd H (by simp)
    rw [if_neg c3] at H
    exact absurd H (by simp)
   rw [if_neg c2] at H
   have c2b0 : decide (x10_1 < (l0.length : Int)) = F := decide_eq_false c2
   clear c2
   (try simp only [c2b0])
   by_cases c7 : (wrap64 (x4_1 + (x5_1 / 4294967296))) < (-268435456)
   ·rw [if_pos c7] at H
    have c7b0 : decide ((wrap64 (x4_1 + (x5_1 / 4294967296))) < (-268435456)) = T := decide_eq_true c7
    clear c7
    simp only [Option.some.injEq, Prod.mk.injEq] at H
    obtain ⟨rfl, rfl⟩ := H
    go_wp2
    go_ret2
    exact ⟨Zs, Zd⟩
   rw [if_neg c7] at H
   have c7b0 : decide ((wrap64 (x4_1 + (x5_1 / 4294967296))) < (-268435456)) = F := decide_eq_false c7
   clear c7
   by_cases c8 : (wrap64 (x4_1 + (x5_1 / 4294967296))) > 268435456
   ·rw [if_pos c8] at H
    have c8b0 : decide (268435456 < (wrap64 (x4_1 + (x5_1 / 4294967296)))) = T := decide_eq_true c8
    clear c8
    (try simp only [c8b0])
    simp only [Option.some.injEq, Prod.mk.injEq] at H
    obtain ⟨rfl, rfl⟩ := H
    go_wp2
    go_ret2
    exact ⟨Zs, Zd⟩
   rw [if_neg c8] at H
   have c8b0 : decide (268435456 < (wrap64 (x4_1 + (x5_1 / 4294967296)))) = F := decide_eq_false c8
   clear c8
   (try simp only [c8b0])
   replace H := Option.bind_eq_some_iff.mp H
   obtain ⟨⟨t177, t178⟩, A90, H⟩ := H
   replace H : (some (t177, t178)) = some (r1, r2) := H
   have A9 := Aside0.mk A90
   clear A90
   simp only [Option.some.injEq, Prod.mk.injEq] at H
   obtain ⟨rfl, rfl⟩ := H
   go_wp2_with (first | ((with_reducible refine QaA (f := 97) rfl ?_); refine goesL_ (some 52) rfl rfl Try.func97 (by kernel_rfl) rfl #[.int .i64 (wrap64 ((wrap64 ((wrap64 (x4_1 + (x5_1 / 4294967296))) * 4294967296)) + (Go.bits .and .i64 x5_1 4294967295)))] rfl (Zl) ?_; (with_reducible refine (Qbx.calls (wrap64 ((wrap64 ((wrap64 (x4_1 + (x5_1 / 4294967296))) * 4294967296)) + (Go.bits .and .i64 x5_1 4294967295))) t177 t178 _ A9.out).mono ?_); rintro e w' ⟨rfl, ⟨nd, rfl⟩⟩; refine ⟨_, rfl, ?_⟩))
   go_ret2
   exact ⟨Zs, Zd⟩
def QbE.f (a0_0 : ByteArray) (a0_1 : Int) (a0_2 : Int) (a0_3 : Int) (a0_4 : Int) (a0_5 : Int) : Option (ByteArray) := some a0_0
set_option maxHeartbeats 8000000 in
theorem QbE.calls (a0_0 : ByteArray) (a0_1 : Int) (a0_2 : Int) (a0_3 : Int) (a0_4 : Int) (a0_5 : Int) (r : ByteArray) (w : World) (h : QbE.f a0_0 a0_1 a0_2 a0_3 a0_4 a0_5 = some r) :
  Calls Try.prog 77 #[.agg #[.string a0_0, .int .i64 a0_1, .int .i64 a0_2, .int .i64 a0_3, .int .i64 a0_4, .int .i64 a0_5]] w fun e w' => e = .returned (.string r) ∧ Below w.heap.size w w' := by
 have hu84 := Try.underlying84
 have HB := Aside0.mk (Below.refl w.heap.size w)
 have H : (some a0_0) = some r := h
 clear h
 obtain rfl := Option.some.inj H
 go_enter Try.func77, Try.ntmps77
 go_wp2_with (first | ((with_reducible refine QaE (N := 1) rfl ?_); refine Zbx (N := 1) (cs := #[.string a0_0, .int .i64 a0_1, .int .i64 a0_2, .int .i64 a0_3, .int .i64 a0_4, .int .i64 a0_5]) (t := 84) ?_; intro gb103 hg w2 hbox hb; have BK103 := Aside0.mk (hbox); have GW103 := Aside0.mk (Zt w hg (Zb)); have GE103 := GW103; replace HB := Aside0.mk (Qaq (Zb) hb); clear hb hbox hg; obtain ⟨hcz3_0, hfz3_0⟩ := Zy (v := (.string a0_0)) BK103.out 0; obtain ⟨hcz3_1, hfz3_1⟩ := Zy (v := (.int .i64 a0_1)) BK103.out 1; obtain ⟨hcz3_2, hfz3_2⟩ := Zy (v := (.int .i64 a0_2)) BK103.out 2; obtain ⟨hcz3_3, hfz3_3⟩ := Zy (v := (.int .i64 a0_3)) BK103.out 3; obtain ⟨hcz3_4, hfz3_4⟩ := Zy (v := (.int .i64 a0_4)) BK103.out 4; obtain ⟨hcz3_5, hfz3_5⟩ := Zy (v := (.int .i64 a0_5)) BK103.out 5))
 go_ret
 exact ⟨Zq, Zc1 GE103.out⟩
def Qay.l0 : Nat → ByteArray → List (S84) → Int → Int → Option (ByteArray × Int × Int × Int × Int × Int × Bool)
 | 0, _, _, _, _ => none
 | k + 1, x1, x11, x12, x13 => if x13 < x12 then (if 0 ≤ x13 then (if x13 < (x11.length : Int) then ((QbE.f ((rd_T84 x11 x13).f0) ((rd_T84 x11 x13).f1) ((rd_T84 x11 x13).f2) ((rd_T84 x11 x13).f3) ((rd_T84 x11 x13).f4) ((rd_T84 x11 x13).f5)).bind fun t107 => (if t107.toList = x1.toList then (some ((rd_T84 x11 x13).f0, (rd_T84 x11 x13).f1, (rd_T84 x11 x13).f2, (rd_T84 x11 x13).f3, (rd_T84 x11 x13).f4, (rd_T84 x11 x13).f5, T)) else (Qay.l0 k x1 x11 x12 (wrap64 (x13 + 1))))) else (none)) else (none)) else (some ((⟨#[]⟩ : ByteArray), 0, 0, 0, 0, 0, F))
def Qay.f (k : Nat) (l0 : List (S84)) (a1 : ByteArray)  : Option (ByteArray × Int × Int × Int × Int × Int × Bool) := Qay.l0 k a1 l0 (l0.length : Int) 0
theorem Qay.mono_l : ∀ k, (∀ y0 y1 y2 y3, LeO (Qay.l0 k y0 y1 y2 y3) (Qay.l0 (k + 1) y0 y1 y2 y3))
 | 0 => fun _ _ _ _ r h => by simp [Qay.l0] at h
 | k + 1 => by
  have ih0 := Qay.mono_l k
  intro y0 y1 y2 y3
  unfold Qay.l0
  exact ZM1 ih0
theorem Qay.mono : ∀ a0 a1 k, LeO (Qay.f k a0 a1) (Qay.f (k + 1) a0 a1) := by
 intro a0 a1 k
 have ih0 := Qay.mono_l k
 unfold Qay.f
 exact ZM1 ih0
set_option maxHeartbeats 8000000 in
theorem Qay.calls (k : Nat) (A0 : Option Addr) (c0 : Nat) (l0 : List (S84)) (a1 : ByteArray)  (r1 : ByteArray) (r2 : Int) (r3 : Int) (r4 : Int) (r5 : Int) (r6 : Int) (r7 : Bool) (w : World) (hr0 : Kd.C k84 w A0 l0.length l0) (hc0 : l0.length ≤ c0) (h : Qay.f k l0 a1 = some (r1, r2, r3, r4, r5, r6, r7)) :
  Calls Try.prog 76 #[.slice A0 l0.length c0, .string a1, .func (.func 77) #[] #[]] w fun e w' => e = .returned (.tuple #[.agg #[.string r1, .int .i64 r2, .int .i64 r3, .int .i64 r4, .int .i64 r5, .int .i64 r6], .bool r7]) ∧ Below w.heap.size w w' := by
 have hu84 := Try.underlying84
 have HR0 := Aside0.mk hr0
 have HC0 := Aside0.mk hc0
 clear hr0 hc0
 have HB := Aside0.mk (Below.refl w.heap.size w)
 have H : (Qay.l0 k a1 l0 (l0.length : Int) 0) = some (r1, r2, r3, r4, r5, r6, r7) := h
 clear h
 have H' := Aside0.mk H
 clear H
 go_enter Try.func76, Try.ntmps76
 go_wp2_with (first | ((with_reducible refine QaE (N := 6) rfl ?_); refine Zbx (N := 6) (cs := #[.string (⟨#[]⟩ : ByteArray), .int .i64 0, .int .i64 0, .int .i64 0, .int .i64 0, .int .i64 0]) (t := 84) ?_; intro gb104 hg w4 hbox hb; have BK104 := Aside0.mk (hbox); have GW104 := Aside0.mk (Zt w hg (Zb)); have GE104 := GW104; replace HB := Aside0.mk (Qaq (Zb) hb); clear hb hbox hg))
 go_loopg [13] k (fun kq v13 w' => ∃ (x13_1 : Int) (x105000_1 : ByteArray) (x105001_1 : Int) (x105002_1 : Int) (x105003_1 : Int) (x105004_1 : Int) (x105005_1 : Int), v13 = .int .i64 x13_1 ∧ Aside0 (Qay.l0 kq a1 l0 (l0.length : Int) x13_1 = some (r1, r2, r3, r4, r5, r6, r7)) ∧ Aside0 (kq ≤ k) ∧ Aside0 (w'.heap[gb104]? = some (.cells #[.string x105000_1, .int .i64 x105001_1, .int .i64 x105002_1, .int .i64 x105003_1, .int .i64 x105004_1, .int .i64 x105005_1] 84 (0, 0))) ∧ Aside0 (Below w.heap.size w w'))
 case atStart => exact ⟨(0), ((⟨#[]⟩ : ByteArray)), (0), (0), (0), (0), (0), (Zs), H', ⟨Nat.le_refl _⟩, ⟨Zu BK104.out⟩, ⟨Zc1 GE104.out⟩⟩
 case round =>
  clear H'
  try clear p2
  obtain ⟨x13_1, x105000_1, x105001_1, x105002_1, x105003_1, x105004_1, x105005_1, rfl, HA, HK1, BK104, HB⟩ := hrel
  cases gk with
  | zero => exact absurd HA.out (by simp [Qay.l0])
  | succ k1 =>
   have H := HA.out
   clear HA
   simp only [Qay.l0] at H
   by_cases c5 : x13_1 < (l0.length : Int)
   ·rw [if_pos c5] at H
    have c5b0 : decide (x13_1 < (l0.length : Int)) = T := decide_eq_true c5
    clear c5
    (try simp only [c5b0])
    by_cases c6 : 0 ≤ x13_1
    ·rw [if_pos c6] at H
     have c6b0 : decide (0 ≤ x13_1) = T := decide_eq_true c6
     clear c6
     by_cases c7 : x13_1 < (l0.length : Int)
     ·rw [if_pos c7] at H
      have c7b0 : decide (x13_1 < (l0.length : Int)) = T := decide_eq_true c7
      clear c7
      replace H := Option.bind_eq_some_iff.mp H
      obtain ⟨t107, A80, H⟩ := H
      replace H : (if t107.toList = a1.toList then (some ((rd_T84 l0 x13_1).f0, (rd_T84 l0 x13_1).f1, (rd_T84 l0 x13_1).f2, (rd_T84 l0 x13_1).f3, (rd_T84 l0 x13_1).f4, (rd_T84 l0 x13_1).f5, T)) else (Qay.l0 k1 a1 l0 (l0.length : Int) (wrap64 (x13_1 + 1)))) = some (r1, r2, r3, r4, r5, r6, r7) := H
      have A8 := Aside0.mk A80
      clear A80
      have p105 : 0 ≤ (x13_1 : Int) := Ze
      have q105 : x13_1 < (l0.length : Int) := Ze
      obtain ⟨ad105, e105, hx105_0, hx105_1, hx105_2, hx105_3, hx105_4, hx105_5⟩ := at_T84 HR0.out x13_1 p105 q105
      cases e105
      replace hx105_0 := Zx HB.out hx105_0
      replace hx105_1 := Zx HB.out hx105_1
      replace hx105_2 := Zx HB.out hx105_2
      replace hx105_3 := Zx HB.out hx105_3
      replace hx105_4 := Zx HB.out hx105_4
      replace hx105_5 := Zx HB.out hx105_5
      replace p105 := eq_true p105
      replace q105 := eq_true q105
      go_upto_if 21 with (first | ((with_reducible refine QaE (N := 9) rfl ?_); refine Zbx (N := 9) (cs := #[.string (⟨#[]⟩ : ByteArray), .int .i64 0, .int .i64 0, .int .i64 0, .int .i64 0, .int .i64 0]) (t := 84) ?_; intro gb106 hg w9 hbox hb; have BK106 := Aside0.mk (hbox); have GW106 := Aside0.mk (Zt w hg (Zc1 GE104.out)); have GE106 := GW106; have NB104_106 := Aside0.mk (Zn hg BK104.out); have NB106_104 := Aside0.mk NB104_106.out.symm; replace BK104 := Aside0.mk (Zi BK104.out hb); replace HB := Aside0.mk (Qaq (Zc1 GE104.out) hb); clear hb hbox hg; have hnb10 := NB106_104.out; have hnc10 := NB104_106.out; obtain ⟨hcz11_0, hfz11_0⟩ := Zy (v := (.string (⟨#[]⟩ : ByteArray))) BK106.out 0; obtain ⟨hcz11_1, hfz11_1⟩ := Zy (v := (.int .i64 0)) BK106.out 1; obtain ⟨hcz11_2, hfz11_2⟩ := Zy (v := (.int .i64 0)) BK106.out 2; obtain ⟨hcz11_3, hfz11_3⟩ := Zy (v := (.int .i64 0)) BK106.out 3; obtain ⟨hcz11_4, hfz11_4⟩ := Zy (v := (.int .i64 0)) BK106.out 4; obtain ⟨hcz11_5, hfz11_5⟩ := Zy (v := (.int .i64 0)) BK106.out 5) | (go_at_call 77; (with_reducible refine (QbE.calls ((rd_T84 l0 x13_1).f0) ((rd_T84 l0 x13_1).f1) ((rd_T84 l0 x13_1).f2) ((rd_T84 l0 x13_1).f3) ((rd_T84 l0 x13_1).f4) ((rd_T84 l0 x13_1).f5) t107 _ A8.out).mono ?_); rintro e w12 ⟨rfl, hb⟩; replace BK104 := Aside0.mk (Qan (g := gb104) (o := .cells #[.string x105000_1, .int .i64 x105001_1, .int .i64 x105002_1, .int .i64 x105003_1, .int .i64 x105004_1, .int .i64 x105005_1] 84 (0, 0)) (Zg6 BK104.out NB104_106.out NB104_106.out NB104_106.out NB104_106.out NB104_106.out NB104_106.out) hb); replace BK106 := Aside0.mk (Zpi #[.string ((rd_T84 l0 x13_1).f0), .int .i64 ((rd_T84 l0 x13_1).f1), .int .i64 ((rd_T84 l0 x13_1).f2), .int .i64 ((rd_T84 l0 x13_1).f3), .int .i64 ((rd_T84 l0 x13_1).f4), .int .i64 ((rd_T84 l0 x13_1).f5)] BK106.out hb); replace HB := Aside0.mk (Qaq (Zc2 GE104.out GE106.out) hb); (try clear hb); (try clear hb2); (try clear hk); (try clear hi)))
      (try simp only [Act.put, Zj, Zk, Zm])
      by_cases c13 : t107.toList = a1.toList
      ·rw [if_pos c13] at H
       have c13b0 : (t107.toList == a1.toList) = T := beq_iff_eq.mpr c13
       have c13b1 : (t107.toList != a1.toList) = F := bne_eq_false_iff_eq.mpr c13
       clear c13
       (try simp only [c13b0, c13b1])
       simp only [Option.some.injEq, Prod.mk.injEq] at H
       obtain ⟨rfl, rfl, rfl, rfl, rfl, rfl, rfl⟩ := H
       have hnb14 := NB106_104.out
       have hnc14 := NB104_106.out
       obtain ⟨hcz15_0, hfz15_0⟩ := Zy (v := (.string ((rd_T84 l0 x13_1).f0))) BK106.out 0
       obtain ⟨hcz15_1, hfz15_1⟩ := Zy (v := (.int .i64 ((rd_T84 l0 x13_1).f1))) BK106.out 1
       obtain ⟨hcz15_2, hfz15_2⟩ := Zy (v := (.int .i64 ((rd_T84 l0 x13_1).f2))) BK106.out 2
       obtain ⟨hcz15_3, hfz15_3⟩ := Zy (v := (.int .i64 ((rd_T84 l0 x13_1).f3))) BK106.out 3
       obtain ⟨hcz15_4, hfz15_4⟩ := Zy (v := (.int .i64 ((rd_T84 l0 x13_1).f4))) BK106.out 4
       obtain ⟨hcz15_5, hfz15_5⟩ := Zy (v := (.int .i64 ((rd_T84 l0 x13_1).f5))) BK106.out 5
       obtain ⟨hcz16_0, hfz16_0⟩ := Zy (v := (.string x105000_1)) BK104.out 0
       obtain ⟨hcz16_1, hfz16_1⟩ := Zy (v := (.int .i64 x105001_1)) BK104.out 1
       obtain ⟨hcz16_2, hfz16_2⟩ := Zy (v := (.int .i64 x105002_1)) BK104.out 2
       obtain ⟨hcz16_3, hfz16_3⟩ := Zy (v := (.int .i64 x105003_1)) BK104.out 3
       obtain ⟨hcz16_4, hfz16_4⟩ := Zy (v := (.int .i64 x105004_1)) BK104.out 4
       obtain ⟨hcz16_5, hfz16_5⟩ := Zy (v := (.int .i64 x105005_1)) BK104.out 5
       go_wp2
       refine bodyPost_ret (Qcd rfl _ _ gb104 84 #[.string ((rd_T84 l0 x13_1).f0), .int .i64 ((rd_T84 l0 x13_1).f1), .int .i64 ((rd_T84 l0 x13_1).f2), .int .i64 ((rd_T84 l0 x13_1).f3), .int .i64 ((rd_T84 l0 x13_1).f4), .int .i64 ((rd_T84 l0 x13_1).f5)] (0, 0) _ rfl (Zp2 BK104.out) Try.underlying84 rfl (by kernel_rfl)) rfl ?_
       exact ⟨Zq, Zc2 GE104.out GE106.out⟩
      rw [if_neg c13] at H
      have c13b0 : (t107.toList == a1.toList) = F := beq_eq_false_iff_ne.mpr c13
      have c13b1 : (t107.toList != a1.toList) = T := bne_iff_ne.mpr c13
      (try simp only [c13b0, c13b1])
      have H' := Aside0.mk H
      clear H
      go_wp2
      go_roundg k1
      case measure => have := HK1.out; omega
      case rel => exact ⟨(wrap64 (x13_1 + 1)), (x105000_1), (x105001_1), (x105002_1), (x105003_1), (x105004_1), (x105005_1), (Zs), H', ⟨by have := HK1.out; omega⟩, ⟨Zu BK104.out⟩, ⟨Zc2 GE104.out GE106.out⟩⟩
     rw [if_neg c7] at H
     exact absurd H (by simp)
    rw [if_neg c6] at H
    exact absurd H (by simp)
   rw [if_neg c5] at H
   have c5b0 : decide (x13_1 < (l0.length : Int)) = F := decide_eq_false c5
   clear c5
   (try simp only [c5b0])
   simp only [Option.some.injEq, Prod.mk.injEq] at H
   obtain ⟨rfl, rfl, rfl, rfl, rfl, rfl, rfl⟩ := H
   go_wp2_with (first | ((with_reducible refine QaE (N := 10) rfl ?_); refine Zbx (N := 10) (cs := #[.string (⟨#[]⟩ : ByteArray), .int .i64 0, .int .i64 0, .int .i64 0, .int .i64 0, .int .i64 0]) (t := 84) ?_; intro gb108 hg w17 hbox hb; have BK108 := Aside0.mk (hbox); have GW108 := Aside0.mk (Zt w hg (Zc1 GE104.out)); have GE108 := GW108; have NB104_108 := Aside0.mk (Zn hg BK104.out); have NB108_104 := Aside0.mk NB104_108.out.symm; replace BK104 := Aside0.mk (Zi BK104.out hb); replace HB := Aside0.mk (Qaq (Zc1 GE104.out) hb); clear hb hbox hg; have hnb18 := NB108_104.out; have hnc18 := NB104_108.out; obtain ⟨hcz19_0, hfz19_0⟩ := Zy (v := (.string (⟨#[]⟩ : ByteArray))) BK108.out 0; obtain ⟨hcz19_1, hfz19_1⟩ := Zy (v := (.int .i64 0)) BK108.out 1; obtain ⟨hcz19_2, hfz19_2⟩ := Zy (v := (.int .i64 0)) BK108.out 2; obtain ⟨hcz19_3, hfz19_3⟩ := Zy (v := (.int .i64 0)) BK108.out 3; obtain ⟨hcz19_4, hfz19_4⟩ := Zy (v := (.int .i64 0)) BK108.out 4; obtain ⟨hcz19_5, hfz19_5⟩ := Zy (v := (.int .i64 0)) BK108.out 5; obtain ⟨hcz20_0, hfz20_0⟩ := Zy (v := (.string x105000_1)) BK104.out 0; obtain ⟨hcz20_1, hfz20_1⟩ := Zy (v := (.int .i64 x105001_1)) BK104.out 1; obtain ⟨hcz20_2, hfz20_2⟩ := Zy (v := (.int .i64 x105002_1)) BK104.out 2; obtain ⟨hcz20_3, hfz20_3⟩ := Zy (v := (.int .i64 x105003_1)) BK104.out 3; obtain ⟨hcz20_4, hfz20_4⟩ := Zy (v := (.int .i64 x105004_1)) BK104.out 4; obtain ⟨hcz20_5, hfz20_5⟩ := Zy (v := (.int .i64 x105005_1)) BK104.out 5))
   refine bodyPost_ret (Qcd rfl _ _ gb104 84 #[.string (⟨#[]⟩ : ByteArray), .int .i64 0, .int .i64 0, .int .i64 0, .int .i64 0, .int .i64 0] (0, 0) _ rfl (Zp2 BK104.out) Try.underlying84 rfl (by kernel_rfl)) rfl ?_
   exact ⟨Zq, Zc2 GE104.out GE108.out⟩
def Qa4.f (k : Nat) (l0 : List (S84)) (a1 : ByteArray) : Option (ByteArray × Int × Int × Int × Int × Int × Bool) := (Qay.f k l0 a1).bind fun bt110 => (some (bt110.1, bt110.2.1, bt110.2.2.1, bt110.2.2.2.1, bt110.2.2.2.2.1, bt110.2.2.2.2.2.1, bt110.2.2.2.2.2.2))
theorem Qa4.mono : ∀ a0 a1 k, LeO (Qa4.f k a0 a1) (Qa4.f (k + 1) a0 a1) := by
 intro a0 a1 k
 unfold Qa4.f
 exact ZM1 Qay.mono
set_option maxHeartbeats 8000000 in
theorem Qa4.calls (k : Nat) (A0 : Option Addr) (c0 : Nat) (l0 : List (S84)) (a1 : ByteArray) (r1 : ByteArray) (r2 : Int) (r3 : Int) (r4 : Int) (r5 : Int) (r6 : Int) (r7 : Bool) (w : World) (hr0 : Kd.C k84 w A0 l0.length l0) (hc0 : l0.length ≤ c0) (h : Qa4.f k l0 a1 = some (r1, r2, r3, r4, r5, r6, r7)) :
  Calls Try.prog 48 #[.slice A0 l0.length c0, .string a1] w fun e w' => e = .returned (.tuple #[.agg #[.string r1, .int .i64 r2, .int .i64 r3, .int .i64 r4, .int .i64 r5, .int .i64 r6], .bool r7]) ∧ Below w.heap.size w w' := by
 have hu84 := Try.underlying84
 have HR0 := Aside0.mk hr0
 have HC0 := Aside0.mk hc0
 clear hr0 hc0
 have HB := Aside0.mk (Below.refl w.heap.size w)
 have H : ((Qay.f k l0 a1).bind fun bt110 => (some (bt110.1, bt110.2.1, bt110.2.2.1, bt110.2.2.2.1, bt110.2.2.2.2.1, bt110.2.2.2.2.2.1, bt110.2.2.2.2.2.2))) = some (r1, r2, r3, r4, r5, r6, r7) := h
 clear h
 replace H := Option.bind_eq_some_iff.mp H
 obtain ⟨⟨t110, t111, t112, t113, t114, t115, t116⟩, A30, H⟩ := H
 replace H : (some (t110, t111, t112, t113, t114, t115, t116)) = some (r1, r2, r3, r4, r5, r6, r7) := H
 have A3 := Aside0.mk A30
 clear A30
 simp only [Option.some.injEq, Prod.mk.injEq] at H
 obtain ⟨rfl, rfl, rfl, rfl, rfl, rfl, rfl⟩ := H
 go_enter Try.func48, Try.ntmps48
 go_wp2_with (first | ((with_reducible refine QaE (N := 4) rfl ?_); refine Zbx (N := 4) (cs := #[.string (⟨#[]⟩ : ByteArray), .int .i64 0, .int .i64 0, .int .i64 0, .int .i64 0, .int .i64 0]) (t := 84) ?_; intro gb109 hg w4 hbox hb; have BK109 := Aside0.mk (hbox); have GW109 := Aside0.mk (Zt w hg (Zb)); have GE109 := GW109; replace HB := Aside0.mk (Qaq (Zb) hb); clear hb hbox hg) | ((with_reducible refine QaA (f := 76) rfl ?_); refine goesL_ (some 8) rfl rfl Try.func76 (by kernel_rfl) rfl #[.slice A0 l0.length c0, .string a1, .func (.func 77) #[] #[]] rfl (Zl) ?_; (with_reducible refine (Qay.calls k _ _ l0 a1  t110 t111 t112 t113 t114 t115 t116 _ ?side1 ?side2 A3.out).mono ?_); (case side1 => exact Zv (Kd.C_below HR0.out HB.out)); (case side2 => exact HC0.out); rintro e w5 ⟨rfl, hb⟩; refine ⟨_, rfl, ?_⟩; replace BK109 := Aside0.mk (Zi BK109.out hb); replace HB := Aside0.mk (Qaq (Zc1 GE109.out) hb); (try clear hb); (try clear hb2); (try clear hk); (try clear hi); obtain ⟨hcz6_0, hfz6_0⟩ := Zy (v := (.string (⟨#[]⟩ : ByteArray))) BK109.out 0; obtain ⟨hcz6_1, hfz6_1⟩ := Zy (v := (.int .i64 0)) BK109.out 1; obtain ⟨hcz6_2, hfz6_2⟩ := Zy (v := (.int .i64 0)) BK109.out 2; obtain ⟨hcz6_3, hfz6_3⟩ := Zy (v := (.int .i64 0)) BK109.out 3; obtain ⟨hcz6_4, hfz6_4⟩ := Zy (v := (.int .i64 0)) BK109.out 4; obtain ⟨hcz6_5, hfz6_5⟩ := Zy (v := (.int .i64 0)) BK109.out 5))
 refine bodyPost_ret (Qcd rfl _ _ gb109 84 #[.string t110, .int .i64 t111, .int .i64 t112, .int .i64 t113, .int .i64 t114, .int .i64 t115] (0, 0) _ rfl (Zp2 BK109.out) Try.underlying84 rfl (by kernel_rfl)) rfl ?_
 exact ⟨Zq, Zc1 GE109.out⟩
def Qa9.f (a0 a1 : Int) : Option (Int × Int) :=
 if 0 ≤ a0 ∧ a0 ≤ 18446744073709551615 ∧ 0 ≤ a1 ∧ a1 ≤ 18446744073709551615 then some (a0 * a1 / 18446744073709551616, a0 * a1 % 18446744073709551616) else none
theorem Qcg (a : Nat) (ha : a < 18446744073709551616) : Go.bits .and .u64 (a : Int) 4294967295 = ((a % 4294967296 : Nat) : Int) := by
 have h := bits_and_u64_nat a 4294967295 ha (by omega)
 have e : a &&& 4294967295 = a % 4294967296 := Nat.and_two_pow_sub_one_eq_mod a 32
 rw [e] at h
 exact h
theorem QeJ (a : Nat) : (a : Int) / 4294967296 = ((a / 4294967296 : Nat) : Int) := by omega
theorem QeK (a b : Nat) : (a : Int) * (b : Int) = ((a * b : Nat) : Int) := (Int.natCast_mul a b).symm
theorem QeI (a b : Nat) : (a : Int) + (b : Int) = ((a + b : Nat) : Int) := (Int.natCast_add a b).symm
theorem QbA (a : Nat) (ha : a < 18446744073709551616) : IntKind.u64.wrap (a : Int) = (a : Int) := by rw [IntKind.wrap_u64]; omega
theorem Qef (a : Nat) : IntKind.u64.wrap (a : Int) = ((a % 18446744073709551616 : Nat) : Int) := by rw [IntKind.wrap_u64]; omega
set_option maxHeartbeats 1000000 in
theorem Qa9.walk (x y : Nat) (hx : x < 18446744073709551616) (hy : y < 18446744073709551616) (w : World) :
  Calls Try.prog 88 #[.int .u64 x, .int .u64 y] w fun e w' => e = .returned (.tuple #[.int .u64 ((x * y / 18446744073709551616 : Nat) : Int), .int .u64 ((x * y % 18446744073709551616 : Nat) : Int)]) ∧ w' = w := by
 obtain ⟨bd, bt, bw, hhi⟩ := Lib.mul64_hi x y hx hy
 have ba := Lib.half_mul_le (a := x / 4294967296) (b := y / 4294967296) (by omega) (by omega)
 have bb := Lib.half_mul_le (a := x / 4294967296) (b := y % 4294967296) (by omega) (by omega)
 have bc := Lib.half_mul_le (a := x % 4294967296) (b := y / 4294967296) (by omega) (by omega)
 have ba' : x / 4294967296 * (y / 4294967296) < 18446744073709551616 := by omega
 have bb' : x / 4294967296 * (y % 4294967296) < 18446744073709551616 := by omega
 have bc' : x % 4294967296 * (y / 4294967296) < 18446744073709551616 := by omega
 have bh1 : x / 4294967296 * (y / 4294967296) + (x / 4294967296 * (y % 4294967296) + x % 4294967296 * (y % 4294967296) / 4294967296) / 4294967296 < 18446744073709551616 := by omega
 have bh : x / 4294967296 * (y / 4294967296) + (x / 4294967296 * (y % 4294967296) + x % 4294967296 * (y % 4294967296) / 4294967296) / 4294967296 + ((x / 4294967296 * (y % 4294967296) + x % 4294967296 * (y % 4294967296) / 4294967296) % 4294967296 + x % 4294967296 * (y / 4294967296)) / 4294967296 < 18446744073709551616 := by omega
 go_enter Try.func88, Try.ntmps88
 go_wp2
 simp only [Qcg x hx, Qcg y hy, QeJ, QeK, QeI, QbA _ bd, QbA _ bb', QbA _ bt, Qcg _ bt, QbA _ bc', QbA _ bw, QbA _ ba', QbA _ bh1, QbA _ bh, Qef (x * y)]
 rw [hhi]
 go_ret2
 exact ⟨rfl, rfl⟩
theorem Qa9.calls (a0 a1 r1 r2 : Int) (w : World) (h : Qa9.f a0 a1 = some (r1, r2)) :
  Calls Try.prog 88 #[.int .u64 a0, .int .u64 a1] w fun e w' => e = .returned (.tuple #[.int .u64 r1, .int .u64 r2]) ∧ Drawn0 w w' := by
 unfold Qa9.f at h
 by_cases c : 0 ≤ a0 ∧ a0 ≤ 18446744073709551615 ∧ 0 ≤ a1 ∧ a1 ≤ 18446744073709551615
 ·rw [if_pos c] at h
  obtain ⟨c1, c2, c3, c4⟩ := c
  obtain ⟨x, rfl⟩ := Int.eq_ofNat_of_zero_le c1
  obtain ⟨y, rfl⟩ := Int.eq_ofNat_of_zero_le c3
  have h' := Option.some.inj h
  simp only [Prod.mk.injEq] at h'
  obtain ⟨rfl, rfl⟩ := h'
  refine (Qa9.walk x y (by omega) (by omega) w).mono ?_
  rintro e w' ⟨rfl, rfl⟩
  exact ⟨rfl, Drawn0.refl _⟩
 rw [if_neg c] at h
 cases h
def Qa5.f (a0 : Int) : Option Int := if -9223372036854775808 ≤ a0 ∧ a0 ≤ 9223372036854775807 then some (a0.natAbs : Int) else none
theorem Qa5.walk (a0 : Int) (w : World) (h0 : -9223372036854775808 ≤ a0) (h1 : a0 ≤ 9223372036854775807) :
  Calls Try.prog 89 #[.int .i64 a0] w fun e w' => e = .returned (.int .u64 (a0.natAbs : Int)) ∧ w' = w := by
 go_enter Try.func89, Try.ntmps89
 go_wp2
 all_goals (go_ret; refine ⟨congrArg Ending.returned (congrArg (Value.int IntKind.u64) ?_), rfl⟩)
 all_goals go_light
 all_goals ((try simp only [IntKind.wrap_u64]); (try unfold wrap64); omega)
theorem Qa5.calls (a0 r : Int) (w : World) (h : Qa5.f a0 = some r) :
  Calls Try.prog 89 #[.int .i64 a0] w fun e w' => e = .returned (.int .u64 r) ∧ Drawn0 w w' := by
 unfold Qa5.f at h
 by_cases c : -9223372036854775808 ≤ a0 ∧ a0 ≤ 9223372036854775807
 ·rw [if_pos c] at h
  obtain rfl := Option.some.inj h
  refine (Qa5.walk a0 w c.1 c.2).mono ?_
  rintro e w' ⟨rfl, rfl⟩
  exact ⟨rfl, Drawn0.refl _⟩
 rw [if_neg c] at h
 cases h
def Qa8.f (a0 : Int) : Option Int := if 0 ≤ a0 ∧ a0 ≤ 18446744073709551615 then some (Lib.bitLen a0.toNat : Int) else none
theorem Qa8.tab (n : Nat) (h : n < Lib.len8tab.size) (hn : n ≤ 255) : ((Lib.len8tab[n]'h).toNat : Int) = (Lib.bitLen n : Int) ∧ Lib.bitLen n ≤ 8 := by
 have e := Lib.len8_of (n : Int) (by omega) (by omega)
 have l := Lib.bitLen_le8' (n : Int) (by omega) (by omega)
 rw [Int.toNat_natCast] at e l
 refine ⟨?_, l⟩
 rw [← e]
 unfold Lib.len8
 rw [Int.toNat_natCast, getElem?_pos Lib.len8tab n h]
 rfl
theorem Qa8.close (x m n k : Nat) (h : n < Lib.len8tab.size) (hn : n ≤ 255) (hx : Lib.bitLen x = k + Lib.bitLen m) (hm : n = m) (hk : k ≤ 56) :
  wrap64 ((k : Int) + wrap64 ((Lib.len8tab[n]'h).toNat : Int)) = (Lib.bitLen x : Int) := by
 obtain ⟨a, b⟩ := Qa8.tab n h hn
 subst hm
 rw [a]
 unfold wrap64
 omega
theorem Qa8.close0 (x n : Nat) (h : n < Lib.len8tab.size) (hn : n ≤ 255) (hm : n = x) :
  wrap64 (wrap64 ((Lib.len8tab[n]'h).toNat : Int)) = (Lib.bitLen x : Int) := by
 obtain ⟨a, b⟩ := Qa8.tab n h hn
 subst hm
 rw [a]
 unfold wrap64
 omega
set_option maxHeartbeats 4000000 in
theorem Qa8.walk (x : Int) (w : World) (h0 : 0 ≤ x) (h1 : x ≤ 18446744073709551615) :
  Calls Try.prog 127 #[.int .u64 x] w fun e w' => e = .returned (.int .i64 (Lib.bitLen x.toNat)) ∧ w' = w := by
 have u9 := Try.underlying9
 have u5 := Try.underlying5
 have u65 := Try.underlying131
 have u3 := Try.underlying3
 have u42 := Try.underlying129
 go_enter Try.func127, Try.ntmps127
 go_wp2
 all_goals (first | (exfalso; have := Lib.len8tab_size; omega) | skip)
 all_goals (go_ret; refine ⟨congrArg Ending.returned (congrArg (Value.int IntKind.i64) ?_), rfl⟩)
 all_goals go_light
 ·exact Qa8.close x.toNat (x.toNat / 72057594037927936) _ 56 _ (by omega) (Lib.bitLen_shift56 x.toNat (by omega) (by omega)) (by omega) (by omega)
 ·exact Qa8.close x.toNat (x.toNat / 281474976710656) _ 48 _ (by omega) (Lib.bitLen_shift48 x.toNat (by omega) (by omega)) (by omega) (by omega)
 ·exact Qa8.close x.toNat (x.toNat / 1099511627776) _ 40 _ (by omega) (Lib.bitLen_shift40 x.toNat (by omega) (by omega)) (by omega) (by omega)
 ·exact Qa8.close x.toNat (x.toNat / 4294967296) _ 32 _ (by omega) (Lib.bitLen_shift32 x.toNat (by omega) (by omega)) (by omega) (by omega)
 ·exact Qa8.close x.toNat (x.toNat / 16777216) _ 24 _ (by omega) (Lib.bitLen_shift24 x.toNat (by omega) (by omega)) (by omega) (by omega)
 ·exact Qa8.close x.toNat (x.toNat / 65536) _ 16 _ (by omega) (Lib.bitLen_shift16 x.toNat (by omega) (by omega)) (by omega) (by omega)
 ·exact Qa8.close x.toNat (x.toNat / 256) _ 8 _ (by omega) (Lib.bitLen_shift8 x.toNat (by omega) (by omega)) (by omega) (by omega)
 exact Qa8.close0 x.toNat _ _ (by omega) rfl
theorem Qa8.calls (a0 r : Int) (w : World) (h : Qa8.f a0 = some r) :
  Calls Try.prog 127 #[.int .u64 a0] w fun e w' => e = .returned (.int .i64 r) ∧ Drawn0 w w' := by
 unfold Qa8.f at h
 by_cases c : 0 ≤ a0 ∧ a0 ≤ 18446744073709551615
 ·rw [if_pos c] at h
  obtain rfl := Option.some.inj h
  refine (Qa8.walk a0 w c.1 c.2).mono ?_
  rintro e w' ⟨rfl, rfl⟩
  exact ⟨rfl, Drawn0.refl _⟩
 rw [if_neg c] at h
 cases h
def Qbf.f (a0 : Int) : Option (Int) := (Qa8.f a0).bind fun t117 => (some (wrap64 (64 - t117)))
set_option maxHeartbeats 8000000 in
theorem Qbf.calls (a0 : Int) (r : Int) (w : World) (h : Qbf.f a0 = some r) :
  Calls Try.prog 117 #[.int .u64 a0] w fun e w' => e = .returned (.int .i64 r) ∧ Drawn0 w w' := by
 have H : ((Qa8.f a0).bind fun t117 => (some (wrap64 (64 - t117)))) = some r := h
 clear h
 replace H := Option.bind_eq_some_iff.mp H
 obtain ⟨t117, A20, H⟩ := H
 replace H : (some (wrap64 (64 - t117))) = some r := H
 have A2 := Aside0.mk A20
 clear A20
 obtain rfl := Option.some.inj H
 go_enter Try.func117, Try.ntmps117
 go_wp2_with (first | ((with_reducible refine QaA (f := 127) rfl ?_); refine goesL_ (some 4) rfl rfl Try.func127 (by kernel_rfl) rfl #[.int .u64 a0] rfl (Zl) ?_; (with_reducible refine (Qa8.calls a0 t117 _ A2.out).mono ?_); rintro e w' ⟨rfl, ⟨nd, rfl⟩⟩; refine ⟨_, rfl, ?_⟩))
 go_ret
 exact ⟨Zs, Zd⟩
mutual
def Qat.j2 : Nat → Int → Int → Int → Int → Int → Int → Int → Int → Option (Int × Int)
 | 0, _, _, _, _, _, _, _, _ => none
 | k + 1, x2, x8, x9, x10, x11, x13, x14, x15 => if x9 = 0 then (none) else (Qat.l1 k x2 x8 x9 x10 x14 x15 (IntKind.u64.wrap ((IntKind.u64.wrap ((IntKind.u64.wrap ((IntKind.u64.wrap (x11 * 4294967296)) + x13)) - (IntKind.u64.wrap (x15 * x2)))) - (IntKind.u64.wrap ((IntKind.u64.wrap (Int.tdiv (IntKind.u64.wrap ((IntKind.u64.wrap ((IntKind.u64.wrap (x11 * 4294967296)) + x13)) - (IntKind.u64.wrap (x15 * x2)))) x9)) * x9)))) (IntKind.u64.wrap ((IntKind.u64.wrap ((IntKind.u64.wrap (x11 * 4294967296)) + x13)) - (IntKind.u64.wrap (x15 * x2)))) (IntKind.u64.wrap (Int.tdiv (IntKind.u64.wrap ((IntKind.u64.wrap ((IntKind.u64.wrap (x11 * 4294967296)) + x13)) - (IntKind.u64.wrap (x15 * x2)))) x9)))
def Qat.l1 : Nat → Int → Int → Int → Int → Int → Int → Int → Int → Int → Option (Int × Int)
 | 0, _, _, _, _, _, _, _, _, _ => none
 | k + 1, x2, x8, x9, x10, x14, x15, x16, x17, x18 => if x18 ≥ 4294967296 then (Qat.j4 k x2 x8 x9 x10 x14 x15 x16 x17 x18 T) else (Qat.j4 k x2 x8 x9 x10 x14 x15 x16 x17 x18 (decide ((IntKind.u64.wrap (x18 * x10)) > (IntKind.u64.wrap ((IntKind.u64.wrap (4294967296 * x16)) + x14)))))
def Qat.j4 : Nat → Int → Int → Int → Int → Int → Int → Int → Int → Int → Bool → Option (Int × Int)
 | 0, _, _, _, _, _, _, _, _, _, _ => none
 | k + 1, x2, x8, x9, x10, x14, x15, x16, x17, x18, x113 => if x113 = T then (if (IntKind.u64.wrap (x16 + x9)) ≥ 4294967296 then (if 0 ≤ x8 then (some (IntKind.u64.wrap ((IntKind.u64.wrap (x15 * 4294967296)) + (IntKind.u64.wrap (x18 - 1))), shr .u64 (IntKind.u64.wrap ((IntKind.u64.wrap ((IntKind.u64.wrap (x17 * 4294967296)) + x14)) - (IntKind.u64.wrap ((IntKind.u64.wrap (x18 - 1)) * x2)))) x8)) else (none)) else (Qat.l1 k x2 x8 x9 x10 x14 x15 (IntKind.u64.wrap (x16 + x9)) x17 (IntKind.u64.wrap (x18 - 1)))) else (if 0 ≤ x8 then (some (IntKind.u64.wrap ((IntKind.u64.wrap (x15 * 4294967296)) + x18), shr .u64 (IntKind.u64.wrap ((IntKind.u64.wrap ((IntKind.u64.wrap (x17 * 4294967296)) + x14)) - (IntKind.u64.wrap (x18 * x2)))) x8)) else (none))
def Qat.l0 : Nat → Int → Int → Int → Int → Int → Int → Int → Int → Int → Option (Int × Int)
 | 0, _, _, _, _, _, _, _, _, _ => none
 | k + 1, x2, x8, x9, x10, x11, x13, x14, x15, x16 => if x15 ≥ 4294967296 then (Qat.j1 k x2 x8 x9 x10 x11 x13 x14 x15 x16 T) else (Qat.j1 k x2 x8 x9 x10 x11 x13 x14 x15 x16 (decide ((IntKind.u64.wrap (x15 * x10)) > (IntKind.u64.wrap ((IntKind.u64.wrap (4294967296 * x16)) + x13)))))
def Qat.j1 : Nat → Int → Int → Int → Int → Int → Int → Int → Int → Int → Bool → Option (Int × Int)
 | 0, _, _, _, _, _, _, _, _, _, _ => none
 | k + 1, x2, x8, x9, x10, x11, x13, x14, x15, x16, x78 => if x78 = T then (if (IntKind.u64.wrap (x16 + x9)) ≥ 4294967296 then (Qat.j2 k x2 x8 x9 x10 x11 x13 x14 (IntKind.u64.wrap (x15 - 1))) else (Qat.l0 k x2 x8 x9 x10 x11 x13 x14 (IntKind.u64.wrap (x15 - 1)) (IntKind.u64.wrap (x16 + x9)))) else (Qat.j2 k x2 x8 x9 x10 x11 x13 x14 x15)
end
def Qat.f (k : Nat) (a0 : Int) (a1 : Int) (a2 : Int) : Option (Int × Int) := if a2 = 0 then (none) else (if a2 ≤ a0 then (none) else (if a0 = 0 then (some (IntKind.u64.wrap (Int.tdiv a1 a2), Int.tmod a1 a2)) else ((Qbf.f a2).bind fun t118 => (if 0 ≤ (IntKind.u64.wrap (t118)) then (if 0 ≤ (IntKind.u64.wrap (64 - (IntKind.u64.wrap (t118)))) then (if ((shl .u64 a2 (IntKind.u64.wrap (t118))) / 4294967296) = 0 then (none) else (Qat.l0 k (shl .u64 a2 (IntKind.u64.wrap (t118))) (IntKind.u64.wrap (t118)) ((shl .u64 a2 (IntKind.u64.wrap (t118))) / 4294967296) (Go.bits .and .u64 (shl .u64 a2 (IntKind.u64.wrap (t118))) 4294967295) (Go.bits .or .u64 (shl .u64 a0 (IntKind.u64.wrap (t118))) (shr .u64 a1 (IntKind.u64.wrap (64 - (IntKind.u64.wrap (t118)))))) ((shl .u64 a1 (IntKind.u64.wrap (t118))) / 4294967296) (Go.bits .and .u64 (shl .u64 a1 (IntKind.u64.wrap (t118))) 4294967295) (IntKind.u64.wrap (Int.tdiv (Go.bits .or .u64 (shl .u64 a0 (IntKind.u64.wrap (t118))) (shr .u64 a1 (IntKind.u64.wrap (64 - (IntKind.u64.wrap (t118)))))) ((shl .u64 a2 (IntKind.u64.wrap (t118))) / 4294967296))) (IntKind.u64.wrap ((Go.bits .or .u64 (shl .u64 a0 (IntKind.u64.wrap (t118))) (shr .u64 a1 (IntKind.u64.wrap (64 - (IntKind.u64.wrap (t118)))))) - (IntKind.u64.wrap ((IntKind.u64.wrap (Int.tdiv (Go.bits .or .u64 (shl .u64 a0 (IntKind.u64.wrap (t118))) (shr .u64 a1 (IntKind.u64.wrap (64 - (IntKind.u64.wrap (t118)))))) ((shl .u64 a2 (IntKind.u64.wrap (t118))) / 4294967296))) * ((shl .u64 a2 (IntKind.u64.wrap (t118))) / 4294967296))))))) else (none)) else (none)))))
theorem Qat.mono_l : ∀ k, (∀ y0 y1 y2 y3 y4 y5 y6 y7, LeO (Qat.j2 k y0 y1 y2 y3 y4 y5 y6 y7) (Qat.j2 (k + 1) y0 y1 y2 y3 y4 y5 y6 y7)) ∧ (∀ y0 y1 y2 y3 y4 y5 y6 y7 y8, LeO (Qat.l1 k y0 y1 y2 y3 y4 y5 y6 y7 y8) (Qat.l1 (k + 1) y0 y1 y2 y3 y4 y5 y6 y7 y8)) ∧ (∀ y0 y1 y2 y3 y4 y5 y6 y7 y8 y9, LeO (Qat.j4 k y0 y1 y2 y3 y4 y5 y6 y7 y8 y9) (Qat.j4 (k + 1) y0 y1 y2 y3 y4 y5 y6 y7 y8 y9)) ∧ (∀ y0 y1 y2 y3 y4 y5 y6 y7 y8, LeO (Qat.l0 k y0 y1 y2 y3 y4 y5 y6 y7 y8) (Qat.l0 (k + 1) y0 y1 y2 y3 y4 y5 y6 y7 y8)) ∧ (∀ y0 y1 y2 y3 y4 y5 y6 y7 y8 y9, LeO (Qat.j1 k y0 y1 y2 y3 y4 y5 y6 y7 y8 y9) (Qat.j1 (k + 1) y0 y1 y2 y3 y4 y5 y6 y7 y8 y9))
 | 0 => ⟨fun _ _ _ _ _ _ _ _ r h => by simp [Qat.j2] at h, fun _ _ _ _ _ _ _ _ _ r h => by simp [Qat.l1] at h, fun _ _ _ _ _ _ _ _ _ _ r h => by simp [Qat.j4] at h, fun _ _ _ _ _ _ _ _ _ r h => by simp [Qat.l0] at h, fun _ _ _ _ _ _ _ _ _ _ r h => by simp [Qat.j1] at h⟩
 | k + 1 => by
  obtain ⟨ih0, ih1, ih2, ih3, ih4⟩ := Qat.mono_l k
  refine ⟨?_, ?_, ?_, ?_, ?_⟩
  ·intro y0 y1 y2 y3 y4 y5 y6 y7
   unfold Qat.j2
   exact ZM5 ih0 ih1 ih2 ih3 ih4
  ·intro y0 y1 y2 y3 y4 y5 y6 y7 y8
   unfold Qat.l1
   exact ZM5 ih0 ih1 ih2 ih3 ih4
  ·intro y0 y1 y2 y3 y4 y5 y6 y7 y8 y9
   unfold Qat.j4
   exact ZM5 ih0 ih1 ih2 ih3 ih4
  ·intro y0 y1 y2 y3 y4 y5 y6 y7 y8
   unfold Qat.l0
   exact ZM5 ih0 ih1 ih2 ih3 ih4
  intro y0 y1 y2 y3 y4 y5 y6 y7 y8 y9
  unfold Qat.j1
  exact ZM5 ih0 ih1 ih2 ih3 ih4
theorem Qat.mono : ∀ a0 a1 a2 k, LeO (Qat.f k a0 a1 a2) (Qat.f (k + 1) a0 a1 a2) := by
 intro a0 a1 a2 k
 obtain ⟨ih0, ih1, ih2, ih3, ih4⟩ := Qat.mono_l k
 unfold Qat.f
 exact ZM5 ih0 ih1 ih2 ih3 ih4
set_option maxHeartbeats 8000000 in
theorem Qat.calls (k : Nat) (a0 : Int) (a1 : Int) (a2 : Int) (r1 : Int) (r2 : Int) (w : World) (h : Qat.f k a0 a1 a2 = some (r1, r2)) :
  Calls Try.prog 90 #[.int .u64 a0, .int .u64 a1, .int .u64 a2] w fun e w' => e = .returned (.tuple #[.int .u64 r1, .int .u64 r2]) ∧ Drawn0 w w' := by
 have H : (if a2 = 0 then (none) else (if a2 ≤ a0 then (none) else (if a0 = 0 then (some (IntKind.u64.wrap (Int.tdiv a1 a2), Int.tmod a1 a2)) else ((Qbf.f a2).bind fun t118 => (if 0 ≤ (IntKind.u64.wrap (t118)) then (if 0 ≤ (IntKind.u64.wrap (64 - (IntKind.u64.wrap (t118)))) then (if ((shl .u64 a2 (IntKind.u64.wrap (t118))) / 4294967296) = 0 then (none) else (Qat.l0 k (shl .u64 a2 (IntKind.u64.wrap (t118))) (IntKind.u64.wrap (t118)) ((shl .u64 a2 (IntKind.u64.wrap (t118))) / 4294967296) (Go.bits .and .u64 (shl .u64 a2 (IntKind.u64.wrap (t118))) 4294967295) (Go.bits .or .u64 (shl .u64 a0 (IntKind.u64.wrap (t118))) (shr .u64 a1 (IntKind.u64.wrap (64 - (IntKind.u64.wrap (t118)))))) ((shl .u64 a1 (IntKind.u64.wrap (t118))) / 4294967296) (Go.bits .and .u64 (shl .u64 a1 (IntKind.u64.wrap (t118))) 4294967295) (IntKind.u64.wrap (Int.tdiv (Go.bits .or .u64 (shl .u64 a0 (IntKind.u64.wrap (t118))) (shr .u64 a1 (IntKind.u64.wrap (64 - (IntKind.u64.wrap (t118)))))) ((shl .u64 a2 (IntKind.u64.wrap (t118))) / 4294967296))) (IntKind.u64.wrap ((Go.bits .or .u64 (shl .u64 a0 (IntKind.u64.wrap (t118))) (shr .u64 a1 (IntKind.u64.wrap (64 - (IntKind.u64.wrap (t118)))))) - (IntKind.u64.wrap ((IntKind.u64.wrap (Int.tdiv (Go.bits .or .u64 (shl .u64 a0 (IntKind.u64.wrap (t118))) (shr .u64 a1 (IntKind.u64.wrap (64 - (IntKind.u64.wrap (t118)))))) ((shl .u64 a2 (IntKind.u64.wrap (t118))) / 4294967296))) * ((shl .u64 a2 (IntKind.u64.wrap (t118))) / 4294967296))))))) else (none)) else (none)))))) = some (r1, r2) := h
 clear h
 by_cases c4 : a2 = 0
 ·rw [if_pos c4] at H
  exact absurd H (by simp)
 rw [if_neg c4] at H
 have c4b0 : (a2 == 0) = F := beq_eq_false_iff_ne.mpr c4
 have c4b1 : (a2 != 0) = T := bne_iff_ne.mpr c4
 by_cases c5 : a2 ≤ a0
 ·rw [if_pos c5] at H
  exact absurd H (by simp)
 rw [if_neg c5] at H
 have c5b0 : decide (a2 ≤ a0) = F := decide_eq_false c5
 clear c5
 by_cases c6 : a0 = 0
 ·rw [if_pos c6] at H
  have c6b0 : (a0 == 0) = T := beq_iff_eq.mpr c6
  have c6b1 : (a0 != 0) = F := bne_eq_false_iff_eq.mpr c6
  clear c6
  simp only [Option.some.injEq, Prod.mk.injEq] at H
  obtain ⟨rfl, rfl⟩ := H
  go_enter Try.func90, Try.ntmps90
  go_wp2
  repeat (go_quiet (fail); try go_wp2)
  go_ret2
  exact ⟨Zs, Zd⟩
 rw [if_neg c6] at H
 have c6b0 : (a0 == 0) = F := beq_eq_false_iff_ne.mpr c6
 have c6b1 : (a0 != 0) = T := bne_iff_ne.mpr c6
 replace H := Option.bind_eq_some_iff.mp H
 obtain ⟨t118, A70, H⟩ := H
 replace H : (if 0 ≤ (IntKind.u64.wrap (t118)) then (if 0 ≤ (IntKind.u64.wrap (64 - (IntKind.u64.wrap (t118)))) then (if ((shl .u64 a2 (IntKind.u64.wrap (t118))) / 4294967296) = 0 then (none) else (Qat.l0 k (shl .u64 a2 (IntKind.u64.wrap (t118))) (IntKind.u64.wrap (t118)) ((shl .u64 a2 (IntKind.u64.wrap (t118))) / 4294967296) (Go.bits .and .u64 (shl .u64 a2 (IntKind.u64.wrap (t118))) 4294967295) (Go.bits .or .u64 (shl .u64 a0 (IntKind.u64.wrap (t118))) (shr .u64 a1 (IntKind.u64.wrap (64 - (IntKind.u64.wrap (t118)))))) ((shl .u64 a1 (IntKind.u64.wrap (t118))) / 4294967296) (Go.bits .and .u64 (shl .u64 a1 (IntKind.u64.wrap (t118))) 4294967295) (IntKind.u64.wrap (Int.tdiv (Go.bits .or .u64 (shl .u64 a0 (IntKind.u64.wrap (t118))) (shr .u64 a1 (IntKind.u64.wrap (64 - (IntKind.u64.wrap (t118)))))) ((shl .u64 a2 (IntKind.u64.wrap (t118))) / 4294967296))) (IntKind.u64.wrap ((Go.bits .or .u64 (shl .u64 a0 (IntKind.u64.wrap (t118))) (shr .u64 a1 (IntKind.u64.wrap (64 - (IntKind.u64.wrap (t118)))))) - (IntKind.u64.wrap ((IntKind.u64.wrap (Int.tdiv (Go.bits .or .u64 (shl .u64 a0 (IntKind.u64.wrap (t118))) (shr .u64 a1 (IntKind.u64.wrap (64 - (IntKind.u64.wrap (t118)))))) ((shl .u64 a2 (IntKind.u64.wrap (t118))) / 4294967296))) * ((shl .u64 a2 (IntKind.u64.wrap (t118))) / 4294967296))))))) else (none)) else (none)) = some (r1, r2) := H
 have A7 := Aside0.mk A70
 clear A70
 obtain ⟨ji8, hji8⟩ : ∃ j_ : Int, (IntKind.u64.wrap (t118)) = j_ := ⟨_, rfl⟩
 replace H : (if 0 ≤ (ji8) then (if 0 ≤ (IntKind.u64.wrap (64 - (ji8))) then (if ((shl .u64 a2 (ji8)) / 4294967296) = 0 then (none) else (Qat.l0 k (shl .u64 a2 (ji8)) ji8 ((shl .u64 a2 (ji8)) / 4294967296) (Go.bits .and .u64 (shl .u64 a2 (ji8)) 4294967295) (Go.bits .or .u64 (shl .u64 a0 (ji8)) (shr .u64 a1 (IntKind.u64.wrap (64 - (ji8))))) ((shl .u64 a1 (ji8)) / 4294967296) (Go.bits .and .u64 (shl .u64 a1 (ji8)) 4294967295) (IntKind.u64.wrap (Int.tdiv (Go.bits .or .u64 (shl .u64 a0 (ji8)) (shr .u64 a1 (IntKind.u64.wrap (64 - (ji8))))) ((shl .u64 a2 (ji8)) / 4294967296))) (IntKind.u64.wrap ((Go.bits .or .u64 (shl .u64 a0 (ji8)) (shr .u64 a1 (IntKind.u64.wrap (64 - (ji8))))) - (IntKind.u64.wrap ((IntKind.u64.wrap (Int.tdiv (Go.bits .or .u64 (shl .u64 a0 (ji8)) (shr .u64 a1 (IntKind.u64.wrap (64 - (ji8))))) ((shl .u64 a2 (ji8)) / 4294967296))) * ((shl .u64 a2 (ji8)) / 4294967296))))))) else (none)) else (none)) = some (r1, r2) := by first | (rw [hji8] at H; exact H) | (simp only [hji8] at H ⊢; exact H)
 (try rw [hji8] at A7)
 by_cases c9 : 0 ≤ (ji8)
 ·rw [if_pos c9] at H
  have c9b0 := eq_true c9
  have c9b1 : decide (0 ≤ (ji8)) = T := decide_eq_true c9
  clear c9
  obtain ⟨ji10, hji10⟩ : ∃ j_ : Int, (shl .u64 a2 (ji8)) = j_ := ⟨_, rfl⟩
  replace H : (if 0 ≤ (IntKind.u64.wrap (64 - (ji8))) then (if ((ji10) / 4294967296) = 0 then (none) else (Qat.l0 k ji10 ji8 ((ji10) / 4294967296) (Go.bits .and .u64 (ji10) 4294967295) (Go.bits .or .u64 (shl .u64 a0 (ji8)) (shr .u64 a1 (IntKind.u64.wrap (64 - (ji8))))) ((shl .u64 a1 (ji8)) / 4294967296) (Go.bits .and .u64 (shl .u64 a1 (ji8)) 4294967295) (IntKind.u64.wrap (Int.tdiv (Go.bits .or .u64 (shl .u64 a0 (ji8)) (shr .u64 a1 (IntKind.u64.wrap (64 - (ji8))))) ((ji10) / 4294967296))) (IntKind.u64.wrap ((Go.bits .or .u64 (shl .u64 a0 (ji8)) (shr .u64 a1 (IntKind.u64.wrap (64 - (ji8))))) - (IntKind.u64.wrap ((IntKind.u64.wrap (Int.tdiv (Go.bits .or .u64 (shl .u64 a0 (ji8)) (shr .u64 a1 (IntKind.u64.wrap (64 - (ji8))))) ((ji10) / 4294967296))) * ((ji10) / 4294967296))))))) else (none)) = some (r1, r2) := by first | (rw [hji10] at H; exact H) | (simp only [hji10] at H ⊢; exact H)
  (try rw [hji10] at A7)
  have hji10_ : (IntKind.u64.wrap (a2 * 2 ^ min (ji8).toNat 64)) = ji10 := hji10
  have hji10z : (ji8) ≤ 64 → (IntKind.u64.wrap (a2 * 2 ^ (ji8).toNat)) = ji10 := Qcj hji10
  have c11b0 := eq_true (Ze : 0 ≤ (ji8))
  obtain ⟨ji12, hji12⟩ : ∃ j_ : Int, (shl .u64 a0 (ji8)) = j_ := ⟨_, rfl⟩
  replace H : (if 0 ≤ (IntKind.u64.wrap (64 - (ji8))) then (if ((ji10) / 4294967296) = 0 then (none) else (Qat.l0 k ji10 ji8 ((ji10) / 4294967296) (Go.bits .and .u64 (ji10) 4294967295) (Go.bits .or .u64 (ji12) (shr .u64 a1 (IntKind.u64.wrap (64 - (ji8))))) ((shl .u64 a1 (ji8)) / 4294967296) (Go.bits .and .u64 (shl .u64 a1 (ji8)) 4294967295) (IntKind.u64.wrap (Int.tdiv (Go.bits .or .u64 (ji12) (shr .u64 a1 (IntKind.u64.wrap (64 - (ji8))))) ((ji10) / 4294967296))) (IntKind.u64.wrap ((Go.bits .or .u64 (ji12) (shr .u64 a1 (IntKind.u64.wrap (64 - (ji8))))) - (IntKind.u64.wrap ((IntKind.u64.wrap (Int.tdiv (Go.bits .or .u64 (ji12) (shr .u64 a1 (IntKind.u64.wrap (64 - (ji8))))) ((ji10) / 4294967296))) * ((ji10) / 4294967296))))))) else (none)) = some (r1, r2) := by first | (rw [hji12] at H; exact H) | (simp only [hji12] at H ⊢; exact H)
  (try rw [hji12] at A7)
  have hji12_ : (IntKind.u64.wrap (a0 * 2 ^ min (ji8).toNat 64)) = ji12 := hji12
  have hji12z : (ji8) ≤ 64 → (IntKind.u64.wrap (a0 * 2 ^ (ji8).toNat)) = ji12 := Qcj hji12
  obtain ⟨ji13, hji13⟩ : ∃ j_ : Int, (IntKind.u64.wrap (64 - (ji8))) = j_ := ⟨_, rfl⟩
  replace H : (if 0 ≤ (ji13) then (if ((ji10) / 4294967296) = 0 then (none) else (Qat.l0 k ji10 ji8 ((ji10) / 4294967296) (Go.bits .and .u64 (ji10) 4294967295) (Go.bits .or .u64 (ji12) (shr .u64 a1 (ji13))) ((shl .u64 a1 (ji8)) / 4294967296) (Go.bits .and .u64 (shl .u64 a1 (ji8)) 4294967295) (IntKind.u64.wrap (Int.tdiv (Go.bits .or .u64 (ji12) (shr .u64 a1 (ji13))) ((ji10) / 4294967296))) (IntKind.u64.wrap ((Go.bits .or .u64 (ji12) (shr .u64 a1 (ji13))) - (IntKind.u64.wrap ((IntKind.u64.wrap (Int.tdiv (Go.bits .or .u64 (ji12) (shr .u64 a1 (ji13))) ((ji10) / 4294967296))) * ((ji10) / 4294967296))))))) else (none)) = some (r1, r2) := by first | (rw [hji13] at H; exact H) | (simp only [hji13] at H ⊢; exact H)
  (try rw [hji13] at A7)
  by_cases c14 : 0 ≤ (ji13)
  ·rw [if_pos c14] at H
   have c14b0 := eq_true c14
   have c14b1 : decide (0 ≤ (ji13)) = T := decide_eq_true c14
   clear c14
   obtain ⟨ji15, hji15⟩ : ∃ j_ : Int, (shr .u64 a1 (ji13)) = j_ := ⟨_, rfl⟩
   replace H : (if ((ji10) / 4294967296) = 0 then (none) else (Qat.l0 k ji10 ji8 ((ji10) / 4294967296) (Go.bits .and .u64 (ji10) 4294967295) (Go.bits .or .u64 (ji12) (ji15)) ((shl .u64 a1 (ji8)) / 4294967296) (Go.bits .and .u64 (shl .u64 a1 (ji8)) 4294967295) (IntKind.u64.wrap (Int.tdiv (Go.bits .or .u64 (ji12) (ji15)) ((ji10) / 4294967296))) (IntKind.u64.wrap ((Go.bits .or .u64 (ji12) (ji15)) - (IntKind.u64.wrap ((IntKind.u64.wrap (Int.tdiv (Go.bits .or .u64 (ji12) (ji15)) ((ji10) / 4294967296))) * ((ji10) / 4294967296))))))) = some (r1, r2) := by first | (rw [hji15] at H; exact H) | (simp only [hji15] at H ⊢; exact H)
   (try rw [hji15] at A7)
   have hji15_ : (a1 / 2 ^ min (ji13).toNat 64) = ji15 := hji15
   have hji15z : (ji13) ≤ 64 → (a1 / 2 ^ (ji13).toNat) = ji15 := Qck hji15
   have c16b0 := eq_true (Ze : 0 ≤ (ji8))
   obtain ⟨ji17, hji17⟩ : ∃ j_ : Int, (shl .u64 a1 (ji8)) = j_ := ⟨_, rfl⟩
   replace H : (if ((ji10) / 4294967296) = 0 then (none) else (Qat.l0 k ji10 ji8 ((ji10) / 4294967296) (Go.bits .and .u64 (ji10) 4294967295) (Go.bits .or .u64 (ji12) (ji15)) ((ji17) / 4294967296) (Go.bits .and .u64 (ji17) 4294967295) (IntKind.u64.wrap (Int.tdiv (Go.bits .or .u64 (ji12) (ji15)) ((ji10) / 4294967296))) (IntKind.u64.wrap ((Go.bits .or .u64 (ji12) (ji15)) - (IntKind.u64.wrap ((IntKind.u64.wrap (Int.tdiv (Go.bits .or .u64 (ji12) (ji15)) ((ji10) / 4294967296))) * ((ji10) / 4294967296))))))) = some (r1, r2) := by first | (rw [hji17] at H; exact H) | (simp only [hji17] at H ⊢; exact H)
   (try rw [hji17] at A7)
   have hji17_ : (IntKind.u64.wrap (a1 * 2 ^ min (ji8).toNat 64)) = ji17 := hji17
   have hji17z : (ji8) ≤ 64 → (IntKind.u64.wrap (a1 * 2 ^ (ji8).toNat)) = ji17 := Qcj hji17
   by_cases c18 : ((ji10) / 4294967296) = 0
   ·rw [if_pos c18] at H
    exact absurd H (by simp)
   rw [if_neg c18] at H
   have c18b0 : (((ji10) / 4294967296) == 0) = F := beq_eq_false_iff_ne.mpr c18
   have c18b1 : (((ji10) / 4294967296) != 0) = T := bne_iff_ne.mpr c18
   have HC19 := Aside0.mk H
   clear H
   go_enter Try.func90, Try.ntmps90
   go_upto_block 0 with (first | (go_at_call 117; (with_reducible refine (Qbf.calls a2 t118 _ A7.out).mono ?_); rintro e w' ⟨rfl, ⟨nd, rfl⟩⟩; (try first | exact ⟨rfl, _, World.drewN_drewN _ _ _⟩ | exact ⟨rfl, _, Eq.trans (World.drewN_drewN _ _ _) (congrArg (World.drewN _) (Nat.add_assoc _ _ _))⟩)))
   repeat (go_quiet (first | (go_at_call 117; (with_reducible refine (Qbf.calls a2 t118 _ A7.out).mono ?_); rintro e w' ⟨rfl, ⟨nd, rfl⟩⟩; (try first | exact ⟨rfl, _, World.drewN_drewN _ _ _⟩ | exact ⟨rfl, _, Eq.trans (World.drewN_drewN _ _ _) (congrArg (World.drewN _) (Nat.add_assoc _ _ _))⟩))); go_upto_block 0 with (first | (go_at_call 117; (with_reducible refine (Qbf.calls a2 t118 _ A7.out).mono ?_); rintro e w' ⟨rfl, ⟨nd, rfl⟩⟩; (try first | exact ⟨rfl, _, World.drewN_drewN _ _ _⟩ | exact ⟨rfl, _, Eq.trans (World.drewN_drewN _ _ _) (congrArg (World.drewN _) (Nat.add_assoc _ _ _))⟩))))
   (try simp only [Act.put, Zj, Zk, Zm])
   go_cut [15] (fun v15 wc => ∃ (kq : Nat) (x15_18 : Int), v15 = .int .u64 x15_18 ∧ Aside0 (Qat.j2 kq ji10 ji8 ((ji10) / 4294967296) (Go.bits .and .u64 (ji10) 4294967295) (Go.bits .or .u64 (ji12) (ji15)) ((ji17) / 4294967296) (Go.bits .and .u64 (ji17) 4294967295) x15_18 = some (r1, r2)) ∧ Aside0 (kq ≤ k) ∧ Drawn0 w wc)
   case first =>
    have H := HC19.out
    clear HC19
    have H' := Aside0.mk H
    clear H
    go_wp2
    repeat (go_quiet (fail); try go_wp2)
    go_loopg [15, 16] k (fun kq v15 v16 w' => ∃ (x15_1 : Int) (x16_1 : Int), v15 = .int .u64 x15_1 ∧ v16 = .int .u64 x16_1 ∧ Aside0 (Qat.l0 kq ji10 ji8 ((ji10) / 4294967296) (Go.bits .and .u64 (ji10) 4294967295) (Go.bits .or .u64 (ji12) (ji15)) ((ji17) / 4294967296) (Go.bits .and .u64 (ji17) 4294967295) x15_1 x16_1 = some (r1, r2)) ∧ Aside0 (kq ≤ k) ∧ Drawn0 w w')
    case atStart => exact ⟨(IntKind.u64.wrap (Int.tdiv (Go.bits .or .u64 (ji12) (ji15)) ((ji10) / 4294967296))), (IntKind.u64.wrap ((Go.bits .or .u64 (ji12) (ji15)) - (IntKind.u64.wrap ((IntKind.u64.wrap (Int.tdiv (Go.bits .or .u64 (ji12) (ji15)) ((ji10) / 4294967296))) * ((ji10) / 4294967296))))), (by first | rfl | (simp; done) | (simp only [← hji10, ← hji12, ← hji15] <;> (first | rfl | simp)) | (simp [*]; done)), (by first | rfl | (simp; done) | (simp only [← hji10, ← hji12, ← hji15] <;> (first | rfl | simp)) | (simp [*]; done)), H', ⟨Nat.le_refl _⟩, Zd⟩
    case round =>
     clear H'
     try clear c1
     try clear p2
     try clear c4
     try clear c4b0
     try clear c4b1
     try clear c5
     try clear c5b0
     try clear c6
     try clear c6b0
     try clear c6b1
     try clear c9
     try clear c9b0
     try clear c9b1
     try clear c11
     try clear c11b0
     try clear c14
     try clear c14b0
     try clear c14b1
     try clear c16
     try clear c16b0
     try clear c18
     try clear c18b0
     try clear c18b1
     obtain ⟨x15_1, x16_1, rfl, rfl, HA, HK1, ⟨m1, rfl⟩⟩ := hrel
     cases gk with
     | zero => exact absurd HA.out (by simp [Qat.l0])
     | succ k1 =>
      have H := HA.out
      clear HA
      simp only [Qat.l0] at H
      have HC20 := Aside0.mk H
      clear H
      go_upto_region 17 with (fail)
      repeat (go_quiet (fail); go_upto_region 17 with (fail))
      go_cut [78] (fun v78 wc => ∃ (kq : Nat) (x78_19 : Bool), v78 = .bool x78_19 ∧ Aside0 (Qat.j1 kq ji10 ji8 ((ji10) / 4294967296) (Go.bits .and .u64 (ji10) 4294967295) (Go.bits .or .u64 (ji12) (ji15)) ((ji17) / 4294967296) (Go.bits .and .u64 (ji17) 4294967295) x15_1 x16_1 x78_19 = some (r1, r2)) ∧ Aside0 (kq ≤ k1) ∧ Drawn0 w wc)
      case first =>
       have H := HC20.out
       clear HC20
       by_cases c21 : x15_1 ≥ 4294967296
       ·rw [if_pos c21] at H
        have c21b0 : decide (4294967296 ≤ x15_1) = T := decide_eq_true c21
        clear c21
        have H' := Aside0.mk H
        clear H
        go_wp2
        repeat (go_quiet (fail); try go_wp2)
        go_meet
        case rel => exact ⟨_, (T), (Zs), H', ⟨by have := HK1.out; first | omega | exact Nat.le_refl _⟩, Zd⟩
       rw [if_neg c21] at H
       have c21b0 : decide (4294967296 ≤ x15_1) = F := decide_eq_false c21
       clear c21
       have H' := Aside0.mk H
       clear H
       go_wp2
       repeat (go_quiet (fail); try go_wp2)
       go_meet
       case rel => exact ⟨_, (decide ((IntKind.u64.wrap (x15_1 * (Go.bits .and .u64 (ji10) 4294967295))) > (IntKind.u64.wrap ((IntKind.u64.wrap (4294967296 * x16_1)) + ((ji17) / 4294967296))))), (by first | rfl | (simp; done) | (simp only [← hji10, ← hji17] <;> (first | rfl | simp)) | (simp [*]; done)), H', ⟨by have := HK1.out; first | omega | exact Nat.le_refl _⟩, Zd⟩
      case rest =>
       clear HC20
       try clear c1
       try clear c2
       try clear p2
       try clear c4
       try clear c4b0
       try clear c4b1
       try clear c5
       try clear c5b0
       try clear c6
       try clear c6b0
       try clear c6b1
       try clear c9
       try clear c9b0
       try clear c9b1
       try clear c11
       try clear c11b0
       try clear c14
       try clear c14b0
       try clear c14b1
       try clear c16
       try clear c16b0
       try clear c18
       try clear c18b0
       try clear c18b1
       try clear c21
       try clear c21b0
       try clear p2
       obtain ⟨kq, x78_19, rfl, HA, HJ19, ⟨mc19, rfl⟩⟩ := hcut
       cases kq with
       | zero => exact absurd HA.out (by simp [Qat.j1])
       | succ kj19 =>
        have H := HA.out
        clear HA
        simp only [Qat.j1] at H
        by_cases c22 : x78_19 = T
        ·subst c22
         have H1 : (if (IntKind.u64.wrap (x16_1 + ((ji10) / 4294967296))) ≥ 4294967296 then (Qat.j2 kj19 ji10 ji8 ((ji10) / 4294967296) (Go.bits .and .u64 (ji10) 4294967295) (Go.bits .or .u64 (ji12) (ji15)) ((ji17) / 4294967296) (Go.bits .and .u64 (ji17) 4294967295) (IntKind.u64.wrap (x15_1 - 1))) else (Qat.l0 kj19 ji10 ji8 ((ji10) / 4294967296) (Go.bits .and .u64 (ji10) 4294967295) (Go.bits .or .u64 (ji12) (ji15)) ((ji17) / 4294967296) (Go.bits .and .u64 (ji17) 4294967295) (IntKind.u64.wrap (x15_1 - 1)) (IntKind.u64.wrap (x16_1 + ((ji10) / 4294967296))))) = some (r1, r2) := by rw [if_pos rfl] at H; exact H
         clear H
         have H := H1
         clear H1
         by_cases c23 : (IntKind.u64.wrap (x16_1 + ((ji10) / 4294967296))) ≥ 4294967296
         ·rw [if_pos c23] at H
          have c23b0 : decide (4294967296 ≤ (IntKind.u64.wrap (x16_1 + ((ji10) / 4294967296)))) = T := decide_eq_true c23
          clear c23
          (try simp only [c23b0])
          have H' := Aside0.mk H
          clear H
          go_wp2
          repeat (go_quiet (fail); try go_wp2)
          go_meet
          case rel => exact ⟨_, (IntKind.u64.wrap (x15_1 - 1)), (Zs), H', ⟨by have := HK1.out; have := HJ19.out; first | omega | exact Nat.le_refl _⟩, Zd⟩
         rw [if_neg c23] at H
         have c23b0 : decide (4294967296 ≤ (IntKind.u64.wrap (x16_1 + ((ji10) / 4294967296)))) = F := decide_eq_false c23
         clear c23
         (try simp only [c23b0])
         have H' := Aside0.mk H
         clear H
         go_wp2
         repeat (go_quiet (fail); try go_wp2)
         go_roundg kj19
         case measure => have := HK1.out; have := HJ19.out; omega
         case rel => exact ⟨(IntKind.u64.wrap (x15_1 - 1)), (IntKind.u64.wrap (x16_1 + ((ji10) / 4294967296))), (Zs), (by first | rfl | (simp; done) | (simp only [← hji10] <;> (first | rfl | simp)) | (simp [*]; done)), H', ⟨by have := HK1.out; have := HJ19.out; omega⟩, Zd⟩
        replace c22 := Bool.eq_false_iff.mpr c22
        subst c22
        have H1 : (Qat.j2 kj19 ji10 ji8 ((ji10) / 4294967296) (Go.bits .and .u64 (ji10) 4294967295) (Go.bits .or .u64 (ji12) (ji15)) ((ji17) / 4294967296) (Go.bits .and .u64 (ji17) 4294967295) x15_1) = some (r1, r2) := by rw [if_neg (show ¬ (F = T) by decide)] at H; exact H
        clear H
        have H := H1
        clear H1
        have H' := Aside0.mk H
        clear H
        go_wp2
        repeat (go_quiet (fail); try go_wp2)
        go_meet
        case rel => exact ⟨_, (x15_1), (Zs), H', ⟨by have := HK1.out; have := HJ19.out; first | omega | exact Nat.le_refl _⟩, Zd⟩
   case rest =>
    clear HC19
    try clear c1
    try clear c2
    try clear p2
    try clear c4
    try clear c4b0
    try clear c4b1
    try clear c5
    try clear c5b0
    try clear c6
    try clear c6b0
    try clear c6b1
    try clear c9
    try clear c9b0
    try clear c9b1
    try clear c11
    try clear c11b0
    try clear c14
    try clear c14b0
    try clear c14b1
    try clear c16
    try clear c16b0
    try clear c18
    try clear c18b0
    try clear c18b1
    try clear c19
    try clear c21
    try clear c21b0
    try clear c22
    try clear c23
    try clear c23b0
    try clear p2
    obtain ⟨kq, x15_18, rfl, HA, HJ18, ⟨mc18, rfl⟩⟩ := hcut
    cases kq with
    | zero => exact absurd HA.out (by simp [Qat.j2])
    | succ kj18 =>
     have H := HA.out
     clear HA
     simp only [Qat.j2] at H
     by_cases c24 : ((ji10) / 4294967296) = 0
     ·rw [if_pos c24] at H
      exact absurd H (by simp)
     rw [if_neg c24] at H
     have c24b0 : (((ji10) / 4294967296) == 0) = F := beq_eq_false_iff_ne.mpr c24
     have c24b1 : (((ji10) / 4294967296) != 0) = T := bne_iff_ne.mpr c24
     have H' := Aside0.mk H
     clear H
     go_wp2
     repeat (go_quiet (fail); try go_wp2)
     go_loopg [16, 18] kj18 (fun kq v16 v18 w' => ∃ (x16_2 : Int) (x18_2 : Int), v16 = .int .u64 x16_2 ∧ v18 = .int .u64 x18_2 ∧ Aside0 (Qat.l1 kq ji10 ji8 ((ji10) / 4294967296) (Go.bits .and .u64 (ji10) 4294967295) (Go.bits .and .u64 (ji17) 4294967295) x15_18 x16_2 (IntKind.u64.wrap ((IntKind.u64.wrap ((IntKind.u64.wrap ((Go.bits .or .u64 (ji12) (ji15)) * 4294967296)) + ((ji17) / 4294967296))) - (IntKind.u64.wrap (x15_18 * ji10)))) x18_2 = some (r1, r2)) ∧ Aside0 (kq ≤ kj18) ∧ Drawn0 w w')
     case atStart => exact ⟨(IntKind.u64.wrap ((IntKind.u64.wrap ((IntKind.u64.wrap ((IntKind.u64.wrap ((Go.bits .or .u64 (ji12) (ji15)) * 4294967296)) + ((ji17) / 4294967296))) - (IntKind.u64.wrap (x15_18 * ji10)))) - (IntKind.u64.wrap ((IntKind.u64.wrap (Int.tdiv (IntKind.u64.wrap ((IntKind.u64.wrap ((IntKind.u64.wrap ((Go.bits .or .u64 (ji12) (ji15)) * 4294967296)) + ((ji17) / 4294967296))) - (IntKind.u64.wrap (x15_18 * ji10)))) ((ji10) / 4294967296))) * ((ji10) / 4294967296))))), (IntKind.u64.wrap (Int.tdiv (IntKind.u64.wrap ((IntKind.u64.wrap ((IntKind.u64.wrap ((Go.bits .or .u64 (ji12) (ji15)) * 4294967296)) + ((ji17) / 4294967296))) - (IntKind.u64.wrap (x15_18 * ji10)))) ((ji10) / 4294967296))), (by first | rfl | (simp; done) | (simp only [← hji10, ← hji12, ← hji15, ← hji17] <;> (first | rfl | simp)) | (simp [*]; done)), (by first | rfl | (simp; done) | (simp only [← hji10, ← hji12, ← hji15, ← hji17] <;> (first | rfl | simp)) | (simp [*]; done)), H', ⟨Nat.le_refl _⟩, Zd⟩
     case round =>
      clear H'
      try clear c1
      try clear c2
      try clear p2
      try clear c4
      try clear c4b0
      try clear c4b1
      try clear c5
      try clear c5b0
      try clear c6
      try clear c6b0
      try clear c6b1
      try clear c9
      try clear c9b0
      try clear c9b1
      try clear c11
      try clear c11b0
      try clear c14
      try clear c14b0
      try clear c14b1
      try clear c16
      try clear c16b0
      try clear c18
      try clear c18b0
      try clear c18b1
      try clear c19
      try clear c21
      try clear c21b0
      try clear c22
      try clear c23
      try clear c23b0
      try clear c24
      try clear c24b0
      try clear c24b1
      try clear p2
      obtain ⟨x16_2, x18_2, rfl, rfl, HA, HK2, ⟨m2, rfl⟩⟩ := hrel
      cases gk with
      | zero => exact absurd HA.out (by simp [Qat.l1])
      | succ k2 =>
       have H := HA.out
       clear HA
       simp only [Qat.l1] at H
       have HC25 := Aside0.mk H
       clear H
       go_upto_region 24 with (fail)
       repeat (go_quiet (fail); go_upto_region 24 with (fail))
       go_cut [113] (fun v113 wc => ∃ (kq : Nat) (x113_24 : Bool), v113 = .bool x113_24 ∧ Aside0 (Qat.j4 kq ji10 ji8 ((ji10) / 4294967296) (Go.bits .and .u64 (ji10) 4294967295) (Go.bits .and .u64 (ji17) 4294967295) x15_18 x16_2 (IntKind.u64.wrap ((IntKind.u64.wrap ((IntKind.u64.wrap ((Go.bits .or .u64 (ji12) (ji15)) * 4294967296)) + ((ji17) / 4294967296))) - (IntKind.u64.wrap (x15_18 * ji10)))) x18_2 x113_24 = some (r1, r2)) ∧ Aside0 (kq ≤ k2) ∧ Drawn0 w wc)
       case first =>
        have H := HC25.out
        clear HC25
        by_cases c26 : x18_2 ≥ 4294967296
        ·rw [if_pos c26] at H
         have c26b0 : decide (4294967296 ≤ x18_2) = T := decide_eq_true c26
         clear c26
         have H' := Aside0.mk H
         clear H
         go_wp2
         repeat (go_quiet (fail); try go_wp2)
         go_meet
         case rel => exact ⟨_, (T), (Zs), H', ⟨by have := HJ18.out; have := HK2.out; first | omega | exact Nat.le_refl _⟩, Zd⟩
        rw [if_neg c26] at H
        have c26b0 : decide (4294967296 ≤ x18_2) = F := decide_eq_false c26
        clear c26
        have H' := Aside0.mk H
        clear H
        go_wp2
        repeat (go_quiet (fail); try go_wp2)
        go_meet
        case rel => exact ⟨_, (decide ((IntKind.u64.wrap (x18_2 * (Go.bits .and .u64 (ji10) 4294967295))) > (IntKind.u64.wrap ((IntKind.u64.wrap (4294967296 * x16_2)) + (Go.bits .and .u64 (ji17) 4294967295))))), (by first | rfl | (simp; done) | (simp only [← hji10, ← hji17] <;> (first | rfl | simp)) | (simp [*]; done)), H', ⟨by have := HJ18.out; have := HK2.out; first | omega | exact Nat.le_refl _⟩, Zd⟩
       case rest =>
        clear HC25
        try clear c1
        try clear c2
        try clear p2
        try clear c4
        try clear c4b0
        try clear c4b1
        try clear c5
        try clear c5b0
        try clear c6
        try clear c6b0
        try clear c6b1
        try clear c9
        try clear c9b0
        try clear c9b1
        try clear c11
        try clear c11b0
        try clear c14
        try clear c14b0
        try clear c14b1
        try clear c16
        try clear c16b0
        try clear c18
        try clear c18b0
        try clear c18b1
        try clear c19
        try clear c21
        try clear c21b0
        try clear c22
        try clear c23
        try clear c23b0
        try clear c24
        try clear c24b0
        try clear c24b1
        try clear c26
        try clear c26b0
        try clear p2
        obtain ⟨kq, x113_24, rfl, HA, HJ24, ⟨mc24, rfl⟩⟩ := hcut
        cases kq with
        | zero => exact absurd HA.out (by simp [Qat.j4])
        | succ kj24 =>
         have H := HA.out
         clear HA
         simp only [Qat.j4] at H
         by_cases c27 : x113_24 = T
         ·subst c27
          have H1 : (if (IntKind.u64.wrap (x16_2 + ((ji10) / 4294967296))) ≥ 4294967296 then (if 0 ≤ ji8 then (some (IntKind.u64.wrap ((IntKind.u64.wrap (x15_18 * 4294967296)) + (IntKind.u64.wrap (x18_2 - 1))), shr .u64 (IntKind.u64.wrap ((IntKind.u64.wrap ((IntKind.u64.wrap ((IntKind.u64.wrap ((IntKind.u64.wrap ((IntKind.u64.wrap ((Go.bits .or .u64 (ji12) (ji15)) * 4294967296)) + ((ji17) / 4294967296))) - (IntKind.u64.wrap (x15_18 * ji10)))) * 4294967296)) + (Go.bits .and .u64 (ji17) 4294967295))) - (IntKind.u64.wrap ((IntKind.u64.wrap (x18_2 - 1)) * ji10)))) ji8)) else (none)) else (Qat.l1 kj24 ji10 ji8 ((ji10) / 4294967296) (Go.bits .and .u64 (ji10) 4294967295) (Go.bits .and .u64 (ji17) 4294967295) x15_18 (IntKind.u64.wrap (x16_2 + ((ji10) / 4294967296))) (IntKind.u64.wrap ((IntKind.u64.wrap ((IntKind.u64.wrap ((Go.bits .or .u64 (ji12) (ji15)) * 4294967296)) + ((ji17) / 4294967296))) - (IntKind.u64.wrap (x15_18 * ji10)))) (IntKind.u64.wrap (x18_2 - 1)))) = some (r1, r2) := by rw [if_pos rfl] at H; exact H
          clear H
          have H := H1
          clear H1
          by_cases c28 : (IntKind.u64.wrap (x16_2 + ((ji10) / 4294967296))) ≥ 4294967296
          ·rw [if_pos c28] at H
           have c28b0 : decide (4294967296 ≤ (IntKind.u64.wrap (x16_2 + ((ji10) / 4294967296)))) = T := decide_eq_true c28
           clear c28
           (try simp only [c28b0])
           by_cases c29 : 0 ≤ ji8
           ·rw [if_pos c29] at H
            have c29b0 := eq_true c29
            have c29b1 : decide (0 ≤ ji8) = T := decide_eq_true c29
            clear c29
            obtain ⟨ji30, hji30⟩ : ∃ j_ : Int, (shr .u64 (IntKind.u64.wrap ((IntKind.u64.wrap ((IntKind.u64.wrap ((IntKind.u64.wrap ((IntKind.u64.wrap ((IntKind.u64.wrap ((Go.bits .or .u64 (ji12) (ji15)) * 4294967296)) + ((ji17) / 4294967296))) - (IntKind.u64.wrap (x15_18 * ji10)))) * 4294967296)) + (Go.bits .and .u64 (ji17) 4294967295))) - (IntKind.u64.wrap ((IntKind.u64.wrap (x18_2 - 1)) * ji10)))) ji8) = j_ := ⟨_, rfl⟩
            replace H : (some (IntKind.u64.wrap ((IntKind.u64.wrap (x15_18 * 4294967296)) + (IntKind.u64.wrap (x18_2 - 1))), ji30)) = some (r1, r2) := by first | (rw [hji30] at H; exact H) | (simp only [hji30] at H ⊢; exact H)
            have hji30_ : ((IntKind.u64.wrap ((IntKind.u64.wrap ((IntKind.u64.wrap ((IntKind.u64.wrap ((IntKind.u64.wrap ((IntKind.u64.wrap ((Go.bits .or .u64 (ji12) (ji15)) * 4294967296)) + ((ji17) / 4294967296))) - (IntKind.u64.wrap (x15_18 * ji10)))) * 4294967296)) + (Go.bits .and .u64 (ji17) 4294967295))) - (IntKind.u64.wrap ((IntKind.u64.wrap (x18_2 - 1)) * ji10)))) / 2 ^ min ji8.toNat 64) = ji30 := hji30
            have hji30z : ji8 ≤ 64 → ((IntKind.u64.wrap ((IntKind.u64.wrap ((IntKind.u64.wrap ((IntKind.u64.wrap ((IntKind.u64.wrap ((IntKind.u64.wrap ((Go.bits .or .u64 (ji12) (ji15)) * 4294967296)) + ((ji17) / 4294967296))) - (IntKind.u64.wrap (x15_18 * ji10)))) * 4294967296)) + (Go.bits .and .u64 (ji17) 4294967295))) - (IntKind.u64.wrap ((IntKind.u64.wrap (x18_2 - 1)) * ji10)))) / 2 ^ ji8.toNat) = ji30 := Qck hji30
            simp only [Option.some.injEq, Prod.mk.injEq] at H
            obtain ⟨rfl, rfl⟩ := H
            go_wp2
            repeat (go_quiet (fail); try go_wp2)
            go_ret2
            exact ⟨by first | rfl | (simp; done) | (simp only [← hji8, ← hji10, ← hji12, ← hji13, ← hji15, ← hji17, ← hji30] <;> (first | rfl | simp)) | (simp [*]; done), Zd⟩
           rw [if_neg c29] at H
           exact absurd H (by simp)
          rw [if_neg c28] at H
          have c28b0 : decide (4294967296 ≤ (IntKind.u64.wrap (x16_2 + ((ji10) / 4294967296)))) = F := decide_eq_false c28
          clear c28
          (try simp only [c28b0])
          have H' := Aside0.mk H
          clear H
          go_wp2
          repeat (go_quiet (fail); try go_wp2)
          go_roundg kj24
          case measure => have := HJ18.out; have := HK2.out; have := HJ24.out; omega
          case rel => exact ⟨(IntKind.u64.wrap (x16_2 + ((ji10) / 4294967296))), (IntKind.u64.wrap (x18_2 - 1)), (by first | rfl | (simp; done) | (simp only [← hji10] <;> (first | rfl | simp)) | (simp [*]; done)), (Zs), H', ⟨by have := HJ18.out; have := HK2.out; have := HJ24.out; omega⟩, Zd⟩
         replace c27 := Bool.eq_false_iff.mpr c27
         subst c27
         have H1 : (if 0 ≤ ji8 then (some (IntKind.u64.wrap ((IntKind.u64.wrap (x15_18 * 4294967296)) + x18_2), shr .u64 (IntKind.u64.wrap ((IntKind.u64.wrap ((IntKind.u64.wrap ((IntKind.u64.wrap ((IntKind.u64.wrap ((IntKind.u64.wrap ((Go.bits .or .u64 (ji12) (ji15)) * 4294967296)) + ((ji17) / 4294967296))) - (IntKind.u64.wrap (x15_18 * ji10)))) * 4294967296)) + (Go.bits .and .u64 (ji17) 4294967295))) - (IntKind.u64.wrap (x18_2 * ji10)))) ji8)) else (none)) = some (r1, r2) := by rw [if_neg (show ¬ (F = T) by decide)] at H; exact H
         clear H
         have H := H1
         clear H1
         by_cases c31 : 0 ≤ ji8
         ·rw [if_pos c31] at H
          have c31b0 := eq_true c31
          have c31b1 : decide (0 ≤ ji8) = T := decide_eq_true c31
          clear c31
          obtain ⟨ji32, hji32⟩ : ∃ j_ : Int, (shr .u64 (IntKind.u64.wrap ((IntKind.u64.wrap ((IntKind.u64.wrap ((IntKind.u64.wrap ((IntKind.u64.wrap ((IntKind.u64.wrap ((Go.bits .or .u64 (ji12) (ji15)) * 4294967296)) + ((ji17) / 4294967296))) - (IntKind.u64.wrap (x15_18 * ji10)))) * 4294967296)) + (Go.bits .and .u64 (ji17) 4294967295))) - (IntKind.u64.wrap (x18_2 * ji10)))) ji8) = j_ := ⟨_, rfl⟩
          replace H : (some (IntKind.u64.wrap ((IntKind.u64.wrap (x15_18 * 4294967296)) + x18_2), ji32)) = some (r1, r2) := by first | (rw [hji32] at H; exact H) | (simp only [hji32] at H ⊢; exact H)
          have hji32_ : ((IntKind.u64.wrap ((IntKind.u64.wrap ((IntKind.u64.wrap ((IntKind.u64.wrap ((IntKind.u64.wrap ((IntKind.u64.wrap ((Go.bits .or .u64 (ji12) (ji15)) * 4294967296)) + ((ji17) / 4294967296))) - (IntKind.u64.wrap (x15_18 * ji10)))) * 4294967296)) + (Go.bits .and .u64 (ji17) 4294967295))) - (IntKind.u64.wrap (x18_2 * ji10)))) / 2 ^ min ji8.toNat 64) = ji32 := hji32
          have hji32z : ji8 ≤ 64 → ((IntKind.u64.wrap ((IntKind.u64.wrap ((IntKind.u64.wrap ((IntKind.u64.wrap ((IntKind.u64.wrap ((IntKind.u64.wrap ((Go.bits .or .u64 (ji12) (ji15)) * 4294967296)) + ((ji17) / 4294967296))) - (IntKind.u64.wrap (x15_18 * ji10)))) * 4294967296)) + (Go.bits .and .u64 (ji17) 4294967295))) - (IntKind.u64.wrap (x18_2 * ji10)))) / 2 ^ ji8.toNat) = ji32 := Qck hji32
          simp only [Option.some.injEq, Prod.mk.injEq] at H
          obtain ⟨rfl, rfl⟩ := H
          go_wp2
          repeat (go_quiet (fail); try go_wp2)
          go_ret2
          exact ⟨by first | rfl | (simp; done) | (simp only [← hji8, ← hji10, ← hji12, ← hji13, ← hji15, ← hji17, ← hji32] <;> (first | rfl | simp)) | (simp [*]; done), Zd⟩
         rw [if_neg c31] at H
         exact absurd H (by simp)
  rw [if_neg c14] at H
  exact absurd H (by simp)
 rw [if_neg c9] at H
 exact absurd H (by simp)
theorem d64_wr (x : Int) : IntKind.u64.wrap x = x % 18446744073709551616 := IntKind.wrap_u64 x
theorem Qc5 (U y q1 : Int) (hy : 0 < y) (h : q1 * y ≤ U) : q1 ≤ U / y := (Int.le_ediv_iff_mul_le hy).2 h
theorem Qc6 (U y q1 : Int) (hy : 0 < y) (h : U < q1 * y) : U / y < q1 := (Int.ediv_lt_iff_lt_mul hy).2 h
theorem Qb1 (q yn1 yn0 : Int) : q * (yn1 * 4294967296 + yn0) = q * yn1 * 4294967296 + q * yn0 := by grind
structure QbH (y yn1 yn0 un32 un1 q1 rhat : Int) : Prop where
 hy : y = yn1 * 4294967296 + yn0
 h1 : 2147483648 ≤ yn1
 h1' : yn1 < 4294967296
 h0 : 0 ≤ yn0
 h0' : yn0 < 4294967296
 hu : 0 ≤ un32
 hu' : un32 < y
 hn : 0 ≤ un1
 hn' : un1 < 4294967296
 hr : 0 ≤ rhat
 hr' : rhat < 4294967296
 hq : q1 * yn1 + rhat = un32
 hle : (un32 * 4294967296 + un1) / y ≤ q1
 hub : q1 ≤ 4294967297
theorem Qcy {y un32 un1 : Int} (hy : 0 < y) (hu : un32 < y) (hn : un1 < 4294967296) : (un32 * 4294967296 + un1) / y < 4294967296 := Qc6 _ _ _ hy (by omega)
theorem QbR {y un32 un1 : Int} (hy : 0 < y) (hu : 0 ≤ un32) (hn : 0 ≤ un1) : 0 ≤ (un32 * 4294967296 + un1) / y := Int.ediv_nonneg (by omega) (by omega)
theorem QcH {a b A B : Int} (ha : 0 ≤ a) (hb : 0 ≤ b) (hA : a ≤ A) (hB : b ≤ B) : 0 ≤ a * b ∧ a * b ≤ A * B := ⟨Int.mul_nonneg ha hb, Int.mul_le_mul hA hB hb (by omega)⟩
theorem Qb9 {y yn1 yn0 un32 un1 q1 rhat : Int} (I : QbH y yn1 yn0 un32 un1 q1 rhat) (h : 4294967296 ≤ q1 ∨ 4294967296 * rhat + un1 < q1 * yn0) : (un32 * 4294967296 + un1) / y ≤ q1 - 1 := by
 obtain ⟨hy, h1, h1', h0, h0', hu, hu', hn, hn', hr, hr', hq, hle, hub⟩ := I
 rcases h with h | h
 ·have := Qcy (y := y) (un32 := un32) (un1 := un1) (by omega) hu' hn'
  omega
 have e := Qb1 q1 yn1 yn0
 have := Qc6 (un32 * 4294967296 + un1) y q1 (by omega) (by rw [hy, e]; omega)
 omega
theorem Qdm {y yn1 yn0 un32 un1 q1 rhat : Int} (I : QbH y yn1 yn0 un32 un1 q1 rhat) (h : q1 * yn0 ≤ 4294967296 * rhat + un1) : (un32 * 4294967296 + un1) / y = q1 := by
 obtain ⟨hy, h1, h1', h0, h0', hu, hu', hn, hn', hr, hr', hq, hle, hub⟩ := I
 have e := Qb1 q1 yn1 yn0
 have := Qc5 (un32 * 4294967296 + un1) y q1 (by omega) (by rw [hy, e]; omega)
 omega
theorem QdE {y yn1 yn0 un32 un1 q1 rhat : Int} (I : QbH y yn1 yn0 un32 un1 q1 rhat) (h : (un32 * 4294967296 + un1) / y ≤ q1 - 1) (hb : 4294967296 ≤ rhat + yn1) : (un32 * 4294967296 + un1) / y = q1 - 1 := by
 obtain ⟨hy, h1, h1', h0, h0', hu, hu', hn, hn', hr, hr', hq, hle, hub⟩ := I
 have e := Qb1 (q1 - 1) yn1 yn0
 have e2 : (q1 - 1) * yn1 = q1 * yn1 - yn1 := by grind
 have hq0 := QbR (y := y) (un32 := un32) (un1 := un1) (by omega) hu hn
 have hm := (QcH (a := q1 - 1) (b := yn0) (A := 4294967296) (B := 4294967295) (by omega) h0 (by omega) (by omega)).2
 have := Qc5 (un32 * 4294967296 + un1) y (q1 - 1) (by omega) (by rw [hy, e, e2]; omega)
 omega
theorem Qdl {y yn1 yn0 un32 un1 q1 rhat : Int} (I : QbH y yn1 yn0 un32 un1 q1 rhat) (h : (un32 * 4294967296 + un1) / y ≤ q1 - 1) (hb : rhat + yn1 < 4294967296) : QbH y yn1 yn0 un32 un1 (q1 - 1) (rhat + yn1) := by
 obtain ⟨hy, h1, h1', h0, h0', hu, hu', hn, hn', hr, hr', hq, hle, hub⟩ := I
 exact ⟨hy, h1, h1', h0, h0', hu, hu', hn, hn', by omega, hb, by grind, h, by omega⟩
theorem Qc4 {y yn1 yn0 un32 un1 : Int} (hy : y = yn1 * 4294967296 + yn0) (h1 : 2147483648 ≤ yn1) (h1' : yn1 < 4294967296) (h0 : 0 ≤ yn0) (h0' : yn0 < 4294967296) (hu : 0 ≤ un32) (hu' : un32 < y) (hn : 0 ≤ un1) (hn' : un1 < 4294967296) :
  QbH y yn1 yn0 un32 un1 (un32 / yn1) (un32 % yn1) := by
 have a := Int.emod_nonneg un32 (b := yn1) (by omega)
 have b := Int.emod_lt_of_pos un32 (b := yn1) (by omega)
 have c := Int.mul_ediv_add_emod un32 yn1
 have c' : un32 / yn1 * yn1 = yn1 * (un32 / yn1) := Int.mul_comm _ _
 refine ⟨hy, h1, h1', h0, h0', hu, hu', hn, hn', a, by omega, by omega, ?_, ?_⟩
 ·have hy0 : 0 < y := by omega
  have hq0 := QbR (y := y) (un32 := un32) (un1 := un1) hy0 hu hn
  generalize hq : (un32 * 4294967296 + un1) / y = q at *
  have h := Int.ediv_mul_le (un32 * 4294967296 + un1) (b := y) (by omega)
  rw [hq, hy, Qb1] at h
  have hz := Int.mul_nonneg hq0 h0
  exact (Int.le_ediv_iff_mul_le (by omega)).2 (by omega)
 have : un32 / yn1 < 4294967298 := (Int.ediv_lt_iff_lt_mul (by omega)).2 (by omega)
 omega
theorem QbY {y yn1 yn0 un32 un1 q1 rhat : Int} (I : QbH y yn1 yn0 un32 un1 q1 rhat) (hq : ¬ 4294967296 ≤ q1) :
  IntKind.u64.wrap (q1 * yn0) = q1 * yn0 ∧ IntKind.u64.wrap (IntKind.u64.wrap (4294967296 * rhat) + un1) = 4294967296 * rhat + un1 := by
 obtain ⟨hy, h1, h1', h0, h0', hu, hu', hn, hn', hr, hr', hqq, hle, hub⟩ := I
 have hq0 := QbR (y := y) (un32 := un32) (un1 := un1) (by omega) hu hn
 have hm := QcH (a := q1) (b := yn0) (A := 4294967295) (B := 4294967295) (by omega) h0 (by omega) (by omega)
 simp only [d64_wr]
 omega
theorem Qd8 (K : Nat) (ans : Option (Int × Int)) {y s yn1 yn0 un32 un1 un0 : Int} (hans : ∀ k, K ≤ k → Qat.j2 k y s yn1 yn0 un32 un1 un0 ((un32 * 4294967296 + un1) / y) = ans) :
  ∀ (n : Nat) (q1 rhat : Int) (k : Nat), QbH y yn1 yn0 un32 un1 q1 rhat → 4294967296 - rhat ≤ n * 2147483648 → K + 2 * n + 2 ≤ k → Qat.l0 k y s yn1 yn0 un32 un1 un0 q1 rhat = ans := by
 intro n
 induction n with
 | zero => intro q1 rhat k I hm; have := I.hr'; omega
 | succ n ih =>
  intro q1 rhat k I hm hk
  obtain ⟨k, rfl⟩ : ∃ m, k = m + 2 := ⟨k - 2, by omega⟩
  have hq0 := QbR (y := y) (un32 := un32) (un1 := un1) (by have := I.hy; have := I.h1; have := I.h0; omega) I.hu I.hn
  have hub := I.hub
  have hle := I.hle
  have hr := I.hr
  have hr' := I.hr'
  have h1 := I.h1
  have h1' := I.h1'
  have w1 : IntKind.u64.wrap (rhat + yn1) = rhat + yn1 := by rw [d64_wr]; omega
  have yes : (un32 * 4294967296 + un1) / y ≤ q1 - 1 → Qat.j1 (k + 1) y s yn1 yn0 un32 un1 un0 q1 rhat T = ans := by
   intro h
   have w2 : IntKind.u64.wrap (q1 - 1) = q1 - 1 := by rw [d64_wr]; omega
   simp only [Qat.j1, if_true]
   rw [w1, w2]
   by_cases c : rhat + yn1 ≥ 4294967296
   ·rw [if_pos c, ← QdE I h c]
    exact hans k (by omega)
   rw [if_neg c]
   exact ih (q1 - 1) (rhat + yn1) k (Qdl I h (by omega)) (by omega) (by omega)
  simp only [Qat.l0]
  by_cases c : q1 ≥ 4294967296
  ·rw [if_pos c]
   exact yes (Qb9 I (.inl c))
  rw [if_neg c, (QbY I c).1, (QbY I c).2]
  by_cases d : q1 * yn0 > 4294967296 * rhat + un1
  ·rw [decide_eq_true d]
   exact yes (Qb9 I (.inr d))
  rw [decide_eq_false d]
  simp only [Qat.j1, Bool.false_eq_true, if_false]
  rw [← Qdm I (by omega)]
  exact hans k (by omega)
theorem Qd9 {y s yn1 yn0 un21 un0 : Int} (q1 : Int) (hs : 0 ≤ s) (hq1 : 0 ≤ q1) (hq1' : q1 < 4294967296) (hyb : y < 18446744073709551616) :
  ∀ (n : Nat) (q0 rhat : Int) (k : Nat), QbH y yn1 yn0 un21 un0 q0 rhat → 4294967296 - rhat ≤ n * 2147483648 → 2 * n + 2 ≤ k →
   Qat.l1 k y s yn1 yn0 un0 q1 rhat un21 q0 = some (q1 * 4294967296 + (un21 * 4294967296 + un0) / y, shr .u64 ((un21 * 4294967296 + un0) % y) s) := by
 intro n
 induction n with
 | zero => intro q1 rhat k I hm; have := I.hr'; omega
 | succ n ih =>
  intro q0 rhat k I hm hk
  obtain ⟨k, rfl⟩ : ∃ m, k = m + 2 := ⟨k - 2, by omega⟩
  have hy0 : 0 < y := by have := I.hy; have := I.h1; have := I.h0; omega
  have hq0 := QbR (y := y) (un32 := un21) (un1 := un0) hy0 I.hu I.hn
  have hql := Qcy (y := y) (un32 := un21) (un1 := un0) hy0 I.hu' I.hn'
  have hub := I.hub
  have hle := I.hle
  have hr := I.hr
  have hr' := I.hr'
  have h1 := I.h1
  have h1' := I.h1'
  have w1 : IntKind.u64.wrap (rhat + yn1) = rhat + yn1 := by rw [d64_wr]; omega
  have e1 := Int.emod_nonneg (un21 * 4294967296 + un0) (b := y) (by omega)
  have e2 := Int.emod_lt_of_pos (un21 * 4294967296 + un0) hy0
  have e3 := Int.mul_ediv_add_emod (un21 * 4294967296 + un0) y
  have e4 : (un21 * 4294967296 + un0) / y * y = y * ((un21 * 4294967296 + un0) / y) := Int.mul_comm _ _
  have fin : IntKind.u64.wrap (IntKind.u64.wrap (q1 * 4294967296) + (un21 * 4294967296 + un0) / y) = q1 * 4294967296 + (un21 * 4294967296 + un0) / y := by
   simp only [d64_wr]; omega
  have fin2 : IntKind.u64.wrap (IntKind.u64.wrap (IntKind.u64.wrap (un21 * 4294967296) + un0) - IntKind.u64.wrap ((un21 * 4294967296 + un0) / y * y)) = (un21 * 4294967296 + un0) % y := by
   simp only [d64_wr]; omega
  have yes : (un21 * 4294967296 + un0) / y ≤ q0 - 1 → Qat.j4 (k + 1) y s yn1 yn0 un0 q1 rhat un21 q0 T = some (q1 * 4294967296 + (un21 * 4294967296 + un0) / y, shr .u64 ((un21 * 4294967296 + un0) % y) s) := by
   intro h
   have w2 : IntKind.u64.wrap (q0 - 1) = q0 - 1 := by rw [d64_wr]; omega
   simp only [Qat.j4, if_true]
   rw [w1, w2]
   by_cases c : rhat + yn1 ≥ 4294967296
   ·rw [if_pos c, if_pos hs, ← QdE I h c, fin, fin2]
   rw [if_neg c]
   exact ih (q0 - 1) (rhat + yn1) k (Qdl I h (by omega)) (by omega) (by omega)
  simp only [Qat.l1]
  by_cases c : q0 ≥ 4294967296
  ·rw [if_pos c]
   exact yes (Qb9 I (.inl c))
  rw [if_neg c, (QbY I c).1, (QbY I c).2]
  by_cases d : q0 * yn0 > 4294967296 * rhat + un0
  ·rw [decide_eq_true d]
   exact yes (Qb9 I (.inr d))
  rw [decide_eq_false d]
  simp only [Qat.j4, Bool.false_eq_true, if_false]
  rw [if_pos hs, ← Qdm I (by omega), fin, fin2]
theorem Qb5 {a b : Int} (h : 0 ≤ a) : Int.tdiv a b = a / b := Int.tdiv_eq_ediv_of_nonneg h
theorem Qcx {y s yn1 yn0 un32 un1 un0 : Int} (hy : y = yn1 * 4294967296 + yn0) (h1 : 2147483648 ≤ yn1) (h1' : yn1 < 4294967296) (h0 : 0 ≤ yn0) (h0' : yn0 < 4294967296) (hu : 0 ≤ un32) (hu' : un32 < y) (hn : 0 ≤ un1) (hn' : un1 < 4294967296) (hm : 0 ≤ un0) (hm' : un0 < 4294967296) (hs : 0 ≤ s) (k : Nat) (hk : 20 ≤ k) :
  Qat.l0 k y s yn1 yn0 un32 un1 un0 (un32 / yn1) (un32 % yn1) = some ((un32 * 18446744073709551616 + un1 * 4294967296 + un0) / y, shr .u64 ((un32 * 18446744073709551616 + un1 * 4294967296 + un0) % y) s) := by
 have hy0 : 0 < y := by omega
 have hyb : y < 18446744073709551616 := by omega
 have f1 := QbR (y := y) (un32 := un32) (un1 := un1) hy0 hu hn
 have f2 := Qcy (y := y) (un32 := un32) (un1 := un1) hy0 hu' hn'
 have e1 := Int.emod_nonneg (un32 * 4294967296 + un1) (b := y) (by omega)
 have e2 := Int.emod_lt_of_pos (un32 * 4294967296 + un1) hy0
 have e3 := Int.mul_ediv_add_emod (un32 * 4294967296 + un1) y
 have e4 : (un32 * 4294967296 + un1) / y * y = y * ((un32 * 4294967296 + un1) / y) := Int.mul_comm _ _
 refine Qd8 12 _ ?_ 2 _ _ k (Qc4 hy h1 h1' h0 h0' hu hu' hn hn') (by have := Int.emod_nonneg un32 (b := yn1) (by omega); omega) (by omega)
 intro k hk
 obtain ⟨k, rfl⟩ : ∃ m, k = m + 1 := ⟨k - 1, by omega⟩
 simp only [Qat.j2]
 rw [if_neg (by omega)]
 have g1 : IntKind.u64.wrap (IntKind.u64.wrap (IntKind.u64.wrap (un32 * 4294967296) + un1) - IntKind.u64.wrap ((un32 * 4294967296 + un1) / y * y)) = (un32 * 4294967296 + un1) % y := by
  simp only [d64_wr]; omega
 rw [g1, Qb5 e1]
 generalize hr : (un32 * 4294967296 + un1) % y = r at *
 generalize hq : (un32 * 4294967296 + un1) / y = q at *
 have c := Int.mul_ediv_add_emod r yn1
 have c' : r / yn1 * yn1 = yn1 * (r / yn1) := Int.mul_comm _ _
 have a := Int.emod_nonneg r (b := yn1) (by omega)
 have b := Int.emod_lt_of_pos r (b := yn1) (by omega)
 have d0 : 0 ≤ r / yn1 := Int.ediv_nonneg e1 (by omega)
 have d1 : r / yn1 ≤ r := Int.ediv_le_self _ e1
 have g2 : IntKind.u64.wrap (r / yn1) = r / yn1 := by rw [d64_wr]; omega
 have g3 : IntKind.u64.wrap (r - IntKind.u64.wrap (r / yn1 * yn1)) = r % yn1 := by simp only [d64_wr]; omega
 rw [g2, g3]
 rw [Qd9 q hs f1 f2 hyb 2 _ _ k (Qc4 hy h1 h1' h0 h0' e1 e2 hm hm') (by omega) (by omega)]
 have h5 : un32 * 18446744073709551616 + un1 * 4294967296 + un0 = (r * 4294967296 + un0) + (q * 4294967296) * y := by
  have : (q * 4294967296) * y = 4294967296 * (y * q) := by grind
  omega
 rw [h5, Int.add_mul_ediv_right _ _ (by omega), Int.add_mul_emod_self_right]
 rw [Int.add_comm]
theorem Qcs (a : Int) (h : 0 ≤ a) (h' : a < 18446744073709551616) : Go.bits .and .u64 a 4294967295 = a % 4294967296 := by
 obtain ⟨n, rfl⟩ := Int.eq_ofNat_of_zero_le h
 have h2 := bits_and_u64_nat n 4294967295 (by omega) (by omega)
 have e : n &&& 4294967295 = n % 4294967296 := Nat.and_two_pow_sub_one_eq_mod n 32
 rw [e] at h2
 rw [show ((4294967295 : Nat) : Int) = 4294967295 from rfl] at h2
 rw [h2]
 omega
theorem QdR (a b S : Nat) (hb : b < 2 ^ S) (h : a * 2 ^ S + b < 18446744073709551616) : Go.bits .or .u64 ((a * 2 ^ S : Nat) : Int) (b : Int) = ((a * 2 ^ S + b : Nat) : Int) := by
 rw [bits_or_u64_nat _ _ (by omega) (by omega)]
 have e := Nat.shiftLeft_add_eq_or_of_lt hb a
 rw [Nat.shiftLeft_eq] at e
 rw [e]
theorem QbX (S : Nat) : (2 : Int) ^ S = ((2 ^ S : Nat) : Int) := by simp
theorem Qb4 (x S : Nat) (hS : S ≤ 64) : shl .u64 (x : Int) (S : Int) = ((x * 2 ^ S % 18446744073709551616 : Nat) : Int) := by
 unfold shl
 rw [Int.toNat_natCast, Nat.min_eq_left (by exact hS), QbX, d64_wr]
 omega
theorem Qdw (x S : Nat) (hS : S ≤ 64) : shr .u64 (x : Int) (S : Int) = ((x / 2 ^ S : Nat) : Int) := by
 unfold shr
 rw [Int.toNat_natCast, Nat.min_eq_left (by exact hS), QbX]
 omega
theorem Qex (y : Nat) (h0 : y ≠ 0) (h : y < 18446744073709551616) : 1 ≤ Lib.bitLen y ∧ Lib.bitLen y ≤ 64 ∧ 9223372036854775808 ≤ y * 2 ^ (64 - Lib.bitLen y) ∧ y * 2 ^ (64 - Lib.bitLen y) < 18446744073709551616 := by
 obtain ⟨a, b, c⟩ := Lib.bitLenAux_bounds 64 y h h0
 have d := Lib.bitLen_le y 64 (by omega) h
 change 1 ≤ Lib.bitLen y at a
 change 2 ^ (Lib.bitLen y - 1) ≤ y at b
 change y < 2 ^ Lib.bitLen y at c
 generalize Lib.bitLen y = L at *
 refine ⟨a, d, ?_, ?_⟩
 ·have := Nat.mul_le_mul_right (2 ^ (64 - L)) b
  rw [← Nat.pow_add, show L - 1 + (64 - L) = 63 by omega] at this
  omega
 have := Nat.mul_lt_mul_of_pos_right c (Nat.two_pow_pos (64 - L))
 rw [← Nat.pow_add, show L + (64 - L) = 64 by omega] at this
 omega
theorem Qat.eq (hi lo y : Int) (h0 : 0 ≤ hi) (h1 : hi < y) (hy : y < 18446744073709551616) (hl : 0 ≤ lo) (hl' : lo < 18446744073709551616) (k : Nat) (hk : 20 ≤ k) :
  Qat.f k hi lo y = some ((hi * 18446744073709551616 + lo) / y, (hi * 18446744073709551616 + lo) % y) := by
 unfold Qat.f
 rw [if_neg (by omega), if_neg (by omega)]
 by_cases c : hi = 0
 ·rw [if_pos c]
  subst c
  have a := Int.ediv_nonneg hl (show 0 ≤ y by omega)
  have b := Int.ediv_le_self y hl
  rw [Qb5 hl, Int.tmod_eq_emod_of_nonneg hl, d64_wr, show (0 : Int) * 18446744073709551616 + lo = lo by omega, Int.emod_eq_of_lt a (by omega)]
 rw [if_neg c]
 obtain ⟨H, rfl⟩ := Int.eq_ofNat_of_zero_le h0
 obtain ⟨Lo, rfl⟩ := Int.eq_ofNat_of_zero_le hl
 obtain ⟨Y, rfl⟩ := Int.eq_ofNat_of_zero_le (show 0 ≤ y by omega)
 obtain ⟨n1, n2, n3, n4⟩ := Qex Y (by omega) (by omega)
 unfold Qbf.f Qa8.f
 rw [if_pos (by omega), Int.toNat_natCast]
 simp only [Option.bind_some]
 generalize Lib.bitLen Y = L at *
 obtain ⟨S, hS, hS63⟩ : ∃ S : Nat, S = 64 - L ∧ S ≤ 63 := ⟨64 - L, rfl, by omega⟩
 have e1 : IntKind.u64.wrap (wrap64 (64 - (L : Int))) = (S : Int) := by rw [d64_wr]; unfold wrap64; omega
 have e2 : IntKind.u64.wrap (64 - (S : Int)) = ((64 - S : Nat) : Int) := by rw [d64_wr]; omega
 rw [e1, e2, if_pos (by omega), if_pos (by omega)]
 rw [← hS] at n3 n4
 have hHS : H * 2 ^ S + 2 ^ S ≤ Y * 2 ^ S := by
  have := Nat.mul_le_mul_right (2 ^ S) (show H + 1 ≤ Y by omega)
  rw [Nat.add_mul] at this
  omega
 have hp : 2 ^ (64 - S) * 2 ^ S = 18446744073709551616 := by rw [← Nat.pow_add, show 64 - S + S = 64 by omega]
 have hd : Lo * 2 ^ S / 18446744073709551616 = Lo / 2 ^ (64 - S) := by rw [← hp, Nat.mul_div_mul_right _ _ (Nat.two_pow_pos S)]
 have hpos := Nat.two_pow_pos S
 have hlow : Lo / 2 ^ (64 - S) < 2 ^ S := by
  rw [Nat.div_lt_iff_lt_mul (Nat.two_pow_pos _), Nat.mul_comm, hp]
  omega
 rw [Qb4 Y S (by omega), Qb4 H S (by omega), Qb4 Lo S (by omega), Qdw Lo (64 - S) (by omega)]
 rw [Nat.mod_eq_of_lt n4, Nat.mod_eq_of_lt (show H * 2 ^ S < 18446744073709551616 by omega)]
 rw [QdR H _ S hlow (by omega)]
 rw [Qcs _ (by omega) (by omega), Qcs _ (by omega) (by omega)]
 have hmod := Nat.div_add_mod (Lo * 2 ^ S) 18446744073709551616
 rw [hd] at hmod
 have key : (H * 2 ^ S + Lo / 2 ^ (64 - S)) * 18446744073709551616 + Lo * 2 ^ S % 18446744073709551616 = (H * 18446744073709551616 + Lo) * 2 ^ S := by
  have t1 : (H * 18446744073709551616 + Lo) * 2 ^ S = (H * 2 ^ S) * 18446744073709551616 + Lo * 2 ^ S := by grind
  omega
 generalize hP : 2 ^ S = P at *
 generalize hA : H * P + Lo / 2 ^ (64 - S) = un32 at *
 generalize hB : Lo * P % 18446744073709551616 = un10 at *
 have hun32 : un32 < Y * P := by omega
 have hun10 : un10 < 18446744073709551616 := by omega
 rw [if_neg (by omega)]
 have t0 : (0 : Int) ≤ (un32 : Int) := by omega
 rw [Qb5 t0]
 have q0 : (0 : Int) ≤ (un32 : Int) / (((Y * P : Nat) : Int) / 4294967296) := Int.ediv_nonneg t0 (by omega)
 have q1 := Int.ediv_le_self (((Y * P : Nat) : Int) / 4294967296) t0
 have m1 := Int.mul_ediv_add_emod (un32 : Int) (((Y * P : Nat) : Int) / 4294967296)
 have m2 := Int.emod_nonneg (un32 : Int) (b := ((Y * P : Nat) : Int) / 4294967296) (by omega)
 have m3 := Int.emod_lt_of_pos (un32 : Int) (b := ((Y * P : Nat) : Int) / 4294967296) (by omega)
 have m4 : (un32 : Int) / (((Y * P : Nat) : Int) / 4294967296) * (((Y * P : Nat) : Int) / 4294967296) = (((Y * P : Nat) : Int) / 4294967296) * ((un32 : Int) / (((Y * P : Nat) : Int) / 4294967296)) := Int.mul_comm _ _
 have g2 : IntKind.u64.wrap ((un32 : Int) / (((Y * P : Nat) : Int) / 4294967296)) = (un32 : Int) / (((Y * P : Nat) : Int) / 4294967296) := by rw [d64_wr]; omega
 have g3 : IntKind.u64.wrap ((un32 : Int) - IntKind.u64.wrap ((un32 : Int) / (((Y * P : Nat) : Int) / 4294967296) * (((Y * P : Nat) : Int) / 4294967296))) = (un32 : Int) % (((Y * P : Nat) : Int) / 4294967296) := by simp only [d64_wr]; omega
 rw [g2, g3]
 rw [Qcx (by omega) (by omega) (by omega) (by omega) (by omega) (by omega) (by omega) (by omega) (by omega) (by omega) (by omega) (by omega) k hk]
 have key2 : (un32 : Int) * 18446744073709551616 + (un10 : Int) / 4294967296 * 4294967296 + (un10 : Int) % 4294967296 = ((H : Int) * 18446744073709551616 + (Lo : Int)) * (P : Int) := by
  have := congrArg (fun z : Nat => (z : Int)) key
  simp only [Int.natCast_add, Int.natCast_mul, show ((18446744073709551616 : Nat) : Int) = 18446744073709551616 from rfl] at this
  omega
 have hP0 : (0 : Int) < (P : Int) := by omega
 have r2 : ((H : Int) * 18446744073709551616 + (Lo : Int)) * (P : Int) % ((Y : Int) * (P : Int)) = ((H : Int) * 18446744073709551616 + (Lo : Int)) % (Y : Int) * (P : Int) := by
  rw [Int.mul_comm _ (P : Int), Int.mul_comm (Y : Int) (P : Int), Int.mul_emod_mul_of_pos _ _ hP0, Int.mul_comm]
 rw [key2, Int.natCast_mul, Int.mul_ediv_mul_of_pos_left _ _ hP0, r2]
 have f1 : shr .u64 (((H : Int) * 18446744073709551616 + (Lo : Int)) % (Y : Int) * (P : Int)) (S : Int) = ((H : Int) * 18446744073709551616 + (Lo : Int)) % (Y : Int) := by
  unfold shr
  rw [Int.toNat_natCast, Nat.min_eq_left (show S ≤ IntKind.u64.bits by show S ≤ 64; omega), QbX, hP, Int.mul_ediv_cancel _ (by omega)]
 rw [f1]
def Qa2.f (a0 : Int) (a1 : Bool) : Option (Int × Int) := if a0 > 1152921504606846976 then (some (0, 3)) else (if a1 = T then (some (wrap64 (-(wrap64 (a0))), 0)) else (some (wrap64 (a0), 0)))
set_option maxHeartbeats 8000000 in
theorem Qa2.calls (a0 : Int) (a1 : Bool) (r1 : Int) (r2 : Int) (w : World) (h : Qa2.f a0 a1 = some (r1, r2)) :
  Calls Try.prog 92 #[.int .u64 a0, .bool a1] w fun e w' => e = .returned (.tuple #[.int .i64 r1, .int .i64 r2]) ∧ Drawn0 w w' := by
 have H : (if a0 > 1152921504606846976 then (some (0, 3)) else (if a1 = T then (some (wrap64 (-(wrap64 (a0))), 0)) else (some (wrap64 (a0), 0)))) = some (r1, r2) := h
 clear h
 by_cases c3 : a0 > 1152921504606846976
 ·rw [if_pos c3] at H
  have c3b0 : decide (1152921504606846976 < a0) = T := decide_eq_true c3
  clear c3
  simp only [Option.some.injEq, Prod.mk.injEq] at H
  obtain ⟨rfl, rfl⟩ := H
  go_enter Try.func92, Try.ntmps92
  go_wp2
  go_ret2
  exact ⟨Zs, Zd⟩
 rw [if_neg c3] at H
 have c3b0 : decide (1152921504606846976 < a0) = F := decide_eq_false c3
 clear c3
 by_cases c4 : a1 = T
 ·subst c4
  have H1 : (some (wrap64 (-(wrap64 (a0))), 0)) = some (r1, r2) := by rw [if_pos rfl] at H; exact H
  clear H
  have H := H1
  clear H1
  simp only [Option.some.injEq, Prod.mk.injEq] at H
  obtain ⟨rfl, rfl⟩ := H
  go_enter Try.func92, Try.ntmps92
  go_wp2
  go_ret2
  exact ⟨Zs, Zd⟩
 replace c4 := Bool.eq_false_iff.mpr c4
 subst c4
 have H1 : (some (wrap64 (a0), 0)) = some (r1, r2) := by rw [if_neg (show ¬ (F = T) by decide)] at H; exact H
 clear H
 have H := H1
 clear H1
 simp only [Option.some.injEq, Prod.mk.injEq] at H
 obtain ⟨rfl, rfl⟩ := H
 go_enter Try.func92, Try.ntmps92
 go_wp2
 go_ret2
 exact ⟨Zs, Zd⟩
set_option maxHeartbeats 4000000 in
theorem QaC.bad (a0 a1 a2 a3 : Int) (w : World) (h : ¬ (mdFits a0 ∧ mdFits a1 ∧ mdFits a2 ∧ 1 ≤ a3 ∧ a3 ≤ 5)) :
  Calls Try.prog 57 #[.int .i64 a0, .int .i64 a1, .int .i64 a2, .int .i64 a3] w fun e w' => e = .returned (.tuple #[.int .i64 0, .int .i64 2]) ∧ w' = w := by
 rcases Qdo a0 a1 a2 a3 h with h1 | h1 | ⟨⟨h1, h2⟩, h3⟩ | ⟨⟨h1, h2⟩, h3⟩ | ⟨⟨h1, h2⟩, ⟨h3, h4⟩, h5⟩ | ⟨⟨h1, h2⟩, ⟨h3, h4⟩, h5⟩ | ⟨⟨h1, h2⟩, ⟨h3, h4⟩, ⟨h5, h6⟩, h7⟩ | ⟨⟨h1, h2⟩, ⟨h3, h4⟩, ⟨h5, h6⟩, h7⟩
 all_goals
  clear h
  go_enter Try.func57, Try.ntmps57
  go_wp2
  go_ret2
  exact ⟨rfl, rfl⟩
theorem Qat.walkp (p y : Nat) (h : p / 18446744073709551616 < y) (hy : y < 18446744073709551616) (w : World) :
  Calls Try.prog 90 #[.int .u64 ((p / 18446744073709551616 : Nat) : Int), .int .u64 ((p % 18446744073709551616 : Nat) : Int), .int .u64 (y : Int)] w fun e w' =>
   e = .returned (.tuple #[.int .u64 ((p / y : Nat) : Int), .int .u64 ((p % y : Nat) : Int)]) ∧ Drawn0 w w' := by
 have e := Qat.eq ((p / 18446744073709551616 : Nat) : Int) ((p % 18446744073709551616 : Nat) : Int) (y : Int) (by omega) (by omega) (by omega) (by omega) (by omega) 20 (by omega)
 have e2 : ((p / 18446744073709551616 : Nat) : Int) * 18446744073709551616 + ((p % 18446744073709551616 : Nat) : Int) = (p : Int) := by omega
 rw [e2] at e
 exact Qat.calls 20 _ _ _ _ _ w (by rw [e]; rfl)
def mdHalf (q r c : Int) : Bool := decide (c - r < r) || (decide (r = c - r) && decide (q % 2 = 1))
set_option maxHeartbeats 1000000 in
theorem Qdv.half (q r c : Int) (b1 b2 : Nat) (w : World) (hm : w.cell? ⟨b1, 0, none⟩ = some (.int .i64 5)) (h0 : 0 ≤ q) (h1 : 0 ≤ r) (h2 : r < c) (h3 : c ≤ 1152921504606846976) :
  Calls Try.prog 118 #[.int .u64 q, .int .u64 r, .int .u64 c, .pointer (some ⟨b1, 0, none⟩), .pointer (some ⟨b2, 0, none⟩)] w fun e w' => e = .returned (.bool (mdHalf q r c)) ∧ w' = w := by
 by_cases g1 : c - r < r
 ·have e : mdHalf q r c = T := by unfold mdHalf; rw [decide_eq_true g1]; rfl
  rw [e]
  go_enter Try.func118, Try.ntmps118
  go_wp2
  go_ret
  exact ⟨rfl, rfl⟩
 by_cases g2 : r = c - r
 ·have f2 : (r == c - r) = T := beq_iff_eq.mpr g2
  by_cases g3 : q % 2 = 1
  ·have f3 : (q % 2 == 1) = T := beq_iff_eq.mpr g3
   have e : mdHalf q r c = T := by unfold mdHalf; rw [decide_eq_true g2, decide_eq_true g3, decide_eq_false g1]; rfl
   rw [e]
   clear g2 g3 e
   go_enter Try.func118, Try.ntmps118
   go_wp2
   go_ret
   exact ⟨rfl, rfl⟩
  have f3 : (q % 2 == 1) = F := beq_eq_false_iff_ne.mpr g3
  have e : mdHalf q r c = F := by unfold mdHalf; rw [decide_eq_true g2, decide_eq_false g3, decide_eq_false g1]; rfl
  rw [e]
  clear g2 g3 e
  go_enter Try.func118, Try.ntmps118
  go_wp2
  go_ret
  exact ⟨rfl, rfl⟩
 have f2 : (r == c - r) = F := beq_eq_false_iff_ne.mpr g2
 have e : mdHalf q r c = F := by unfold mdHalf; rw [decide_eq_false g2, decide_eq_false g1]; rfl
 rw [e]
 clear e
 go_enter Try.func118, Try.ntmps118
 go_wp2
 go_ret
 exact ⟨rfl, rfl⟩
def mdSgn (q : Int) (b : Bool) : Int × Int := if q > 1152921504606846976 then (0, 3) else if b = T then (wrap64 (-(wrap64 q)), 0) else (wrap64 q, 0)
theorem md_sgn (q : Int) (b : Bool) : Qa2.f q b = some ((mdSgn q b).1, (mdSgn q b).2) := by
 unfold Qa2.f mdSgn
 repeat' split
 all_goals rfl
theorem Qc8 (q : Int) (b : Bool) (h : 0 ≤ q) : mdSgn q b = if 1152921504606846976 < q then (0, 3) else (if b = T then -q else q, 0) := by
 unfold mdSgn
 by_cases c : q > 1152921504606846976
 ·rw [if_pos c, if_pos c]
 rw [if_neg c, if_neg c]
 cases b <;> simp [wrap64] <;> omega
set_option maxHeartbeats 4000000 in
theorem QaC.m0 (a0 a1 a2 a3 : Int) (w : World) (h1 : -1152921504606846976 ≤ a0) (h2 : a0 ≤ 1152921504606846976) (h3 : -1152921504606846976 ≤ a1) (h4 : a1 ≤ 1152921504606846976)
  (h5 : -1152921504606846976 ≤ a2) (h6 : a2 ≤ 1152921504606846976) (hc : (a2 == 0) = F) (m1 : 1 ≤ a3) (m2 : a3 ≤ 5)
  (hh : a0.natAbs * a1.natAbs / 18446744073709551616 < a2.natAbs) (hq : (a0.natAbs : Int) * a1.natAbs / a2.natAbs ≤ 1152921504606846976) (hr : (a0.natAbs : Int) * a1.natAbs % a2.natAbs ≤ 0) :
  Calls Try.prog 57 #[.int .i64 a0, .int .i64 a1, .int .i64 a2, .int .i64 a3] w fun e w' => e = .returned (.tuple #[.int .i64 (mdSgn ((a0.natAbs : Int) * a1.natAbs / a2.natAbs) (Qbm a0 a1 a2)).1, .int .i64 (mdSgn ((a0.natAbs : Int) * a1.natAbs / a2.natAbs) (Qbm a0 a1 a2)).2]) ∧ Below w.heap.size w w' := by
 have hmf : ∀ (fn : Fn) (first cap : Array Value) (w : World), (Instr.makeFunc fn first cap).run Try.prog w = .ok (.func fn first cap) w := fun _ _ _ _ => rfl
 go_enter Try.func57, Try.ntmps57
 go_wp2_with (first | (go_at_call 89; refine (Qa5.walk _ _ (by omega) (by omega)).mono ?_; rintro e w' ⟨rfl, rfl⟩) | (go_at_call 88; refine (Qa9.walk _ _ (by omega) (by omega) _).mono ?_; rintro e w' ⟨rfl, rfl⟩) | (go_at_call 90; refine (Qat.walkp _ _ hh (by omega) _).mono ?_; rintro e w1 ⟨rfl, hd⟩) | (go_at_call 92; refine (Qa2.calls _ _ _ _ _ (md_sgn _ _)).mono ?_; rintro e w2 ⟨rfl, hd2⟩) | (go_at_call 87; go_in) | (go_at_call 91; go_in))
 go_ret2
 exact ⟨rfl, Qb7 hd.below hd.below.size hd2.below⟩
set_option maxHeartbeats 4000000 in
theorem QaC.o1 (a0 a1 a2 a3 : Int) (w : World) (h1 : -1152921504606846976 ≤ a0) (h2 : a0 ≤ 1152921504606846976) (h3 : -1152921504606846976 ≤ a1) (h4 : a1 ≤ 1152921504606846976)
  (h5 : -1152921504606846976 ≤ a2) (h6 : a2 ≤ 1152921504606846976) (hc : (a2 == 0) = F) (m1 : 1 ≤ a3) (m2 : a3 ≤ 5)
  (hh : (a2.natAbs : Int) ≤ (a0.natAbs : Int) * a1.natAbs / 18446744073709551616) :
  Calls Try.prog 57 #[.int .i64 a0, .int .i64 a1, .int .i64 a2, .int .i64 a3] w fun e w' => e = .returned (.tuple #[.int .i64 0, .int .i64 3]) ∧ Below w.heap.size w w' := by
 go_enter Try.func57, Try.ntmps57
 go_wp2_with (first | (go_at_call 89; refine (Qa5.walk _ _ (by omega) (by omega)).mono ?_; rintro e w' ⟨rfl, rfl⟩) | (go_at_call 88; refine (Qa9.walk _ _ (by omega) (by omega) _).mono ?_; rintro e w' ⟨rfl, rfl⟩) | (go_at_call 90; refine (Qat.walkp _ _ hh (by omega) _).mono ?_; rintro e w1 ⟨rfl, hd⟩) | (go_at_call 92; refine (Qa2.calls _ _ _ _ _ (md_sgn _ _)).mono ?_; rintro e w2 ⟨rfl, hd2⟩) | (go_at_call 87; go_in) | (go_at_call 91; go_in))
 go_ret2
 exact ⟨rfl, Below.refl _ _⟩
set_option maxHeartbeats 4000000 in
theorem QaC.o2 (a0 a1 a2 a3 : Int) (w : World) (h1 : -1152921504606846976 ≤ a0) (h2 : a0 ≤ 1152921504606846976) (h3 : -1152921504606846976 ≤ a1) (h4 : a1 ≤ 1152921504606846976)
  (h5 : -1152921504606846976 ≤ a2) (h6 : a2 ≤ 1152921504606846976) (hc : (a2 == 0) = F) (m1 : 1 ≤ a3) (m2 : a3 ≤ 5)
  (hh : a0.natAbs * a1.natAbs / 18446744073709551616 < a2.natAbs) (hq : 1152921504606846976 < (a0.natAbs : Int) * a1.natAbs / a2.natAbs) :
  Calls Try.prog 57 #[.int .i64 a0, .int .i64 a1, .int .i64 a2, .int .i64 a3] w fun e w' => e = .returned (.tuple #[.int .i64 0, .int .i64 3]) ∧ Below w.heap.size w w' := by
 go_enter Try.func57, Try.ntmps57
 go_wp2_with (first | (go_at_call 89; refine (Qa5.walk _ _ (by omega) (by omega)).mono ?_; rintro e w' ⟨rfl, rfl⟩) | (go_at_call 88; refine (Qa9.walk _ _ (by omega) (by omega) _).mono ?_; rintro e w' ⟨rfl, rfl⟩) | (go_at_call 90; refine (Qat.walkp _ _ hh (by omega) _).mono ?_; rintro e w1 ⟨rfl, hd⟩) | (go_at_call 92; refine (Qa2.calls _ _ _ _ _ (md_sgn _ _)).mono ?_; rintro e w2 ⟨rfl, hd2⟩) | (go_at_call 87; go_in) | (go_at_call 91; go_in))
 go_ret2
 exact ⟨rfl, hd.below⟩
set_option maxHeartbeats 4000000 in
theorem QaC.z (a0 a1 a2 a3 : Int) (w : World) (h1 : -1152921504606846976 ≤ a0) (h2 : a0 ≤ 1152921504606846976) (h3 : -1152921504606846976 ≤ a1) (h4 : a1 ≤ 1152921504606846976)
  (h5 : -1152921504606846976 ≤ a2) (h6 : a2 ≤ 1152921504606846976) (hc : (a2 == 0) = T) (m1 : 1 ≤ a3) (m2 : a3 ≤ 5) :
  Calls Try.prog 57 #[.int .i64 a0, .int .i64 a1, .int .i64 a2, .int .i64 a3] w fun e w' => e = .returned (.tuple #[.int .i64 0, .int .i64 4]) ∧ Below w.heap.size w w' := by
 go_enter Try.func57, Try.ntmps57
 go_wp2_with (go_at_call 87; go_in)
 go_ret2
 exact ⟨rfl, Below.refl _ _⟩
theorem md_end {w w1 w2 : World} {o1 o2 : Obj} (hd : Drawn0 w w1) (hd2 : Drawn0 ((w1.alloc o1).alloc o2) w2) : Below w.heap.size w w2 :=
 Qb7 (Qaf (Qaf hd.below _) _) (Nat.le_trans hd.below.size (by simp; omega)) hd2.below
set_option maxHeartbeats 4000000 in
theorem QaC.r1 (a0 a1 a2 : Int) (w : World) (h1 : -1152921504606846976 ≤ a0) (h2 : a0 ≤ 1152921504606846976) (h3 : -1152921504606846976 ≤ a1) (h4 : a1 ≤ 1152921504606846976)
  (h5 : -1152921504606846976 ≤ a2) (h6 : a2 ≤ 1152921504606846976) (hc : (a2 == 0) = F)
  (hh : a0.natAbs * a1.natAbs / 18446744073709551616 < a2.natAbs) (hq : (a0.natAbs : Int) * a1.natAbs / a2.natAbs ≤ 1152921504606846976) (hr : 0 < (a0.natAbs : Int) * a1.natAbs % a2.natAbs) :
  Calls Try.prog 57 #[.int .i64 a0, .int .i64 a1, .int .i64 a2, .int .i64 1] w fun e w' => e = .returned (.tuple #[.int .i64 (mdSgn ((a0.natAbs : Int) * a1.natAbs / a2.natAbs) (Qbm a0 a1 a2)).1, .int .i64 (mdSgn ((a0.natAbs : Int) * a1.natAbs / a2.natAbs) (Qbm a0 a1 a2)).2]) ∧ Below w.heap.size w w' := by
 have hmf : ∀ (fn : Fn) (first cap : Array Value) (w : World), (Instr.makeFunc fn first cap).run Try.prog w = .ok (.func fn first cap) w := fun _ _ _ _ => rfl
 go_enter Try.func57, Try.ntmps57
 go_wp2_with (first | (go_at_call 89; refine (Qa5.walk _ _ (by omega) (by omega)).mono ?_; rintro e w' ⟨rfl, rfl⟩) | (go_at_call 88; refine (Qa9.walk _ _ (by omega) (by omega) _).mono ?_; rintro e w' ⟨rfl, rfl⟩) | (go_at_call 90; refine (Qat.walkp _ _ hh (by omega) _).mono ?_; rintro e w1 ⟨rfl, hd⟩) | (go_at_call 92; refine (Qa2.calls _ _ _ _ _ (md_sgn _ _)).mono ?_; rintro e w2 ⟨rfl, hd2⟩) | (go_at_call 87; go_in) | (go_at_call 91; go_in) | (go_at_call 118; go_in))
 go_ret2
 exact ⟨rfl, md_end hd hd2⟩
set_option maxHeartbeats 4000000 in
theorem QaC.r2 (a0 a1 a2 : Int) (w : World) (h1 : -1152921504606846976 ≤ a0) (h2 : a0 ≤ 1152921504606846976) (h3 : -1152921504606846976 ≤ a1) (h4 : a1 ≤ 1152921504606846976)
  (h5 : -1152921504606846976 ≤ a2) (h6 : a2 ≤ 1152921504606846976) (hc : (a2 == 0) = F)
  (hh : a0.natAbs * a1.natAbs / 18446744073709551616 < a2.natAbs) (hq : (a0.natAbs : Int) * a1.natAbs / a2.natAbs ≤ 1152921504606846976) (hr : 0 < (a0.natAbs : Int) * a1.natAbs % a2.natAbs) :
  Calls Try.prog 57 #[.int .i64 a0, .int .i64 a1, .int .i64 a2, .int .i64 2] w fun e w' => e = .returned (.tuple #[.int .i64 (mdSgn ((a0.natAbs : Int) * a1.natAbs / a2.natAbs + 1) (Qbm a0 a1 a2)).1, .int .i64 (mdSgn ((a0.natAbs : Int) * a1.natAbs / a2.natAbs + 1) (Qbm a0 a1 a2)).2]) ∧ Below w.heap.size w w' := by
 have hmf : ∀ (fn : Fn) (first cap : Array Value) (w : World), (Instr.makeFunc fn first cap).run Try.prog w = .ok (.func fn first cap) w := fun _ _ _ _ => rfl
 have hw : IntKind.u64.wrap ((a0.natAbs : Int) * a1.natAbs / a2.natAbs + 1) = (a0.natAbs : Int) * a1.natAbs / a2.natAbs + 1 := by
  have : 0 ≤ (a0.natAbs : Int) * a1.natAbs / a2.natAbs := Int.ediv_nonneg (Int.mul_nonneg (by omega) (by omega)) (by omega)
  rw [IntKind.wrap_u64]; omega
 go_enter Try.func57, Try.ntmps57
 go_wp2_with (first | (go_at_call 89; refine (Qa5.walk _ _ (by omega) (by omega)).mono ?_; rintro e w' ⟨rfl, rfl⟩) | (go_at_call 88; refine (Qa9.walk _ _ (by omega) (by omega) _).mono ?_; rintro e w' ⟨rfl, rfl⟩) | (go_at_call 90; refine (Qat.walkp _ _ hh (by omega) _).mono ?_; rintro e w1 ⟨rfl, hd⟩) | (go_at_call 92; refine (Qa2.calls _ _ _ _ _ (md_sgn _ _)).mono ?_; rintro e w2 ⟨rfl, hd2⟩) | (go_at_call 87; go_in) | (go_at_call 91; go_in) | (go_at_call 118; go_in))
 go_ret2
 exact ⟨rfl, md_end hd hd2⟩
set_option maxHeartbeats 4000000 in
theorem QaC.r3t (a0 a1 a2 : Int) (w : World) (h1 : -1152921504606846976 ≤ a0) (h2 : a0 ≤ 1152921504606846976) (h3 : -1152921504606846976 ≤ a1) (h4 : a1 ≤ 1152921504606846976)
  (h5 : -1152921504606846976 ≤ a2) (h6 : a2 ≤ 1152921504606846976) (hc : (a2 == 0) = F) (fb : (!((!(decide (a0 < 0) == decide (a1 < 0))) == decide (a2 < 0))) = T)
  (hh : a0.natAbs * a1.natAbs / 18446744073709551616 < a2.natAbs) (hq : (a0.natAbs : Int) * a1.natAbs / a2.natAbs ≤ 1152921504606846976) (hr : 0 < (a0.natAbs : Int) * a1.natAbs % a2.natAbs) :
  Calls Try.prog 57 #[.int .i64 a0, .int .i64 a1, .int .i64 a2, .int .i64 3] w fun e w' => e = .returned (.tuple #[.int .i64 (mdSgn ((a0.natAbs : Int) * a1.natAbs / a2.natAbs + 1) T).1, .int .i64 (mdSgn ((a0.natAbs : Int) * a1.natAbs / a2.natAbs + 1) T).2]) ∧ Below w.heap.size w w' := by
 have hmf : ∀ (fn : Fn) (first cap : Array Value) (w : World), (Instr.makeFunc fn first cap).run Try.prog w = .ok (.func fn first cap) w := fun _ _ _ _ => rfl
 have hw : IntKind.u64.wrap ((a0.natAbs : Int) * a1.natAbs / a2.natAbs + 1) = (a0.natAbs : Int) * a1.natAbs / a2.natAbs + 1 := by
  have : 0 ≤ (a0.natAbs : Int) * a1.natAbs / a2.natAbs := Int.ediv_nonneg (Int.mul_nonneg (by omega) (by omega)) (by omega)
  rw [IntKind.wrap_u64]; omega
 go_enter Try.func57, Try.ntmps57
 go_wp2_with (first | (go_at_call 89; refine (Qa5.walk _ _ (by omega) (by omega)).mono ?_; rintro e w' ⟨rfl, rfl⟩) | (go_at_call 88; refine (Qa9.walk _ _ (by omega) (by omega) _).mono ?_; rintro e w' ⟨rfl, rfl⟩) | (go_at_call 90; refine (Qat.walkp _ _ hh (by omega) _).mono ?_; rintro e w1 ⟨rfl, hd⟩) | (go_at_call 92; refine (Qa2.calls _ _ _ _ _ (md_sgn _ _)).mono ?_; rintro e w2 ⟨rfl, hd2⟩) | (go_at_call 87; go_in) | (go_at_call 91; go_in) | (go_at_call 118; go_in))
 go_ret2
 exact ⟨rfl, md_end hd hd2⟩
set_option maxHeartbeats 4000000 in
theorem QaC.r3f (a0 a1 a2 : Int) (w : World) (h1 : -1152921504606846976 ≤ a0) (h2 : a0 ≤ 1152921504606846976) (h3 : -1152921504606846976 ≤ a1) (h4 : a1 ≤ 1152921504606846976)
  (h5 : -1152921504606846976 ≤ a2) (h6 : a2 ≤ 1152921504606846976) (hc : (a2 == 0) = F) (fb : (!((!(decide (a0 < 0) == decide (a1 < 0))) == decide (a2 < 0))) = F)
  (hh : a0.natAbs * a1.natAbs / 18446744073709551616 < a2.natAbs) (hq : (a0.natAbs : Int) * a1.natAbs / a2.natAbs ≤ 1152921504606846976) (hr : 0 < (a0.natAbs : Int) * a1.natAbs % a2.natAbs) :
  Calls Try.prog 57 #[.int .i64 a0, .int .i64 a1, .int .i64 a2, .int .i64 3] w fun e w' => e = .returned (.tuple #[.int .i64 (mdSgn ((a0.natAbs : Int) * a1.natAbs / a2.natAbs) F).1, .int .i64 (mdSgn ((a0.natAbs : Int) * a1.natAbs / a2.natAbs) F).2]) ∧ Below w.heap.size w w' := by
 have hmf : ∀ (fn : Fn) (first cap : Array Value) (w : World), (Instr.makeFunc fn first cap).run Try.prog w = .ok (.func fn first cap) w := fun _ _ _ _ => rfl
 go_enter Try.func57, Try.ntmps57
 go_wp2_with (first | (go_at_call 89; refine (Qa5.walk _ _ (by omega) (by omega)).mono ?_; rintro e w' ⟨rfl, rfl⟩) | (go_at_call 88; refine (Qa9.walk _ _ (by omega) (by omega) _).mono ?_; rintro e w' ⟨rfl, rfl⟩) | (go_at_call 90; refine (Qat.walkp _ _ hh (by omega) _).mono ?_; rintro e w1 ⟨rfl, hd⟩) | (go_at_call 92; refine (Qa2.calls _ _ _ _ _ (md_sgn _ _)).mono ?_; rintro e w2 ⟨rfl, hd2⟩) | (go_at_call 87; go_in) | (go_at_call 91; go_in) | (go_at_call 118; go_in))
 go_ret2
 exact ⟨rfl, md_end hd hd2⟩
set_option maxHeartbeats 4000000 in
theorem QaC.r4t (a0 a1 a2 : Int) (w : World) (h1 : -1152921504606846976 ≤ a0) (h2 : a0 ≤ 1152921504606846976) (h3 : -1152921504606846976 ≤ a1) (h4 : a1 ≤ 1152921504606846976)
  (h5 : -1152921504606846976 ≤ a2) (h6 : a2 ≤ 1152921504606846976) (hc : (a2 == 0) = F) (fb : (!((!(decide (a0 < 0) == decide (a1 < 0))) == decide (a2 < 0))) = T)
  (hh : a0.natAbs * a1.natAbs / 18446744073709551616 < a2.natAbs) (hq : (a0.natAbs : Int) * a1.natAbs / a2.natAbs ≤ 1152921504606846976) (hr : 0 < (a0.natAbs : Int) * a1.natAbs % a2.natAbs) :
  Calls Try.prog 57 #[.int .i64 a0, .int .i64 a1, .int .i64 a2, .int .i64 4] w fun e w' => e = .returned (.tuple #[.int .i64 (mdSgn ((a0.natAbs : Int) * a1.natAbs / a2.natAbs) T).1, .int .i64 (mdSgn ((a0.natAbs : Int) * a1.natAbs / a2.natAbs) T).2]) ∧ Below w.heap.size w w' := by
 have hmf : ∀ (fn : Fn) (first cap : Array Value) (w : World), (Instr.makeFunc fn first cap).run Try.prog w = .ok (.func fn first cap) w := fun _ _ _ _ => rfl
 go_enter Try.func57, Try.ntmps57
 go_wp2_with (first | (go_at_call 89; refine (Qa5.walk _ _ (by omega) (by omega)).mono ?_; rintro e w' ⟨rfl, rfl⟩) | (go_at_call 88; refine (Qa9.walk _ _ (by omega) (by omega) _).mono ?_; rintro e w' ⟨rfl, rfl⟩) | (go_at_call 90; refine (Qat.walkp _ _ hh (by omega) _).mono ?_; rintro e w1 ⟨rfl, hd⟩) | (go_at_call 92; refine (Qa2.calls _ _ _ _ _ (md_sgn _ _)).mono ?_; rintro e w2 ⟨rfl, hd2⟩) | (go_at_call 87; go_in) | (go_at_call 91; go_in) | (go_at_call 118; go_in))
 go_ret2
 exact ⟨rfl, md_end hd hd2⟩
set_option maxHeartbeats 4000000 in
theorem QaC.r4f (a0 a1 a2 : Int) (w : World) (h1 : -1152921504606846976 ≤ a0) (h2 : a0 ≤ 1152921504606846976) (h3 : -1152921504606846976 ≤ a1) (h4 : a1 ≤ 1152921504606846976)
  (h5 : -1152921504606846976 ≤ a2) (h6 : a2 ≤ 1152921504606846976) (hc : (a2 == 0) = F) (fb : (!((!(decide (a0 < 0) == decide (a1 < 0))) == decide (a2 < 0))) = F)
  (hh : a0.natAbs * a1.natAbs / 18446744073709551616 < a2.natAbs) (hq : (a0.natAbs : Int) * a1.natAbs / a2.natAbs ≤ 1152921504606846976) (hr : 0 < (a0.natAbs : Int) * a1.natAbs % a2.natAbs) :
  Calls Try.prog 57 #[.int .i64 a0, .int .i64 a1, .int .i64 a2, .int .i64 4] w fun e w' => e = .returned (.tuple #[.int .i64 (mdSgn ((a0.natAbs : Int) * a1.natAbs / a2.natAbs + 1) F).1, .int .i64 (mdSgn ((a0.natAbs : Int) * a1.natAbs / a2.natAbs + 1) F).2]) ∧ Below w.heap.size w w' := by
 have hmf : ∀ (fn : Fn) (first cap : Array Value) (w : World), (Instr.makeFunc fn first cap).run Try.prog w = .ok (.func fn first cap) w := fun _ _ _ _ => rfl
 have hw : IntKind.u64.wrap ((a0.natAbs : Int) * a1.natAbs / a2.natAbs + 1) = (a0.natAbs : Int) * a1.natAbs / a2.natAbs + 1 := by
  have : 0 ≤ (a0.natAbs : Int) * a1.natAbs / a2.natAbs := Int.ediv_nonneg (Int.mul_nonneg (by omega) (by omega)) (by omega)
  rw [IntKind.wrap_u64]; omega
 go_enter Try.func57, Try.ntmps57
 go_wp2_with (first | (go_at_call 89; refine (Qa5.walk _ _ (by omega) (by omega)).mono ?_; rintro e w' ⟨rfl, rfl⟩) | (go_at_call 88; refine (Qa9.walk _ _ (by omega) (by omega) _).mono ?_; rintro e w' ⟨rfl, rfl⟩) | (go_at_call 90; refine (Qat.walkp _ _ hh (by omega) _).mono ?_; rintro e w1 ⟨rfl, hd⟩) | (go_at_call 92; refine (Qa2.calls _ _ _ _ _ (md_sgn _ _)).mono ?_; rintro e w2 ⟨rfl, hd2⟩) | (go_at_call 87; go_in) | (go_at_call 91; go_in) | (go_at_call 118; go_in))
 go_ret2
 exact ⟨rfl, md_end hd hd2⟩
set_option maxHeartbeats 4000000 in
theorem QaC.r5 (a0 a1 a2 : Int) (w : World) (h1 : -1152921504606846976 ≤ a0) (h2 : a0 ≤ 1152921504606846976) (h3 : -1152921504606846976 ≤ a1) (h4 : a1 ≤ 1152921504606846976)
  (h5 : -1152921504606846976 ≤ a2) (h6 : a2 ≤ 1152921504606846976) (hc : (a2 == 0) = F) (hb : Bool) (hhalf : Aside0 (mdHalf ((a0.natAbs : Int) * a1.natAbs / a2.natAbs) ((a0.natAbs : Int) * a1.natAbs % a2.natAbs) a2.natAbs = hb))
  (hh : a0.natAbs * a1.natAbs / 18446744073709551616 < a2.natAbs) (hq : (a0.natAbs : Int) * a1.natAbs / a2.natAbs ≤ 1152921504606846976) (hr : 0 < (a0.natAbs : Int) * a1.natAbs % a2.natAbs) :
  Calls Try.prog 57 #[.int .i64 a0, .int .i64 a1, .int .i64 a2, .int .i64 5] w fun e w' => e = .returned (.tuple #[.int .i64 (mdSgn (if hb = T then (a0.natAbs : Int) * a1.natAbs / a2.natAbs + 1 else (a0.natAbs : Int) * a1.natAbs / a2.natAbs) (Qbm a0 a1 a2)).1, .int .i64 (mdSgn (if hb = T then (a0.natAbs : Int) * a1.natAbs / a2.natAbs + 1 else (a0.natAbs : Int) * a1.natAbs / a2.natAbs) (Qbm a0 a1 a2)).2]) ∧ Below w.heap.size w w' := by
 have hmf : ∀ (fn : Fn) (first cap : Array Value) (w : World), (Instr.makeFunc fn first cap).run Try.prog w = .ok (.func fn first cap) w := fun _ _ _ _ => rfl
 have hw : IntKind.u64.wrap ((a0.natAbs : Int) * a1.natAbs / a2.natAbs + 1) = (a0.natAbs : Int) * a1.natAbs / a2.natAbs + 1 := by
  have : 0 ≤ (a0.natAbs : Int) * a1.natAbs / a2.natAbs := Int.ediv_nonneg (Int.mul_nonneg (by omega) (by omega)) (by omega)
  rw [IntKind.wrap_u64]; omega
 have hq0 : 0 ≤ (a0.natAbs : Int) * a1.natAbs / a2.natAbs := Int.ediv_nonneg (Int.mul_nonneg (by omega) (by omega)) (by omega)
 have hrc : (a0.natAbs : Int) * a1.natAbs % a2.natAbs < a2.natAbs := Int.emod_lt_of_pos _ (by omega)
 go_enter Try.func57, Try.ntmps57
 go_wp2_with (first | (go_at_call 89; refine (Qa5.walk _ _ (by omega) (by omega)).mono ?_; rintro e w' ⟨rfl, rfl⟩) | (go_at_call 88; refine (Qa9.walk _ _ (by omega) (by omega) _).mono ?_; rintro e w' ⟨rfl, rfl⟩) | (go_at_call 90; refine (Qat.walkp _ _ hh (by omega) _).mono ?_; rintro e w1 ⟨rfl, hd⟩) | (go_at_call 92; refine (Qa2.calls _ _ _ _ _ (md_sgn _ _)).mono ?_; rintro e w2 ⟨rfl, hd2⟩) | (go_at_call 87; go_in) | (go_at_call 91; go_in))
 refine (Qdv.half _ _ _ _ _ _ (by go_simp) (by omega) (by omega) (by omega) (by omega)).mono ?_
 rw [hhalf.out]
 rintro e w' ⟨rfl, rfl⟩
 cases hb
 ·go_wp2_with (go_at_call 92; refine (Qa2.calls _ _ _ _ _ (md_sgn _ _)).mono ?_; rintro e w2 ⟨rfl, hd2⟩)
  go_ret2
  exact ⟨rfl, md_end hd hd2⟩
 go_wp2_with (go_at_call 92; refine (Qa2.calls _ _ _ _ _ (md_sgn _ _)).mono ?_; rintro e w2 ⟨rfl, hd2⟩)
 go_ret2
 exact ⟨rfl, md_end hd hd2⟩
theorem QbI {a b c mode : Int} (q : Int) (h : mdQ a b c mode = q) (h0 : 0 ≤ q) : mdSgn q (Qbm a b c) = mdRes a b c mode := by
 unfold mdRes
 rw [h, Qc8 q _ h0]
def QaC.f (a0 a1 a2 a3 : Int) : Option (Int × Int) :=
 if mdFits a0 ∧ mdFits a1 ∧ mdFits a2 ∧ 1 ≤ a3 ∧ a3 ≤ 5 then
  if a2 = 0 then some (0, 4) else some (mdRes a0 a1 a2 a3)
 else some (0, 2)
theorem QaC.res (a0 a1 a2 a3 : Int) (w : World) (h1 : -1152921504606846976 ≤ a0) (h2 : a0 ≤ 1152921504606846976) (h3 : -1152921504606846976 ≤ a1) (h4 : a1 ≤ 1152921504606846976)
  (h5 : -1152921504606846976 ≤ a2) (h6 : a2 ≤ 1152921504606846976) (hc : (a2 == 0) = F) (m1 : 1 ≤ a3) (m2 : a3 ≤ 5) :
  Calls Try.prog 57 #[.int .i64 a0, .int .i64 a1, .int .i64 a2, .int .i64 a3] w fun e w' => e = .returned (.tuple #[.int .i64 (mdRes a0 a1 a2 a3).1, .int .i64 (mdRes a0 a1 a2 a3).2]) ∧ Below w.heap.size w w' := by
 have hc' : a2 ≠ 0 := by simpa using hc
 have hq0 : 0 ≤ (a0.natAbs : Int) * a1.natAbs / a2.natAbs := Int.ediv_nonneg (Int.mul_nonneg (by omega) (by omega)) (by omega)
 by_cases hh : a0.natAbs * a1.natAbs / 18446744073709551616 < a2.natAbs
 ·by_cases hq : (a0.natAbs : Int) * a1.natAbs / a2.natAbs ≤ 1152921504606846976
  ·by_cases hr : 0 < (a0.natAbs : Int) * a1.natAbs % a2.natAbs
   ·have up : mdAway a3 (Qbm a0 a1 a2) ((a0.natAbs : Int) * a1.natAbs / a2.natAbs) ((a0.natAbs : Int) * a1.natAbs % a2.natAbs) a2.natAbs = T → mdQ a0 a1 a2 a3 = (a0.natAbs : Int) * a1.natAbs / a2.natAbs + 1 := fun h => by unfold mdQ; rw [if_pos ⟨hr, h⟩]
    have dn : mdAway a3 (Qbm a0 a1 a2) ((a0.natAbs : Int) * a1.natAbs / a2.natAbs) ((a0.natAbs : Int) * a1.natAbs % a2.natAbs) a2.natAbs = F → mdQ a0 a1 a2 a3 = (a0.natAbs : Int) * a1.natAbs / a2.natAbs := fun h => by unfold mdQ; rw [if_neg (fun h' => by rw [h] at h'; cases h'.2)]
    obtain rfl | rfl | rfl | rfl | rfl : a3 = 1 ∨ a3 = 2 ∨ a3 = 3 ∨ a3 = 4 ∨ a3 = 5 := by omega
    ·rw [← QbI _ (dn (by unfold mdAway; rfl)) hq0]
     exact QaC.r1 a0 a1 a2 w h1 h2 h3 h4 h5 h6 hc hh hq hr
    ·rw [← QbI _ (up (by unfold mdAway; rfl)) (by omega)]
     exact QaC.r2 a0 a1 a2 w h1 h2 h3 h4 h5 h6 hc hh hq hr
    ·cases fb : Qbm a0 a1 a2
     ·rw [← QbI _ (dn (by unfold mdAway; rw [fb]; rfl)) hq0, fb]
      exact QaC.r3f a0 a1 a2 w h1 h2 h3 h4 h5 h6 hc fb hh hq hr
     rw [← QbI _ (up (by unfold mdAway; rw [fb]; rfl)) (by omega), fb]
     exact QaC.r3t a0 a1 a2 w h1 h2 h3 h4 h5 h6 hc fb hh hq hr
    ·cases fb : Qbm a0 a1 a2
     ·rw [← QbI _ (up (by unfold mdAway; rw [fb]; rfl)) (by omega), fb]
      exact QaC.r4f a0 a1 a2 w h1 h2 h3 h4 h5 h6 hc fb hh hq hr
     rw [← QbI _ (dn (by unfold mdAway; rw [fb]; rfl)) hq0, fb]
     exact QaC.r4t a0 a1 a2 w h1 h2 h3 h4 h5 h6 hc fb hh hq hr
    cases hb : mdHalf ((a0.natAbs : Int) * a1.natAbs / a2.natAbs) ((a0.natAbs : Int) * a1.natAbs % a2.natAbs) a2.natAbs
    ·rw [← QbI _ (dn (by unfold mdAway; exact hb)) hq0]
     exact QaC.r5 a0 a1 a2 w h1 h2 h3 h4 h5 h6 hc F (Aside0.mk hb) hh hq hr
    rw [← QbI _ (up (by unfold mdAway; exact hb)) (by omega)]
    exact QaC.r5 a0 a1 a2 w h1 h2 h3 h4 h5 h6 hc T (Aside0.mk hb) hh hq hr
   have e : mdQ a0 a1 a2 a3 = (a0.natAbs : Int) * a1.natAbs / a2.natAbs := by unfold mdQ; rw [if_neg (fun h => hr h.1)]
   rw [← QbI _ e hq0]
   exact QaC.m0 a0 a1 a2 a3 w h1 h2 h3 h4 h5 h6 hc m1 m2 hh hq (by omega)
  have e : mdRes a0 a1 a2 a3 = (0, 3) := by unfold mdRes; rw [if_pos (by unfold mdQ; split <;> omega)]
  rw [e]
  exact QaC.o2 a0 a1 a2 a3 w h1 h2 h3 h4 h5 h6 hc m1 m2 hh (by omega)
 have hbig : 1152921504606846976 < (a0.natAbs : Int) * a1.natAbs / a2.natAbs := by
  have h7 : a2.natAbs * 18446744073709551616 ≤ a0.natAbs * a1.natAbs := (Nat.le_div_iff_mul_le (by omega)).1 (by omega)
  have h8 : 18446744073709551616 ≤ a0.natAbs * a1.natAbs / a2.natAbs := (Nat.le_div_iff_mul_le (by omega)).2 (by rw [Nat.mul_comm]; exact h7)
  have h9 : ((a0.natAbs * a1.natAbs / a2.natAbs : Nat) : Int) = (a0.natAbs : Int) * a1.natAbs / a2.natAbs := by simp
  omega
 have e : mdRes a0 a1 a2 a3 = (0, 3) := by unfold mdRes; rw [if_pos (by unfold mdQ; split <;> omega)]
 rw [e]
 have h9 : ((a0.natAbs * a1.natAbs : Nat) : Int) = (a0.natAbs : Int) * a1.natAbs := Int.natCast_mul _ _
 exact QaC.o1 a0 a1 a2 a3 w h1 h2 h3 h4 h5 h6 hc m1 m2 (by omega)
theorem QaC.calls (a0 a1 a2 a3 r1 r2 : Int) (w : World) (h : QaC.f a0 a1 a2 a3 = some (r1, r2)) :
  Calls Try.prog 57 #[.int .i64 a0, .int .i64 a1, .int .i64 a2, .int .i64 a3] w fun e w' => e = .returned (.tuple #[.int .i64 r1, .int .i64 r2]) ∧ Below w.heap.size w w' := by
 unfold QaC.f at h
 by_cases c : mdFits a0 ∧ mdFits a1 ∧ mdFits a2 ∧ 1 ≤ a3 ∧ a3 ≤ 5
 ·rw [if_pos c] at h
  obtain ⟨⟨c1, c2⟩, ⟨c3, c4⟩, ⟨c5, c6⟩, c7, c8⟩ := c
  by_cases d : a2 = 0
  ·rw [if_pos d] at h
   have h' := Option.some.inj h
   simp only [Prod.mk.injEq] at h'
   obtain ⟨rfl, rfl⟩ := h'
   exact QaC.z a0 a1 a2 a3 w c1 c2 c3 c4 c5 c6 (by simpa using d) c7 c8
  rw [if_neg d] at h
  have h' := Option.some.inj h
  have e1 : (mdRes a0 a1 a2 a3).1 = r1 := by rw [h']
  have e2 : (mdRes a0 a1 a2 a3).2 = r2 := by rw [h']
  rw [← e1, ← e2]
  exact QaC.res a0 a1 a2 a3 w c1 c2 c3 c4 c5 c6 (by simpa using d) c7 c8
 rw [if_neg c] at h
 have h' := Option.some.inj h
 simp only [Prod.mk.injEq] at h'
 obtain ⟨rfl, rfl⟩ := h'
 refine (QaC.bad a0 a1 a2 a3 w c).mono ?_
 rintro e w' ⟨rfl, rfl⟩
 exact ⟨rfl, Below.refl _ _⟩
def Qbo.f (a0 : Int) : Option (Bool) := if 97 ≤ a0 then (some (decide (a0 ≤ 122))) else (some F)
set_option maxHeartbeats 8000000 in
theorem Qbo.calls (a0 : Int) (r : Bool) (w : World) (h : Qbo.f a0 = some r) :
  Calls Try.prog 121 #[.int .u8 a0] w fun e w' => e = .returned (.bool r) ∧ Drawn0 w w' := by
 have H : (if 97 ≤ a0 then (some (decide (a0 ≤ 122))) else (some F)) = some r := h
 clear h
 by_cases c2 : 97 ≤ a0
 ·rw [if_pos c2] at H
  have c2b0 : decide (97 ≤ a0) = T := decide_eq_true c2
  clear c2
  obtain rfl := Option.some.inj H
  go_enter Try.func121, Try.ntmps121
  go_wp2
  go_ret
  exact ⟨Zs, Zd⟩
 rw [if_neg c2] at H
 have c2b0 : decide (97 ≤ a0) = F := decide_eq_false c2
 clear c2
 obtain rfl := Option.some.inj H
 go_enter Try.func121, Try.ntmps121
 go_wp2
 go_ret
 exact ⟨Zs, Zd⟩
def Qbu.f (a0 : Int) : Option (Bool) := if 48 ≤ a0 then (some (decide (a0 ≤ 57))) else (some F)
set_option maxHeartbeats 8000000 in
theorem Qbu.calls (a0 : Int) (r : Bool) (w : World) (h : Qbu.f a0 = some r) :
  Calls Try.prog 122 #[.int .u8 a0] w fun e w' => e = .returned (.bool r) ∧ Drawn0 w w' := by
 have H : (if 48 ≤ a0 then (some (decide (a0 ≤ 57))) else (some F)) = some r := h
 clear h
 by_cases c2 : 48 ≤ a0
 ·rw [if_pos c2] at H
  have c2b0 : decide (48 ≤ a0) = T := decide_eq_true c2
  clear c2
  obtain rfl := Option.some.inj H
  go_enter Try.func122, Try.ntmps122
  go_wp2
  go_ret
  exact ⟨Zs, Zd⟩
 rw [if_neg c2] at H
 have c2b0 : decide (48 ≤ a0) = F := decide_eq_false c2
 clear c2
 obtain rfl := Option.some.inj H
 go_enter Try.func122, Try.ntmps122
 go_wp2
 go_ret
 exact ⟨Zs, Zd⟩
mutual
def Qax.j0 : Nat → ByteArray → Bool → Option (Bool)
 | 0, _, _ => none
 | k + 1, x0, x16 => if x16 = T then (some F) else (Qax.l0 k x0 (x0.size : Int) 0)
def Qax.l0 : Nat → ByteArray → Int → Int → Option (Bool)
 | 0, _, _, _ => none
 | k + 1, x0, x18, x19 => if x19 < x18 then (if 0 ≤ x19 then (if x19 < (x0.size : Int) then ((Qbo.f (bt x0 x19)).bind fun t120 => (if t120 = T then (Qax.l0 k x0 x18 (wrap64 (x19 + 1))) else ((Qbu.f (bt x0 x19)).bind fun t121 => (if t121 = T then (Qax.l0 k x0 x18 (wrap64 (x19 + 1))) else (some F))))) else (none)) else (none)) else (some T)
end
def Qax.f (k : Nat) (a0 : ByteArray) : Option (Bool) := if a0.toList = ([] : List UInt8) then (Qax.j0 k a0 T) else (if (a0.size : Int) > 12 then (Qax.j0 k a0 T) else (if 0 < (a0.size : Int) then ((Qbo.f (bt a0 0)).bind fun t119 => (Qax.j0 k a0 (!t119))) else (none)))
theorem Qax.mono_l : ∀ k, (∀ y0 y1, LeO (Qax.j0 k y0 y1) (Qax.j0 (k + 1) y0 y1)) ∧ (∀ y0 y1 y2, LeO (Qax.l0 k y0 y1 y2) (Qax.l0 (k + 1) y0 y1 y2))
 | 0 => ⟨fun _ _ r h => by simp [Qax.j0] at h, fun _ _ _ r h => by simp [Qax.l0] at h⟩
 | k + 1 => by
  obtain ⟨ih0, ih1⟩ := Qax.mono_l k
  refine ⟨?_, ?_⟩
  ·intro y0 y1
   unfold Qax.j0
   exact ZM2 ih0 ih1
  intro y0 y1 y2
  unfold Qax.l0
  exact ZM2 ih0 ih1
theorem Qax.mono : ∀ a0 k, LeO (Qax.f k a0) (Qax.f (k + 1) a0) := by
 intro a0 k
 obtain ⟨ih0, ih1⟩ := Qax.mono_l k
 unfold Qax.f
 exact ZM2 ih0 ih1
set_option maxHeartbeats 8000000 in
theorem Qax.calls (k : Nat) (a0 : ByteArray) (r : Bool) (w : World) (h : Qax.f k a0 = some r) :
  Calls Try.prog 108 #[.string a0] w fun e w' => e = .returned (.bool r) ∧ Drawn0 w w' := by
 have H : (if a0.toList = ([] : List UInt8) then (Qax.j0 k a0 T) else (if (a0.size : Int) > 12 then (Qax.j0 k a0 T) else (if 0 < (a0.size : Int) then ((Qbo.f (bt a0 0)).bind fun t119 => (Qax.j0 k a0 (!t119))) else (none)))) = some r := h
 clear h
 have HC2 := Aside0.mk H
 clear H
 go_enter Try.func108, Try.ntmps108
 go_upto_region 1 with (fail)
 go_cut [16] (fun v16 wc => ∃ (kq : Nat) (x16_1 : Bool), v16 = .bool x16_1 ∧ Aside0 (Qax.j0 kq a0 x16_1 = some r) ∧ Aside0 (kq ≤ k) ∧ Drawn0 w wc)
 case first =>
  have H := HC2.out
  clear HC2
  by_cases c3 : a0.toList = ([] : List UInt8)
  ·rw [if_pos c3] at H
   have c3b0 : (a0.toList == ([] : List UInt8)) = T := beq_iff_eq.mpr c3
   have c3b1 : (a0.toList != ([] : List UInt8)) = F := bne_eq_false_iff_eq.mpr c3
   clear c3
   have H' := Aside0.mk H
   clear H
   go_wp2
   go_meet
   case rel => exact ⟨_, (T), (Zs), H', ⟨by first | omega | exact Nat.le_refl _⟩, Zd⟩
  rw [if_neg c3] at H
  have c3b0 : (a0.toList == ([] : List UInt8)) = F := beq_eq_false_iff_ne.mpr c3
  have c3b1 : (a0.toList != ([] : List UInt8)) = T := bne_iff_ne.mpr c3
  by_cases c4 : (a0.size : Int) > 12
  ·rw [if_pos c4] at H
   have c4b0 : decide (12 < (a0.size : Int)) = T := decide_eq_true c4
   have c4b1 : decide (12 < a0.size) = T := decide_eq_true (by omega)
   clear c4
   have H' := Aside0.mk H
   clear H
   go_wp2
   go_meet
   case rel => exact ⟨_, (T), (Zs), H', ⟨by first | omega | exact Nat.le_refl _⟩, Zd⟩
  rw [if_neg c4] at H
  have c4b0 : decide (12 < (a0.size : Int)) = F := decide_eq_false c4
  have c4b1 : decide (12 < a0.size) = F := decide_eq_false (by omega)
  clear c4
  by_cases c5 : 0 < (a0.size : Int)
  ·rw [if_pos c5] at H
   have c5b0 : decide (0 < (a0.size : Int)) = T := decide_eq_true c5
   have c5b1 : decide (0 < a0.size) = T := decide_eq_true (by omega)
   clear c5
   replace H := Option.bind_eq_some_iff.mp H
   obtain ⟨t119, A70, H⟩ := H
   replace H : (Qax.j0 k a0 (!t119)) = some r := H
   have A7 := Aside0.mk A70
   clear A70
   have H' := Aside0.mk H
   clear H
   have p6 : 0 ≤ (0 : Int) := (by omega)
   have q6 : 0 < a0.size := (by have : (0 : Int) < (a0.size : Int) := Ze; omega)
   have hx6 : ∀ h : 0 < a0.size, ((a0[0]'h).toNat : Int) = bt a0 0 := bt_at a0 0
   clear p6
   have qi6 : (0 < (a0.size : Int)) = True := eq_true (Ze)
   replace q6 := eq_true q6
   go_wp2_with (first | (go_at_call 121; (with_reducible refine (Qbo.calls (bt a0 0) t119 _ A7.out).mono ?_); rintro e w' ⟨rfl, ⟨nd, rfl⟩⟩))
   go_meet
   case rel => exact ⟨_, (!t119), (Zs), H', ⟨by first | omega | exact Nat.le_refl _⟩, Zd⟩
  rw [if_neg c5] at H
  exact absurd H (by simp)
 case rest =>
  clear HC2
  try clear c1
  try clear p2
  try clear c3
  try clear c3b0
  try clear c3b1
  try clear c4
  try clear c4b0
  try clear c4b1
  try clear c5
  try clear c5b0
  try clear c5b1
  try clear p6
  try clear q6
  try clear hx6
  try clear qi6
  try clear p6
  try clear q6
  obtain ⟨kq, x16_1, rfl, HA, HJ1, ⟨mc1, rfl⟩⟩ := hcut
  cases kq with
  | zero => exact absurd HA.out (by simp [Qax.j0])
  | succ kj1 =>
   have H := HA.out
   clear HA
   simp only [Qax.j0] at H
   by_cases c8 : x16_1 = T
   ·subst c8
    have H1 : (some F) = some r := by rw [if_pos rfl] at H; exact H
    clear H
    have H := H1
    clear H1
    obtain rfl := Option.some.inj H
    go_wp2
    go_ret
    exact ⟨Zs, Zd⟩
   replace c8 := Bool.eq_false_iff.mpr c8
   subst c8
   have H1 : (Qax.l0 kj1 a0 (a0.size : Int) 0) = some r := by rw [if_neg (show ¬ (F = T) by decide)] at H; exact H
   clear H
   have H := H1
   clear H1
   have H' := Aside0.mk H
   clear H
   go_wp2
   go_loopg [19] kj1 (fun kq v19 w' => ∃ (x19_2 : Int), v19 = .int .i64 x19_2 ∧ Aside0 (Qax.l0 kq a0 (a0.size : Int) x19_2 = some r) ∧ Aside0 (kq ≤ kj1) ∧ Drawn0 w w')
   case atStart => exact ⟨(0), (Zs), H', ⟨Nat.le_refl _⟩, Zd⟩
   case round =>
    clear H'
    try clear c1
    try clear p2
    try clear c3
    try clear c3b0
    try clear c3b1
    try clear c4
    try clear c4b0
    try clear c4b1
    try clear c5
    try clear c5b0
    try clear c5b1
    try clear p6
    try clear q6
    try clear hx6
    try clear qi6
    try clear c8
    try clear p2
    try clear p6
    try clear q6
    obtain ⟨x19_2, rfl, HA, HK2, ⟨m2, rfl⟩⟩ := hrel
    cases gk with
    | zero => exact absurd HA.out (by simp [Qax.l0])
    | succ k2 =>
     have H := HA.out
     clear HA
     simp only [Qax.l0] at H
     by_cases c9 : x19_2 < (a0.size : Int)
     ·rw [if_pos c9] at H
      have c9b0 : decide (x19_2 < (a0.size : Int)) = T := decide_eq_true c9
      clear c9
      (try simp only [c9b0])
      by_cases c10 : 0 ≤ x19_2
      ·rw [if_pos c10] at H
       have c10b0 : decide (0 ≤ x19_2) = T := decide_eq_true c10
       clear c10
       by_cases c11 : x19_2 < (a0.size : Int)
       ·rw [if_pos c11] at H
        have c11b0 : decide (x19_2 < (a0.size : Int)) = T := decide_eq_true c11
        clear c11
        replace H := Option.bind_eq_some_iff.mp H
        obtain ⟨t120, A130, H⟩ := H
        replace H : (if t120 = T then (Qax.l0 k2 a0 (a0.size : Int) (wrap64 (x19_2 + 1))) else ((Qbu.f (bt a0 x19_2)).bind fun t121 => (if t121 = T then (Qax.l0 k2 a0 (a0.size : Int) (wrap64 (x19_2 + 1))) else (some F)))) = some r := H
        have A13 := Aside0.mk A130
        clear A130
        by_cases c14 : t120 = T
        ·subst c14
         have H1 : (Qax.l0 k2 a0 (a0.size : Int) (wrap64 (x19_2 + 1))) = some r := by rw [if_pos rfl] at H; exact H
         clear H
         have H := H1
         clear H1
         have H' := Aside0.mk H
         clear H
         have p12 : 0 ≤ (x19_2 : Int) := Ze
         have q12 : x19_2 < (a0.size : Int) := Ze
         have hx12 := bt_at a0 x19_2
         replace p12 := eq_true p12
         replace q12 := eq_true q12
         go_wp2_with (first | ((with_reducible refine QaA (f := 121) rfl ?_); refine goesL_ (some 25) rfl rfl Try.func121 (by kernel_rfl) rfl #[.int .u8 (bt a0 x19_2)] rfl (Zl) ?_; (with_reducible refine (Qbo.calls (bt a0 x19_2) T _ A13.out).mono ?_); rintro e w' ⟨rfl, ⟨nd, rfl⟩⟩; refine ⟨_, rfl, ?_⟩))
         go_roundg k2
         case measure => have := HJ1.out; have := HK2.out; omega
         case rel => exact ⟨(wrap64 (x19_2 + 1)), (Zs), H', ⟨by have := HJ1.out; have := HK2.out; omega⟩, Zd⟩
        replace c14 := Bool.eq_false_iff.mpr c14
        subst c14
        have H1 : ((Qbu.f (bt a0 x19_2)).bind fun t121 => (if t121 = T then (Qax.l0 k2 a0 (a0.size : Int) (wrap64 (x19_2 + 1))) else (some F))) = some r := by rw [if_neg (show ¬ (F = T) by decide)] at H; exact H
        clear H
        have H := H1
        clear H1
        replace H := Option.bind_eq_some_iff.mp H
        obtain ⟨t121, A160, H⟩ := H
        replace H : (if t121 = T then (Qax.l0 k2 a0 (a0.size : Int) (wrap64 (x19_2 + 1))) else (some F)) = some r := H
        have A16 := Aside0.mk A160
        clear A160
        have p12 : 0 ≤ (x19_2 : Int) := Ze
        have q12 : x19_2 < (a0.size : Int) := Ze
        have hx12 := bt_at a0 x19_2
        replace p12 := eq_true p12
        replace q12 := eq_true q12
        go_upto_if 33 with (first | ((with_reducible refine QaA (f := 121) rfl ?_); refine goesL_ (some 25) rfl rfl Try.func121 (by kernel_rfl) rfl #[.int .u8 (bt a0 x19_2)] rfl (Zl) ?_; (with_reducible refine (Qbo.calls (bt a0 x19_2) F _ A13.out).mono ?_); rintro e w' ⟨rfl, ⟨nd, rfl⟩⟩; refine ⟨_, rfl, ?_⟩; have p15 : 0 ≤ (x19_2 : Int) := Ze; have q15 : x19_2 < (a0.size : Int) := Ze; have hx15 := bt_at a0 x19_2; replace p15 := eq_true p15; replace q15 := eq_true q15) | (go_at_call 122; (with_reducible refine (Qbu.calls (bt a0 x19_2) t121 _ A16.out).mono ?_); rintro e w' ⟨rfl, ⟨nd, rfl⟩⟩))
        (try simp only [Act.put, Zj, Zk, Zm])
        by_cases c17 : t121 = T
        ·subst c17
         have H1 : (Qax.l0 k2 a0 (a0.size : Int) (wrap64 (x19_2 + 1))) = some r := by rw [if_pos rfl] at H; exact H
         clear H
         have H := H1
         clear H1
         have H' := Aside0.mk H
         clear H
         go_wp2
         go_roundg k2
         case measure => have := HJ1.out; have := HK2.out; omega
         case rel => exact ⟨(wrap64 (x19_2 + 1)), (Zs), H', ⟨by have := HJ1.out; have := HK2.out; omega⟩, Zd⟩
        replace c17 := Bool.eq_false_iff.mpr c17
        subst c17
        have H1 : (some F) = some r := by rw [if_neg (show ¬ (F = T) by decide)] at H; exact H
        clear H
        have H := H1
        clear H1
        obtain rfl := Option.some.inj H
        go_wp2
        go_ret
        exact ⟨Zs, Zd⟩
       rw [if_neg c11] at H
       exact absurd H (by simp)
      rw [if_neg c10] at H
      exact absurd H (by simp)
     rw [if_neg c9] at H
     have c9b0 : decide (x19_2 < (a0.size : Int)) = F := decide_eq_false c9
     clear c9
     (try simp only [c9b0])
     obtain rfl := Option.some.inj H
     go_wp2
     go_ret
     exact ⟨Zs, Zd⟩
def Qa7.f (a0 : Int) : Option (Bool) := if a0 ≥ 0 then (some (decide (a0 ≤ 1000))) else (some F)
set_option maxHeartbeats 8000000 in
theorem Qa7.calls (a0 : Int) (r : Bool) (w : World) (h : Qa7.f a0 = some r) :
  Calls Try.prog 109 #[.int .i64 a0] w fun e w' => e = .returned (.bool r) ∧ Drawn0 w w' := by
 have H : (if a0 ≥ 0 then (some (decide (a0 ≤ 1000))) else (some F)) = some r := h
 clear h
 by_cases c2 : a0 ≥ 0
 ·rw [if_pos c2] at H
  have c2b0 : decide (0 ≤ a0) = T := decide_eq_true c2
  clear c2
  obtain rfl := Option.some.inj H
  go_enter Try.func109, Try.ntmps109
  go_wp2
  go_ret
  exact ⟨Zs, Zd⟩
 rw [if_neg c2] at H
 have c2b0 : decide (0 ≤ a0) = F := decide_eq_false c2
 clear c2
 obtain rfl := Option.some.inj H
 go_enter Try.func109, Try.ntmps109
 go_wp2
 go_ret
 exact ⟨Zs, Zd⟩
def Qbs.f (a0 : Int) : Option (Bool) := if a0 ≥ 0 then (some (decide (a0 ≤ 1152921504606846976))) else (some F)
set_option maxHeartbeats 8000000 in
theorem Qbs.calls (a0 : Int) (r : Bool) (w : World) (h : Qbs.f a0 = some r) :
  Calls Try.prog 80 #[.int .i64 a0] w fun e w' => e = .returned (.bool r) ∧ Drawn0 w w' := by
 have H : (if a0 ≥ 0 then (some (decide (a0 ≤ 1152921504606846976))) else (some F)) = some r := h
 clear h
 by_cases c2 : a0 ≥ 0
 ·rw [if_pos c2] at H
  have c2b0 : decide (0 ≤ a0) = T := decide_eq_true c2
  clear c2
  obtain rfl := Option.some.inj H
  go_enter Try.func80, Try.ntmps80
  go_wp2
  go_ret
  exact ⟨Zs, Zd⟩
 rw [if_neg c2] at H
 have c2b0 : decide (0 ≤ a0) = F := decide_eq_false c2
 clear c2
 obtain rfl := Option.some.inj H
 go_enter Try.func80, Try.ntmps80
 go_wp2
 go_ret
 exact ⟨Zs, Zd⟩
def QaV.j0 : Nat → Int → Int → Bool → Option (Int × Int)
 | 0, _, _, _ => none
 | k + 1, x0, x1, x15 => if x15 = T then (some (0, 2)) else ((Qa5.f x0).bind fun t130 => ((Qa5.f x1).bind fun t131 => ((Qa9.f t130 t131).bind fun bt132 => (if bt132.1 > 0 then (some (0, 3)) else ((Qa2.f bt132.2 (!((decide (x0 < 0)) == (decide (x1 < 0))))).bind fun bt134 => (some (bt134.1, bt134.2)))))))
def QaV.f (k : Nat) (a0 : Int) (a1 : Int) : Option (Int × Int) := (Qbb.f a0).bind fun t128 => (if t128 = T then ((Qbb.f a1).bind fun t129 => (QaV.j0 k a0 a1 (!t129))) else (QaV.j0 k a0 a1 T))
theorem QaV.mono_l : ∀ k, (∀ y0 y1 y2, LeO (QaV.j0 k y0 y1 y2) (QaV.j0 (k + 1) y0 y1 y2))
 | 0 => fun _ _ _ r h => by simp [QaV.j0] at h
 | k + 1 => by
  have ih0 := QaV.mono_l k
  intro y0 y1 y2
  unfold QaV.j0
  exact ZM1 ih0
theorem QaV.mono : ∀ a0 a1 k, LeO (QaV.f k a0 a1) (QaV.f (k + 1) a0 a1) := by
 intro a0 a1 k
 have ih0 := QaV.mono_l k
 unfold QaV.f
 exact ZM1 ih0
set_option maxHeartbeats 8000000 in
theorem QaV.calls (k : Nat) (a0 : Int) (a1 : Int) (r1 : Int) (r2 : Int) (w : World) (h : QaV.f k a0 a1 = some (r1, r2)) :
  Calls Try.prog 125 #[.int .i64 a0, .int .i64 a1] w fun e w' => e = .returned (.tuple #[.int .i64 r1, .int .i64 r2]) ∧ Drawn0 w w' := by
 have H : ((Qbb.f a0).bind fun t128 => (if t128 = T then ((Qbb.f a1).bind fun t129 => (QaV.j0 k a0 a1 (!t129))) else (QaV.j0 k a0 a1 T))) = some (r1, r2) := h
 clear h
 have HC3 := Aside0.mk H
 clear H
 go_enter Try.func125, Try.ntmps125
 go_upto_region 1 with (fail)
 go_cut [15] (fun v15 wc => ∃ (kq : Nat) (x15_2 : Bool), v15 = .bool x15_2 ∧ Aside0 (QaV.j0 kq a0 a1 x15_2 = some (r1, r2)) ∧ Aside0 (kq ≤ k) ∧ Drawn0 w wc)
 case first =>
  have H := HC3.out
  clear HC3
  replace H := Option.bind_eq_some_iff.mp H
  obtain ⟨t128, A40, H⟩ := H
  replace H : (if t128 = T then ((Qbb.f a1).bind fun t129 => (QaV.j0 k a0 a1 (!t129))) else (QaV.j0 k a0 a1 T)) = some (r1, r2) := H
  have A4 := Aside0.mk A40
  clear A40
  by_cases c5 : t128 = T
  ·subst c5
   have H1 : ((Qbb.f a1).bind fun t129 => (QaV.j0 k a0 a1 (!t129))) = some (r1, r2) := by rw [if_pos rfl] at H; exact H
   clear H
   have H := H1
   clear H1
   replace H := Option.bind_eq_some_iff.mp H
   obtain ⟨t129, A60, H⟩ := H
   replace H : (QaV.j0 k a0 a1 (!t129)) = some (r1, r2) := H
   have A6 := Aside0.mk A60
   clear A60
   have H' := Aside0.mk H
   clear H
   go_wp2_with (first | ((with_reducible refine QaA (f := 87) rfl ?_); refine goesL_ (some 9) rfl rfl Try.func87 (by kernel_rfl) rfl #[.int .i64 a0] rfl (Zl) ?_; (with_reducible refine (Qbb.calls a0 T _ A4.out).mono ?_); rintro e w' ⟨rfl, ⟨nd, rfl⟩⟩; refine ⟨_, rfl, ?_⟩) | (go_at_call 87; (with_reducible refine (Qbb.calls a1 t129 _ A6.out).mono ?_); rintro e w' ⟨rfl, ⟨nd, rfl⟩⟩))
   go_meet
   case rel => exact ⟨_, (!t129), (Zs), H', ⟨by first | omega | exact Nat.le_refl _⟩, Zd⟩
  replace c5 := Bool.eq_false_iff.mpr c5
  subst c5
  have H1 : (QaV.j0 k a0 a1 T) = some (r1, r2) := by rw [if_neg (show ¬ (F = T) by decide)] at H; exact H
  clear H
  have H := H1
  clear H1
  have H' := Aside0.mk H
  clear H
  go_wp2_with (first | ((with_reducible refine QaA (f := 87) rfl ?_); refine goesL_ (some 9) rfl rfl Try.func87 (by kernel_rfl) rfl #[.int .i64 a0] rfl (Zl) ?_; (with_reducible refine (Qbb.calls a0 F _ A4.out).mono ?_); rintro e w' ⟨rfl, ⟨nd, rfl⟩⟩; refine ⟨_, rfl, ?_⟩))
  go_meet
  case rel => exact ⟨_, (T), (Zs), H', ⟨by first | omega | exact Nat.le_refl _⟩, Zd⟩
 case rest =>
  clear HC3
  try clear c1
  try clear p2
  try clear c5
  obtain ⟨kq, x15_2, rfl, HA, HJ2, ⟨mc2, rfl⟩⟩ := hcut
  cases kq with
  | zero => exact absurd HA.out (by simp [QaV.j0])
  | succ kj2 =>
   have H := HA.out
   clear HA
   simp only [QaV.j0] at H
   by_cases c7 : x15_2 = T
   ·subst c7
    have H1 : (some (0, 2)) = some (r1, r2) := by rw [if_pos rfl] at H; exact H
    clear H
    have H := H1
    clear H1
    simp only [Option.some.injEq, Prod.mk.injEq] at H
    obtain ⟨rfl, rfl⟩ := H
    go_wp2
    go_ret2
    exact ⟨Zs, Zd⟩
   replace c7 := Bool.eq_false_iff.mpr c7
   subst c7
   have H1 : ((Qa5.f a0).bind fun t130 => ((Qa5.f a1).bind fun t131 => ((Qa9.f t130 t131).bind fun bt132 => (if bt132.1 > 0 then (some (0, 3)) else ((Qa2.f bt132.2 (!((decide (a0 < 0)) == (decide (a1 < 0))))).bind fun bt134 => (some (bt134.1, bt134.2))))))) = some (r1, r2) := by rw [if_neg (show ¬ (F = T) by decide)] at H; exact H
   clear H
   have H := H1
   clear H1
   replace H := Option.bind_eq_some_iff.mp H
   obtain ⟨t130, A80, H⟩ := H
   replace H : ((Qa5.f a1).bind fun t131 => ((Qa9.f t130 t131).bind fun bt132 => (if bt132.1 > 0 then (some (0, 3)) else ((Qa2.f bt132.2 (!((decide (a0 < 0)) == (decide (a1 < 0))))).bind fun bt134 => (some (bt134.1, bt134.2)))))) = some (r1, r2) := H
   have A8 := Aside0.mk A80
   clear A80
   replace H := Option.bind_eq_some_iff.mp H
   obtain ⟨t131, A90, H⟩ := H
   replace H : ((Qa9.f t130 t131).bind fun bt132 => (if bt132.1 > 0 then (some (0, 3)) else ((Qa2.f bt132.2 (!((decide (a0 < 0)) == (decide (a1 < 0))))).bind fun bt134 => (some (bt134.1, bt134.2))))) = some (r1, r2) := H
   have A9 := Aside0.mk A90
   clear A90
   replace H := Option.bind_eq_some_iff.mp H
   obtain ⟨⟨t132, t133⟩, A100, H⟩ := H
   replace H : (if t132 > 0 then (some (0, 3)) else ((Qa2.f t133 (!((decide (a0 < 0)) == (decide (a1 < 0))))).bind fun bt134 => (some (bt134.1, bt134.2)))) = some (r1, r2) := H
   have A10 := Aside0.mk A100
   clear A100
   go_upto_if 25 with (first | ((with_reducible refine QaA (f := 89) rfl ?_); refine goesL_ (some 18) rfl rfl Try.func89 (by kernel_rfl) rfl #[.int .i64 a0] rfl (Zl) ?_; (with_reducible refine (Qa5.calls a0 t130 _ A8.out).mono ?_); rintro e w' ⟨rfl, ⟨nd, rfl⟩⟩; refine ⟨_, rfl, ?_⟩) | ((with_reducible refine QaA (f := 89) rfl ?_); refine goesL_ (some 20) rfl rfl Try.func89 (by kernel_rfl) rfl #[.int .i64 a1] rfl (Zl) ?_; (with_reducible refine (Qa5.calls a1 t131 _ A9.out).mono ?_); rintro e w' ⟨rfl, ⟨nd, rfl⟩⟩; refine ⟨_, rfl, ?_⟩) | ((with_reducible refine QaA (f := 88) rfl ?_); refine goesL_ (some 21) rfl rfl Try.func88 (by kernel_rfl) rfl #[.int .u64 t130, .int .u64 t131] rfl (Zl) ?_; (with_reducible refine (Qa9.calls t130 t131 t132 t133 _ A10.out).mono ?_); rintro e w' ⟨rfl, ⟨nd, rfl⟩⟩; refine ⟨_, rfl, ?_⟩))
   (try simp only [Act.put, Zj, Zk, Zm])
   by_cases c11 : t132 > 0
   ·rw [if_pos c11] at H
    have c11b0 : decide (0 < t132) = T := decide_eq_true c11
    clear c11
    (try simp only [c11b0])
    simp only [Option.some.injEq, Prod.mk.injEq] at H
    obtain ⟨rfl, rfl⟩ := H
    go_wp2
    go_ret2
    exact ⟨Zs, Zd⟩
   rw [if_neg c11] at H
   have c11b0 : decide (0 < t132) = F := decide_eq_false c11
   clear c11
   (try simp only [c11b0])
   replace H := Option.bind_eq_some_iff.mp H
   obtain ⟨⟨t134, t135⟩, A120, H⟩ := H
   replace H : (some (t134, t135)) = some (r1, r2) := H
   have A12 := Aside0.mk A120
   clear A120
   simp only [Option.some.injEq, Prod.mk.injEq] at H
   obtain ⟨rfl, rfl⟩ := H
   go_wp2_with (first | ((with_reducible refine QaA (f := 92) rfl ?_); refine goesL_ (some 32) rfl rfl Try.func92 (by kernel_rfl) rfl #[.int .u64 t133, .bool (!((decide (a0 < 0)) == (decide (a1 < 0))))] rfl (Zl) ?_; (with_reducible refine (Qa2.calls t133 (!((decide (a0 < 0)) == (decide (a1 < 0)))) t134 t135 _ A12.out).mono ?_); rintro e w' ⟨rfl, ⟨nd, rfl⟩⟩; refine ⟨_, rfl, ?_⟩))
   go_ret2
   exact ⟨Zs, Zd⟩
def Qbg.f (k : Nat) (a0_0 : ByteArray) (a0_1 : Int) : Option (Bool) := (Qax.f k a0_0).bind fun t143 => (some (!t143))
theorem Qbg.mono : ∀ a0 a1 k, LeO (Qbg.f k a0 a1) (Qbg.f (k + 1) a0 a1) := by
 intro a0 a1 k
 unfold Qbg.f
 exact ZM1 Qax.mono
set_option maxHeartbeats 8000000 in
theorem Qbg.calls (k : Nat) (a0_0 : ByteArray) (a0_1 : Int) (r : Bool) (w : World) (h : Qbg.f k a0_0 a0_1 = some r) :
  Calls Try.prog 111 #[.agg #[.string a0_0, .int .i64 a0_1]] w fun e w' => e = .returned (.bool r) ∧ Below w.heap.size w w' := by
 have hu98 := Try.underlying98
 have HB := Aside0.mk (Below.refl w.heap.size w)
 have H : ((Qax.f k a0_0).bind fun t143 => (some (!t143))) = some r := h
 clear h
 replace H := Option.bind_eq_some_iff.mp H
 obtain ⟨t143, A20, H⟩ := H
 replace H : (some (!t143)) = some r := H
 have A2 := Aside0.mk A20
 clear A20
 obtain rfl := Option.some.inj H
 go_enter Try.func111, Try.ntmps111
 go_wp2_with (first | ((with_reducible refine QaE (N := 1) rfl ?_); refine Zbx (N := 1) (cs := #[.string a0_0, .int .i64 a0_1]) (t := 98) ?_; intro gb142 hg w3 hbox hb; have BK142 := Aside0.mk (hbox); have GW142 := Aside0.mk (Zt w hg (Zb)); have GE142 := GW142; replace HB := Aside0.mk (Qaq (Zb) hb); clear hb hbox hg; obtain ⟨hcz4_0, hfz4_0⟩ := Zy (v := (.string a0_0)) BK142.out 0; obtain ⟨hcz4_1, hfz4_1⟩ := Zy (v := (.int .i64 a0_1)) BK142.out 1) | ((with_reducible refine QaA (f := 108) rfl ?_); refine goesL_ (some 5) rfl rfl Try.func108 (by kernel_rfl) rfl #[.string a0_0] rfl (Zl) ?_; (with_reducible refine (Qax.calls k a0_0 t143 _ A2.out).mono ?_); rintro e w' ⟨rfl, ⟨nd, rfl⟩⟩; refine ⟨_, rfl, ?_⟩))
 go_ret
 exact ⟨Zq, Zc1 GE142.out⟩
end Go.Proofs.Ytfcaaefdmabkhaa.Pr
